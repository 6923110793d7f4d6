/- THE WALKS of value.Op and of the reference's OpOf. -/
import Derived.Test.YtfnmepnbbeijhaaDoorDLaws1
import Derived.Deep.RegionHeld3
namespace Go.Proofs.YtfnmepnbbeijhaaDoor
open Go Go.RowKit

/-- A comparison's answer as a number. -/
def askN (o : Option Bool) : Int := if o = some true then 1 else 0

theorem truth_any (b : Bool) (w : World) : Calls Tryd.prog 55 #[.bool b] w fun e w' =>
    e = .returned (.agg #[.bool false, .int .i64 (askN (some b)), .string ⟨#[]⟩]) ∧ Below w.heap.size w w' := by
  cases b
  all_goals
    go_enter Tryd.func55, Tryd.ntmps55
    go_wp2_with fail
    refine (number_any _ _).mono ?_
    rintro e w1 ⟨rfl, rfl⟩
    go_wp2_with fail
    exact bodyPost_ret (v := .agg #[.bool false, .int .i64 (askN (some _)), .string ⟨#[]⟩]) (by simp [results, Tryd.results55, go_sem, askN]) rfl ⟨rfl, ((Below.refl _ _).alloc (Nat.le_refl _) _).alloc (by simp) _⟩

/-- Two boxes of structs of three cells, in a later world. -/
structure Box2 (w0 w' : World) (a b c a' b' c' : Value) (T : TypeId) : Prop where
  h : Below (w0.heap.size + 2) ((w0.alloc (.cells #[a, b, c] T)).alloc (.cells #[a', b', c'] T)) w'
theorem Box2.start {w0 : World} {a b c a' b' c' : Value} {T : TypeId} : Box2 w0 ((w0.alloc (.cells #[a, b, c] T)).alloc (.cells #[a', b', c'] T)) a b c a' b' c' T := ⟨Below.refl _ _⟩
theorem Box2.startd {w0 : World} {a b c a' b' c' : Value} {T : TypeId} : Box2 w0 ((w0.alloc (.cells #[a, b, c] T)).alloc (.cells #[a', b', c'] T)).drew a b c a' b' c' T := ⟨Below.drew (Below.refl _ _)⟩
theorem Box2.next {w0 w1 w2 : World} {a b c a' b' c' : Value} {T : TypeId} (h : Box2 w0 w1 a b c a' b' c' T) (h2 : Below w1.heap.size w1 w2) : Box2 w0 w2 a b c a' b' c' T :=
  ⟨below_next h.h h2 (by simp)⟩
theorem Box2.drew {w0 w1 : World} {a b c a' b' c' : Value} {T : TypeId} (h : Box2 w0 w1 a b c a' b' c' T) : Box2 w0 w1.drew a b c a' b' c' T := ⟨h.h.drew⟩
theorem Box2.cells {w0 w1 : World} {a b c a' b' c' : Value} {T : TypeId} (h : Box2 w0 w1 a b c a' b' c' T) :
    w1.cell? ⟨w0.heap.size, 0, none⟩ = some a ∧ w1.cell? ⟨w0.heap.size, 1, none⟩ = some b ∧ w1.cell? ⟨w0.heap.size, 2, none⟩ = some c ∧
    w1.cell? ⟨w0.heap.size + 1, 0, none⟩ = some a' ∧ w1.cell? ⟨w0.heap.size + 1, 1, none⟩ = some b' ∧ w1.cell? ⟨w0.heap.size + 1, 2, none⟩ = some c' := by
  refine ⟨(Below.cell h.h (p := ⟨w0.heap.size, 0, none⟩) (by simp)).trans ?_, (Below.cell h.h (p := ⟨w0.heap.size, 1, none⟩) (by simp)).trans ?_, (Below.cell h.h (p := ⟨w0.heap.size, 2, none⟩) (by simp)).trans ?_,
    (Below.cell h.h (p := ⟨w0.heap.size + 1, 0, none⟩) (by simp)).trans ?_, (Below.cell h.h (p := ⟨w0.heap.size + 1, 1, none⟩) (by simp)).trans ?_, (Below.cell h.h (p := ⟨w0.heap.size + 1, 2, none⟩) (by simp)).trans ?_⟩ <;> simp [go_sem]
theorem Box2.below {w0 w1 : World} {a b c a' b' c' : Value} {T : TypeId} (h : Box2 w0 w1 a b c a' b' c' T) : Below w0.heap.size w0 w1 :=
  (((Below.refl _ _).alloc (Nat.le_refl _) _).alloc (by simp) _).trans (Below.mono h.h (by omega))

/-- What a comparison of two values finds: below 0, 0, above. -/
def cmpOf : Bool → Int → ByteArray → Bool → Int → ByteArray → Int
  | false, na, _, false, nb, _ => na - nb
  | ta, na, sa, tb, nb, sb => Lib.compareBytes (strOf ta na sa).data.toList (strOf tb nb sb).data.toList

/-- A value is what a value is: no number beyond 2^40. -/
def numOk (n : Int) : Prop := -1099511627776 ≤ n ∧ n ≤ 1099511627776

theorem str_ok (t : Bool) (n : Int) (s : ByteArray) (w : World) (hn : Hid (numOk n)) (ht : Pow10 w) :
    Calls Tryd.prog 15 #[.agg #[.bool t, .int .i64 n, .string s]] w fun e w' => e = .returned (.string (strOf t n s)) ∧ Below w.heap.size w w' :=
  str_any t n s w (by have := hn.out.1; omega) (by have := hn.out.2; omega) ht

theorem compare_nn (na : Int) (sa : ByteArray) (nb : Int) (sb : ByteArray) (w : World) (ha : numOk na) (hb : numOk nb) :
    Calls Tryd.prog 54 #[.agg #[.bool false, .int .i64 na, .string sa], .agg #[.bool false, .int .i64 nb, .string sb]] w fun e w' =>
    e = .returned (.int .i64 (cmpOf false na sa false nb sb)) ∧ Below w.heap.size w w' := by
  obtain ⟨a0, a1⟩ := ha
  obtain ⟨b0, b1⟩ := hb
  have HE : Hid (cmpOf false na sa false nb sb = na - nb) := rfl
  go_enter Tryd.func54, Tryd.ntmps54
  go_wp2_with fail
  go_ret
  exact ⟨ret_int HE.out.symm, ((Below.refl _ _).alloc (Nat.le_refl _) _).alloc (by simp) _⟩

set_option maxRecDepth 10000 in
set_option maxHeartbeats 400000 in
theorem compare_nt (na : Int) (sa : ByteArray) (nb : Int) (sb : ByteArray) (w : World) (ht : Pow10 w) (ha : numOk na) (hb : numOk nb) :
    Calls Tryd.prog 54 #[.agg #[.bool false, .int .i64 na, .string sa], .agg #[.bool true, .int .i64 nb, .string sb]] w fun e w' =>
    e = .returned (.int .i64 (cmpOf false na sa true nb sb)) ∧ Below w.heap.size w w' := by
  have HE : Hid (cmpOf false na sa true nb sb = Lib.compareBytes (strOf false na sa).data.toList (strOf true nb sb).data.toList) := rfl
  generalize cmpOf false na sa true nb sb = r at HE ⊢
  have HT := Lib.hid ht
  have HA := Lib.hid ha
  have HB := Lib.hid hb
  clear ht ha hb
  go_enter Tryd.func54, Tryd.ntmps54
  go_wp2_with fail
  go_region_held3 (fun w' => (w'.cell? ⟨w.heap.size, 0, none⟩ = some (.bool false) ∧ w'.cell? ⟨w.heap.size, 1, none⟩ = some (.int .i64 na) ∧ w'.cell? ⟨w.heap.size, 2, none⟩ = some (.string sa) ∧
        w'.cell? ⟨w.heap.size + 1, 0, none⟩ = some (.bool true) ∧ w'.cell? ⟨w.heap.size + 1, 1, none⟩ = some (.int .i64 nb) ∧ w'.cell? ⟨w.heap.size + 1, 2, none⟩ = some (.string sb)) ∧
        Box2 w w' (.bool false) (.int .i64 na) (.string sa) (.bool true) (.int .i64 nb) (.string sb) 24)
    (first | exact ⟨Box2.cells Box2.startd, Box2.startd⟩ | (go_split_ands; exact ⟨Box2.cells (Box2.next (by assumption) hbl), Box2.next (by assumption) hbl⟩) | (go_split_ands; exact ⟨Box2.cells (by assumption), by assumption⟩))
    (first
      | (go_at_call 15; refine (str_ok _ _ _ _ (by assumption) ?_).mono ?_; (go_split_ands; exact HT.out.mono (Box2.below (by assumption))); rintro e w1 ⟨rfl, hbl⟩)
      | (go_at_call 65; refine (Tryd.strings_Compare _ _ _).mono ?_; rintro e w1 ⟨rfl, rfl⟩))
  go_wp2_with fail
  go_ret
  obtain ⟨_, hB⟩ := ‹_ ∧ Box2 _ _ _ _ _ _ _ _ _›
  exact ⟨ret_int HE.out.symm, hB.below⟩

set_option maxRecDepth 10000 in
set_option maxHeartbeats 400000 in
theorem compare_tn (na : Int) (sa : ByteArray) (nb : Int) (sb : ByteArray) (w : World) (ht : Pow10 w) (ha : numOk na) (hb : numOk nb) :
    Calls Tryd.prog 54 #[.agg #[.bool true, .int .i64 na, .string sa], .agg #[.bool false, .int .i64 nb, .string sb]] w fun e w' =>
    e = .returned (.int .i64 (cmpOf true na sa false nb sb)) ∧ Below w.heap.size w w' := by
  have HE : Hid (cmpOf true na sa false nb sb = Lib.compareBytes (strOf true na sa).data.toList (strOf false nb sb).data.toList) := rfl
  generalize cmpOf true na sa false nb sb = r at HE ⊢
  have HT := Lib.hid ht
  have HA := Lib.hid ha
  have HB := Lib.hid hb
  clear ht ha hb
  go_enter Tryd.func54, Tryd.ntmps54
  go_wp2_with fail
  go_region_held3 (fun w' => (w'.cell? ⟨w.heap.size, 0, none⟩ = some (.bool true) ∧ w'.cell? ⟨w.heap.size, 1, none⟩ = some (.int .i64 na) ∧ w'.cell? ⟨w.heap.size, 2, none⟩ = some (.string sa) ∧
        w'.cell? ⟨w.heap.size + 1, 0, none⟩ = some (.bool false) ∧ w'.cell? ⟨w.heap.size + 1, 1, none⟩ = some (.int .i64 nb) ∧ w'.cell? ⟨w.heap.size + 1, 2, none⟩ = some (.string sb)) ∧
        Box2 w w' (.bool true) (.int .i64 na) (.string sa) (.bool false) (.int .i64 nb) (.string sb) 24)
    (first | exact ⟨Box2.cells Box2.startd, Box2.startd⟩ | (go_split_ands; exact ⟨Box2.cells (Box2.next (by assumption) hbl), Box2.next (by assumption) hbl⟩) | (go_split_ands; exact ⟨Box2.cells (by assumption), by assumption⟩))
    (first
      | (go_at_call 15; refine (str_ok _ _ _ _ (by assumption) ?_).mono ?_; (go_split_ands; exact HT.out.mono (Box2.below (by assumption))); rintro e w1 ⟨rfl, hbl⟩)
      | (go_at_call 65; refine (Tryd.strings_Compare _ _ _).mono ?_; rintro e w1 ⟨rfl, rfl⟩))
  go_wp2_with fail
  go_ret
  obtain ⟨_, hB⟩ := ‹_ ∧ Box2 _ _ _ _ _ _ _ _ _›
  exact ⟨ret_int HE.out.symm, hB.below⟩

set_option maxRecDepth 10000 in
set_option maxHeartbeats 400000 in
theorem compare_tt (na : Int) (sa : ByteArray) (nb : Int) (sb : ByteArray) (w : World) (ht : Pow10 w) (ha : numOk na) (hb : numOk nb) :
    Calls Tryd.prog 54 #[.agg #[.bool true, .int .i64 na, .string sa], .agg #[.bool true, .int .i64 nb, .string sb]] w fun e w' =>
    e = .returned (.int .i64 (cmpOf true na sa true nb sb)) ∧ Below w.heap.size w w' := by
  have HE : Hid (cmpOf true na sa true nb sb = Lib.compareBytes (strOf true na sa).data.toList (strOf true nb sb).data.toList) := rfl
  generalize cmpOf true na sa true nb sb = r at HE ⊢
  have HT := Lib.hid ht
  have HA := Lib.hid ha
  have HB := Lib.hid hb
  clear ht ha hb
  go_enter Tryd.func54, Tryd.ntmps54
  go_wp2_with fail
  go_region_held3 (fun w' => (w'.cell? ⟨w.heap.size, 0, none⟩ = some (.bool true) ∧ w'.cell? ⟨w.heap.size, 1, none⟩ = some (.int .i64 na) ∧ w'.cell? ⟨w.heap.size, 2, none⟩ = some (.string sa) ∧
        w'.cell? ⟨w.heap.size + 1, 0, none⟩ = some (.bool true) ∧ w'.cell? ⟨w.heap.size + 1, 1, none⟩ = some (.int .i64 nb) ∧ w'.cell? ⟨w.heap.size + 1, 2, none⟩ = some (.string sb)) ∧
        Box2 w w' (.bool true) (.int .i64 na) (.string sa) (.bool true) (.int .i64 nb) (.string sb) 24)
    (first | exact ⟨Box2.cells Box2.startd, Box2.startd⟩ | (go_split_ands; exact ⟨Box2.cells (Box2.next (by assumption) hbl), Box2.next (by assumption) hbl⟩) | (go_split_ands; exact ⟨Box2.cells (by assumption), by assumption⟩))
    (first
      | (go_at_call 15; refine (str_ok _ _ _ _ (by assumption) ?_).mono ?_; (go_split_ands; exact HT.out.mono (Box2.below (by assumption))); rintro e w1 ⟨rfl, hbl⟩)
      | (go_at_call 65; refine (Tryd.strings_Compare _ _ _).mono ?_; rintro e w1 ⟨rfl, rfl⟩))
  go_wp2_with fail
  go_ret
  obtain ⟨_, hB⟩ := ‹_ ∧ Box2 _ _ _ _ _ _ _ _ _›
  exact ⟨ret_int HE.out.symm, hB.below⟩

theorem compare_any (ta : Bool) (na : Int) (sa : ByteArray) (tb : Bool) (nb : Int) (sb : ByteArray) (w : World) (ht : Pow10 w) (ha : numOk na) (hb : numOk nb) :
    Calls Tryd.prog 54 #[.agg #[.bool ta, .int .i64 na, .string sa], .agg #[.bool tb, .int .i64 nb, .string sb]] w fun e w' =>
    e = .returned (.int .i64 (cmpOf ta na sa tb nb sb)) ∧ Below w.heap.size w w' := by
  cases ta <;> cases tb
  · exact compare_nn na sa nb sb w ha hb
  · exact compare_nt na sa nb sb w ht ha hb
  · exact compare_tn na sa nb sb w ht ha hb
  · exact compare_tt na sa nb sb w ht ha hb

/-- A number that is not too great, and how the run ends. -/
def bndE (z : Int) : Int × Int := if -1099511627776 ≤ z ∧ z ≤ 1099511627776 then (z, 0) else (0, 3)
theorem bnd_in {z : Int} (h0 : -1099511627776 ≤ z) (h1 : z ≤ 1099511627776) : bndE z = (z, 0) := if_pos ⟨h0, h1⟩
theorem bnd_out {z : Int} (h : z < -1099511627776 ∨ 1099511627776 < z) : bndE z = (0, 3) := if_neg (by omega)

/-- A value and how a run ends. -/
def resV (t : Bool) (n : Int) (s : ByteArray) (e : Int) : Value := .tuple #[.agg #[.bool t, .int .i64 n, .string s], .int .i64 e]

theorem bounded_any (n : Int) (w : World) :
    Calls Tryd.prog 37 #[.int .i64 n] w fun e w' => e = .returned (resV false (bndE n).1 ⟨#[]⟩ (bndE n).2) ∧ Below w.heap.size w w' := by
  by_cases h0 : -1099511627776 ≤ n
  · by_cases h1 : n ≤ 1099511627776
    · rw [bnd_in h0 h1]
      go_enter Tryd.func37, Tryd.ntmps37
      go_wp2_with fail
      refine (number_any _ _).mono ?_
      rintro e w1 ⟨rfl, rfl⟩
      go_wp2_with fail
      exact bodyPost_ret (v := resV false n ⟨#[]⟩ 0) (by simp [resV, results, Tryd.results37, go_sem]) rfl ⟨rfl, ((Below.refl _ _).alloc (Nat.le_refl _) _).alloc (by simp) _⟩
    · rw [bnd_out (Or.inr (by omega))]
      go_enter Tryd.func37, Tryd.ntmps37
      go_wp2_with fail
      exact bodyPost_ret (v := resV false 0 ⟨#[]⟩ 3) (by simp [resV, results, Tryd.results37, go_sem]) rfl ⟨rfl, (Below.refl _ _).alloc (Nat.le_refl _) _⟩
  · rw [bnd_out (Or.inl (by omega))]
    go_enter Tryd.func37, Tryd.ntmps37
    go_wp2_with fail
    exact bodyPost_ret (v := resV false 0 ⟨#[]⟩ 3) (by simp [resV, results, Tryd.results37, go_sem]) rfl ⟨rfl, (Below.refl _ _).alloc (Nat.le_refl _) _⟩

/-- What a comparison tells of what was found; none: it is none. -/
def askAns (op : ByteArray) (c : Int) : Option Bool :=
  if op.toList == [60] then some (decide (c < 0)) else if op.toList == [60, 61] then some (decide (c ≤ 0)) else if op.toList == [61, 61] then some (c == 0)
  else if op.toList == [33, 61] then some (c != 0) else if op.toList == [62] then some (decide (0 < c)) else if op.toList == [62, 61] then some (decide (0 ≤ c)) else none

/-- A box that may be written, in a later world. -/
theorem boxw {W w1 : World} {a b c : Value} {T : TypeId} {B : Nat} (hB : W.heap.size = B) (h : Below (B + 1) (W.alloc (.cells #[a, b, c] T)) w1) :
    (w1.cell? ⟨B, 0, none⟩ = some a ∧ w1.cell? ⟨B, 1, none⟩ = some b ∧ w1.cell? ⟨B, 2, none⟩ = some c) ∧ w1.frozen? ⟨B, 0, none⟩ = false ∧ w1.frozen? ⟨B, 1, none⟩ = false ∧ w1.frozen? ⟨B, 2, none⟩ = false := by
  subst hB
  exact ⟨box3 h, (h.frozen (p := ⟨W.heap.size, 0, none⟩) (by simp)).trans (by simp [go_sem]), (h.frozen (p := ⟨W.heap.size, 1, none⟩) (by simp)).trans (by simp [go_sem]), (h.frozen (p := ⟨W.heap.size, 2, none⟩) (by simp)).trans (by simp [go_sem])⟩

theorem boxw_start {W w1 : World} {o : Obj} {B : Nat} (hB : W.heap.size = B) (h : Below (W.alloc o).heap.size (W.alloc o) w1) : Hid (Below (B + 1) (W.alloc o) w1) := by
  subst hB
  exact h.mono (by simp)
theorem boxw_next {W w1 w2 : World} {o : Obj} {B : Nat} (hB : W.heap.size = B) (h : Hid (Below (B + 1) (W.alloc o) w1)) (h2 : Below w1.heap.size w1 w2) : Hid (Below (B + 1) (W.alloc o) w2) := by
  subst hB
  exact box_next h.out h2
theorem two_size (w : World) (o1 o2 : Obj) : ((w.alloc o1).alloc o2).heap.size = w.heap.size + 1 + 1 := by simp
theorem boxw_below {w w1 : World} {o1 o2 o3 : Obj} (h : Hid (Below (w.heap.size + 1 + 1 + 1) (((w.alloc o1).alloc o2).alloc o3) w1)) : Below w.heap.size w w1 :=
  ((((Below.refl _ _).alloc (Nat.le_refl _) _).alloc (by simp) _).alloc (by simp; omega) _).trans (h.out.mono (by omega))

set_option maxRecDepth 10000 in
set_option maxHeartbeats 400000 in
theorem ask_any (op : ByteArray) (ta : Bool) (na : Int) (sa : ByteArray) (tb : Bool) (nb : Int) (sb : ByteArray) (w : World) (ht : Pow10 w) (ha : numOk na) (hb : numOk nb) :
    Calls Tryd.prog 36 #[.string op, .agg #[.bool ta, .int .i64 na, .string sa], .agg #[.bool tb, .int .i64 nb, .string sb]] w fun e w' =>
    e = .returned (.tuple #[.agg #[.bool false, .int .i64 (askN (askAns op (cmpOf ta na sa tb nb sb))), .string ⟨#[]⟩], .bool (askAns op (cmpOf ta na sa tb nb sb)).isSome]) ∧ Below w.heap.size w w' := by
  have C := fun w1 h => compare_any ta na sa tb nb sb w1 h ha hb
  generalize cmpOf ta na sa tb nb sb = c at C ⊢
  have HC := Lib.hid C
  clear C ha hb
  have HP : Hid (∀ o1 o2 o3, Pow10 (((w.alloc o1).alloc o2).alloc o3)) := fun o1 o2 o3 => ht.mono ((((Below.refl _ _).alloc (Nat.le_refl _) _).alloc (by simp) _).alloc (by simp; omega) _)
  clear ht
  obtain ⟨r, hr⟩ : ∃ r, askAns op c = r := ⟨_, rfl⟩
  rw [hr]
  have HR := Lib.hid hr
  clear hr
  go_enter Tryd.func36, Tryd.ntmps36
  go_wp2_with fail
  refine (HC.out _ (HP.out _ _ _)).mono ?_
  rintro e w1 ⟨rfl, hb1⟩
  have HB1 := boxw_start (two_size w _ _) hb1
  clear hb1
  obtain ⟨⟨c0, c1, c2⟩, f0, f1, f2⟩ := boxw (two_size w _ _) HB1.out
  go_wp2_with (go_at_call 55; refine (truth_any _ _).mono ?_; rintro e w2 ⟨rfl, hb2⟩; have HB2 := boxw_next (two_size w _ _) HB1 hb2; clear hb2; obtain ⟨⟨d0, d1, d2⟩, g0, g1, g2⟩ := boxw (two_size w _ _) HB2.out)
  all_goals
    have hr := HR.out
    simp only [askAns, *, if_true, Bool.false_eq_true, if_false] at hr
    subst hr
  iterate 6 (exact bodyPost_ret (v := .tuple #[.agg #[.bool false, .int .i64 (askN (some _)), .string ⟨#[]⟩], .bool true]) (by simp [results, Tryd.results36, go_sem, *]) rfl ⟨rfl, (((boxw_below HB2).setCell (by simp; omega) _).setCell (by simp; omega) _).setCell (by simp; omega) _⟩)
  exact bodyPost_ret (v := .tuple #[.agg #[.bool false, .int .i64 (askN none), .string ⟨#[]⟩], .bool false]) (by simp [results, Tryd.results36, go_sem, *]; rfl) rfl ⟨rfl, (((boxw_below HB1).setCell (by simp; omega) _).setCell (by simp; omega) _).setCell (by simp; omega) _⟩
end Go.Proofs.YtfnmepnbbeijhaaDoor

/- THE WALKS of value.Op and of the reference's OpOf: both answer 'opR'. -/
import Derived.Test.YtfnmepnbbeijhaaDoorDProd
namespace Go.Proofs.YtfnmepnbbeijhaaDoor
open Go Go.RowKit

def bndV (z : Int) : Bool × Int × ByteArray × Int := (false, (bndE z).1, ⟨#[]⟩, (bndE z).2)

/-- What an operator makes of two numbers. -/
def arith (op : ByteArray) (x y : Int) : Bool × Int × ByteArray × Int :=
  if op.toList == [43] then bndV (x + y) else if op.toList == [45] then bndV (x - y) else if op.toList == [42] then bndV (x * y)
  else if y == 0 then (false, 0, ⟨#[]⟩, 2) else if op.toList == [47] then bndV (x.tdiv y) else bndV (x.tmod y)

/-- What an operator makes of a comparison's answer, of both texts put together, of both numbers. -/
def opR (op : ByteArray) (c : Option Bool) (j : ByteArray) (x y : Option Int) : Bool × Int × ByteArray × Int :=
  match c with
  | some b => (false, askN (some b), ⟨#[]⟩, 0)
  | none =>
    if op.toList == [46, 46] then (if j.size ≤ 200 then (true, 0, j, 0) else (false, 0, ⟨#[]⟩, 3))
    else match x, y with
      | some x, some y => arith op x y
      | _, _ => (false, 0, ⟨#[]⟩, 3)

def retV (r : Bool × Int × ByteArray × Int) : Value := resV r.1 r.2.1 r.2.2.1 r.2.2.2

/-- Three boxes, in a later world. -/
structure Box3R (w0 w' : World) (a b c a' b' c' : Value) (T : TypeId) : Prop where
  h : Below (w0.heap.size + 1 + 1 + 1) (((w0.alloc (.cells #[a, b, c] T)).alloc (.cells #[a', b', c'] T)).alloc (.cells #[.bool false, .int .i64 0, .string ⟨#[]⟩] T)) w'
theorem Box3R.startd {w0 : World} {a b c a' b' c' : Value} {T : TypeId} : Box3R w0 (((w0.alloc (.cells #[a, b, c] T)).alloc (.cells #[a', b', c'] T)).alloc (.cells #[.bool false, .int .i64 0, .string ⟨#[]⟩] T)).drew a b c a' b' c' T := ⟨Below.drew (Below.refl _ _)⟩
theorem Box3R.start {w0 : World} {a b c a' b' c' : Value} {T : TypeId} : Box3R w0 (((w0.alloc (.cells #[a, b, c] T)).alloc (.cells #[a', b', c'] T)).alloc (.cells #[.bool false, .int .i64 0, .string ⟨#[]⟩] T)) a b c a' b' c' T := ⟨Below.refl _ _⟩
theorem Box3R.next {w0 w1 w2 : World} {a b c a' b' c' : Value} {T : TypeId} (h : Box3R w0 w1 a b c a' b' c' T) (h2 : Below w1.heap.size w1 w2) : Box3R w0 w2 a b c a' b' c' T :=
  ⟨below_next h.h h2 (by simp)⟩
theorem Box3R.drew {w0 w1 : World} {a b c a' b' c' : Value} {T : TypeId} (h : Box3R w0 w1 a b c a' b' c' T) : Box3R w0 w1.drew a b c a' b' c' T := ⟨h.h.drew⟩
theorem Box3R.cells {w0 w1 : World} {a b c a' b' c' : Value} {T : TypeId} (h : Box3R w0 w1 a b c a' b' c' T) :
    w1.cell? ⟨w0.heap.size, 0, none⟩ = some a ∧ w1.cell? ⟨w0.heap.size, 1, none⟩ = some b ∧ w1.cell? ⟨w0.heap.size, 2, none⟩ = some c ∧
    w1.cell? ⟨w0.heap.size + 1, 0, none⟩ = some a' ∧ w1.cell? ⟨w0.heap.size + 1, 1, none⟩ = some b' ∧ w1.cell? ⟨w0.heap.size + 1, 2, none⟩ = some c' := by
  refine ⟨(Below.cell h.h (p := ⟨w0.heap.size, 0, none⟩) (by simp; omega)).trans ?_, (Below.cell h.h (p := ⟨w0.heap.size, 1, none⟩) (by simp; omega)).trans ?_, (Below.cell h.h (p := ⟨w0.heap.size, 2, none⟩) (by simp; omega)).trans ?_,
    (Below.cell h.h (p := ⟨w0.heap.size + 1, 0, none⟩) (by simp)).trans ?_, (Below.cell h.h (p := ⟨w0.heap.size + 1, 1, none⟩) (by simp)).trans ?_, (Below.cell h.h (p := ⟨w0.heap.size + 1, 2, none⟩) (by simp)).trans ?_⟩ <;> simp [go_sem]
theorem Box3R.res {w0 w1 : World} {a b c a' b' c' : Value} {T : TypeId} (h : Box3R w0 w1 a b c a' b' c' T) :
    (w1.cell? ⟨w0.heap.size + 1 + 1, 0, none⟩ = some (.bool false) ∧ w1.cell? ⟨w0.heap.size + 1 + 1, 1, none⟩ = some (.int .i64 0) ∧ w1.cell? ⟨w0.heap.size + 1 + 1, 2, none⟩ = some (.string ⟨#[]⟩)) ∧
    w1.frozen? ⟨w0.heap.size + 1 + 1, 0, none⟩ = false ∧ w1.frozen? ⟨w0.heap.size + 1 + 1, 1, none⟩ = false ∧ w1.frozen? ⟨w0.heap.size + 1 + 1, 2, none⟩ = false :=
  boxw (two_size w0 _ _) h.h
theorem Box3R.below {w0 w1 : World} {a b c a' b' c' : Value} {T : TypeId} (h : Box3R w0 w1 a b c a' b' c' T) : Below w0.heap.size w0 w1 := boxw_below h.h

theorem Box3R.alloc {w0 w1 : World} {a b c a' b' c' : Value} {T : TypeId} (h : Box3R w0 w1 a b c a' b' c' T) (o : Obj) : Box3R w0 (w1.alloc o) a b c a' b' c' T := h.next ((Below.refl _ _).alloc (Nat.le_refl _) o)

set_option maxRecDepth 10000 in
set_option maxHeartbeats 400000 in
theorem op_ask (op : ByteArray) (ta : Bool) (na : Int) (sa : ByteArray) (tb : Bool) (nb : Int) (sb : ByteArray) (w : World) (ht : Pow10 w) (ha : numOk na) (hb : numOk nb)
    (b : Bool) (hc : askAns op (cmpOf ta na sa tb nb sb) = some b) :
    Calls Tryd.prog 23 #[.string op, .agg #[.bool ta, .int .i64 na, .string sa], .agg #[.bool tb, .int .i64 nb, .string sb]] w fun e w' =>
    e = .returned (resV false (askN (some b)) ⟨#[]⟩ 0) ∧ Below w.heap.size w w' := by
  have C := fun w1 h => ask_any op ta na sa tb nb sb w1 h ha hb
  rw [hc] at C
  have HC := Lib.hid C
  have HP : Hid (∀ o1 o2 o3, Pow10 (((w.alloc o1).alloc o2).alloc o3)) := fun o1 o2 o3 => ht.mono ((((Below.refl _ _).alloc (Nat.le_refl _) _).alloc (by simp) _).alloc (by simp; omega) _)
  clear C ha hb hc ht
  go_enter Tryd.func23, Tryd.ntmps23
  go_wp2_with fail
  refine (HC.out _ (HP.out _ _ _)).mono ?_
  rintro e w1 ⟨rfl, hb1⟩
  have HB : Box3R w w1 _ _ _ _ _ _ _ := Box3R.start.next hb1
  clear hb1
  have c0 := fun o => (HB.alloc o).res.1.1
  have c1 := fun o => (HB.alloc o).res.1.2.1
  have c2 := fun o => (HB.alloc o).res.1.2.2
  have f0 := fun o => (HB.alloc o).res.2.1
  have f1 := fun o => (HB.alloc o).res.2.2.1
  have f2 := fun o => (HB.alloc o).res.2.2.2
  go_wp2_with fail
  exact bodyPost_ret (v := resV false (askN (some b)) ⟨#[]⟩ 0) (by simp [resV, results, Tryd.results23, go_sem, *]) rfl ⟨rfl, (((HB.alloc _).below.setCell (by simp; omega) _).setCell (by simp; omega) _).setCell (by simp; omega) _⟩

theorem tdiv_le (x y : Int) : (x.tdiv y).natAbs ≤ x.natAbs := by
  rw [Int.natAbs_tdiv]
  exact Nat.div_le_self _ _
theorem tmod_le (x y : Int) : (x.tmod y).natAbs ≤ x.natAbs := by
  rw [Int.natAbs_tmod]
  exact Nat.mod_le _ _

theorem two_data (s t : ByteArray) : (s ++ t).size = s.size + t.size := ByteArray.size_append

set_option maxRecDepth 10000 in
set_option maxHeartbeats 400000 in
theorem op_join (op : ByteArray) (ta : Bool) (na : Int) (sa : ByteArray) (tb : Bool) (nb : Int) (sb : ByteArray) (w : World) (ht : Pow10 w) (ha : numOk na) (hb : numOk nb)
    (hc : askAns op (cmpOf ta na sa tb nb sb) = none) (ho : (op.toList == [46, 46]) = true) (hl : (strOf ta na sa).size ≤ 1000000) (hl2 : (strOf tb nb sb).size ≤ 1000000) :
    Calls Tryd.prog 23 #[.string op, .agg #[.bool ta, .int .i64 na, .string sa], .agg #[.bool tb, .int .i64 nb, .string sb]] w fun e w' =>
    e = .returned (retV (if (strOf ta na sa ++ strOf tb nb sb).size ≤ 200 then (true, 0, strOf ta na sa ++ strOf tb nb sb, 0) else (false, 0, ⟨#[]⟩, 3))) ∧ Below w.heap.size w w' := by
  have C := fun w1 h => ask_any op ta na sa tb nb sb w1 h ha hb
  rw [hc] at C
  have HC := Lib.hid C
  have HP : Hid (∀ o1 o2 o3, Pow10 (((w.alloc o1).alloc o2).alloc o3)) := fun o1 o2 o3 => ht.mono ((((Below.refl _ _).alloc (Nat.le_refl _) _).alloc (by simp) _).alloc (by simp; omega) _)
  have HT := Lib.hid ht
  have HA := Lib.hid ha
  have HB0 := Lib.hid hb
  have HS : Hid (∀ t n s w1, Hid (numOk n) → Pow10 w1 → Calls Tryd.prog 15 #[.agg #[.bool t, .int .i64 n, .string s]] w1 fun e w' => e = .returned (.string (strOf t n s)) ∧ Below w1.heap.size w1 w') := fun t n s w1 h h2 => str_ok t n s w1 h h2
  have hsum : (strOf ta na sa).size + (strOf tb nb sb).size ≤ 2000000 := by omega
  have hno : ¬ 9223372036854775807 < (strOf ta na sa).size + (strOf tb nb sb).size := by omega
  clear C ha hb hc ht hl hl2
  by_cases hj : (strOf ta na sa ++ strOf tb nb sb).size ≤ 200
  · rw [if_pos hj]
    rw [two_data] at hj
    go_enter Tryd.func23, Tryd.ntmps23
    go_wp2_with fail
    refine (HC.out _ (HP.out _ _ _)).mono ?_
    rintro e w1 ⟨rfl, hb1⟩
    have HB : Box3R w w1 _ _ _ _ _ _ _ := Box3R.start.next hb1
    clear hb1
    go_wp2_with fail
    go_region_held3 (fun w' => (w'.cell? ⟨w.heap.size, 0, none⟩ = some (.bool ta) ∧ w'.cell? ⟨w.heap.size, 1, none⟩ = some (.int .i64 na) ∧ w'.cell? ⟨w.heap.size, 2, none⟩ = some (.string sa) ∧
          w'.cell? ⟨w.heap.size + 1, 0, none⟩ = some (.bool tb) ∧ w'.cell? ⟨w.heap.size + 1, 1, none⟩ = some (.int .i64 nb) ∧ w'.cell? ⟨w.heap.size + 1, 2, none⟩ = some (.string sb)) ∧
          Box3R w w' (.bool ta) (.int .i64 na) (.string sa) (.bool tb) (.int .i64 nb) (.string sb) 24)
      (first | exact ⟨(HB.alloc _).drew.cells, (HB.alloc _).drew⟩ | (go_split_ands; exact ⟨Box3R.cells (Box3R.next (by assumption) hbm), Box3R.next (by assumption) hbm⟩) | (go_split_ands; exact ⟨Box3R.cells (by assumption), by assumption⟩))
      (first
        | (go_at_call 15; refine (HS.out _ _ _ _ (by assumption) ?_).mono ?_; (go_split_ands; exact HT.out.mono (Box3R.below (by assumption))); rintro e w1 ⟨rfl, hbm⟩))
    obtain ⟨_, HD⟩ := ‹_ ∧ Box3R _ _ _ _ _ _ _ _ _›
    have c0 := fun o => (HD.alloc o).res.1.1
    have c1 := fun o => (HD.alloc o).res.1.2.1
    have c2 := fun o => (HD.alloc o).res.1.2.2
    have f0 := fun o => (HD.alloc o).res.2.1
    have f1 := fun o => (HD.alloc o).res.2.2.1
    have f2 := fun o => (HD.alloc o).res.2.2.2
    go_wp2_with fail
    refine (text_any _ _).mono ?_
    rintro e w4 ⟨rfl, rfl⟩
    go_wp2_with fail
    exact bodyPost_ret (v := resV true 0 (strOf ta na sa ++ strOf tb nb sb) 0) (by simp [resV, results, Tryd.results23, go_sem, *]) rfl ⟨rfl, (((HD.alloc _).below.setCell (by simp; omega) _).setCell (by simp; omega) _).setCell (by simp; omega) _⟩
  · rw [if_neg hj]
    rw [two_data] at hj
    go_enter Tryd.func23, Tryd.ntmps23
    go_wp2_with fail
    refine (HC.out _ (HP.out _ _ _)).mono ?_
    rintro e w1 ⟨rfl, hb1⟩
    have HB : Box3R w w1 _ _ _ _ _ _ _ := Box3R.start.next hb1
    clear hb1
    go_wp2_with fail
    go_region_held3 (fun w' => (w'.cell? ⟨w.heap.size, 0, none⟩ = some (.bool ta) ∧ w'.cell? ⟨w.heap.size, 1, none⟩ = some (.int .i64 na) ∧ w'.cell? ⟨w.heap.size, 2, none⟩ = some (.string sa) ∧
          w'.cell? ⟨w.heap.size + 1, 0, none⟩ = some (.bool tb) ∧ w'.cell? ⟨w.heap.size + 1, 1, none⟩ = some (.int .i64 nb) ∧ w'.cell? ⟨w.heap.size + 1, 2, none⟩ = some (.string sb)) ∧
          Box3R w w' (.bool ta) (.int .i64 na) (.string sa) (.bool tb) (.int .i64 nb) (.string sb) 24)
      (first | exact ⟨(HB.alloc _).drew.cells, (HB.alloc _).drew⟩ | (go_split_ands; exact ⟨Box3R.cells (Box3R.next (by assumption) hbm), Box3R.next (by assumption) hbm⟩) | (go_split_ands; exact ⟨Box3R.cells (by assumption), by assumption⟩))
      (first
        | (go_at_call 15; refine (HS.out _ _ _ _ (by assumption) ?_).mono ?_; (go_split_ands; exact HT.out.mono (Box3R.below (by assumption))); rintro e w1 ⟨rfl, hbm⟩))
    obtain ⟨_, HD⟩ := ‹_ ∧ Box3R _ _ _ _ _ _ _ _ _›
    obtain ⟨⟨c0, c1, c2⟩, f0, f1, f2⟩ := HD.res
    go_wp2_with fail
    exact bodyPost_ret (v := resV false 0 ⟨#[]⟩ 3) (by simp [resV, results, Tryd.results23, go_sem, *]) rfl ⟨rfl, ((HD.below.setCell (by simp; omega) _).setCell (by simp; omega) _).setCell (by simp; omega) _⟩

set_option maxRecDepth 10000 in
set_option maxHeartbeats 400000 in
theorem op_arith (op : ByteArray) (ta : Bool) (na : Int) (sa : ByteArray) (tb : Bool) (nb : Int) (sb : ByteArray) (w : World) (ht : Pow10 w) (ha : numOk na) (hb : numOk nb)
    (hc : askAns op (cmpOf ta na sa tb nb sb) = none) (ho : (op.toList == [46, 46]) = false) (hl : sa.size ≤ maxLen) (hl2 : sb.size ≤ maxLen) (x y : Int) (hx : numOf ta na sa = some x) (hy : numOf tb nb sb = some y)
    (x0 : -1099511627776 ≤ x) (x1 : x ≤ 1099511627776) (y0 : -1099511627776 ≤ y) (y1 : y ≤ 1099511627776) :
    Calls Tryd.prog 23 #[.string op, .agg #[.bool ta, .int .i64 na, .string sa], .agg #[.bool tb, .int .i64 nb, .string sb]] w fun e w' =>
    e = .returned (retV (arith op x y)) ∧ Below w.heap.size w w' := by
  have C := fun w1 h => ask_any op ta na sa tb nb sb w1 h ha hb
  rw [hc] at C
  have C1 := fun w1 => num_any ta na sa hl w1
  have C2 := fun w1 => num_any tb nb sb hl2 w1
  rw [hx] at C1
  rw [hy] at C2
  have HC := Lib.hid C
  have HC1 := Lib.hid C1
  have HC2 := Lib.hid C2
  have HP : Hid (∀ o1 o2 o3, Pow10 (((w.alloc o1).alloc o2).alloc o3)) := fun o1 o2 o3 => ht.mono ((((Below.refl _ _).alloc (Nat.le_refl _) _).alloc (by simp) _).alloc (by simp; omega) _)
  have HX := Lib.hid (show numOk x from ⟨x0, x1⟩)
  have HY := Lib.hid (show numOk y from ⟨y0, y1⟩)
  obtain ⟨r, hr⟩ : ∃ r, arith op x y = r := ⟨_, rfl⟩
  rw [hr]
  have HR := Lib.hid hr
  clear C C1 C2 ha hb hc ht hl hl2 hx hy hr
  by_cases hyz : y = 0
  · have hq : (y == 0) = true := by simpa using hyz
    clear hyz
    go_enter Tryd.func23, Tryd.ntmps23
    go_wp2_with fail
    refine (HC.out _ (HP.out _ _ _)).mono ?_
    rintro e w1 ⟨rfl, hb1⟩
    have HB : Box3R w w1 _ _ _ _ _ _ _ := Box3R.start.next hb1
    clear hb1
    have d0 := fun o => (HB.alloc o).cells.1
    have d1 := fun o => (HB.alloc o).cells.2.1
    have d2 := fun o => (HB.alloc o).cells.2.2.1
    have d3 := fun o => (HB.alloc o).cells.2.2.2.1
    have d4 := fun o => (HB.alloc o).cells.2.2.2.2.1
    have d5 := fun o => (HB.alloc o).cells.2.2.2.2.2
    go_wp2_with fail
    refine (HC1.out _).mono ?_
    rintro e w2 ⟨rfl, hb2⟩
    have HB2 := (HB.alloc _).next hb2
    clear hb2 HB d0 d1 d2 d3 d4 d5
    obtain ⟨d0, d1, d2, d3, d4, d5⟩ := HB2.cells
    go_wp2_with fail
    refine (HC2.out _).mono ?_
    rintro e w3 ⟨rfl, hb3⟩
    have HB3 := HB2.next hb3
    clear hb3 HB2 d0 d1 d2 d3 d4 d5
    obtain ⟨⟨c0, c1, c2⟩, f0, f1, f2⟩ := HB3.res
    unfold numE
    go_wp2_with
      (first
        | (go_at_call 37; refine (bounded_any _ _).mono ?_; rintro e w4 ⟨rfl, hb4⟩; have HB4 := HB3.next hb4; clear hb4; obtain ⟨⟨d0, d1, d2⟩, g0, g1, g2⟩ := HB4.res; unfold resV)
        | (go_at_call 38; refine (times_any _ _ _ HX.out HY.out).mono ?_; rintro e w4 ⟨rfl, hb4⟩; have HB4 := HB3.next hb4; clear hb4; obtain ⟨⟨d0, d1, d2⟩, g0, g1, g2⟩ := HB4.res; unfold resV))
    all_goals
      have hr := HR.out
      clear HR
      simp only [arith, *, if_true, Bool.false_eq_true, if_false] at hr
      subst hr
      first
        | exact bodyPost_ret (v := resV false (bndE _).1 ⟨#[]⟩ (bndE _).2) (by simp [resV, results, Tryd.results23, go_sem, *]) rfl ⟨rfl, ((HB4.below.setCell (by simp; omega) _).setCell (by simp; omega) _).setCell (by simp; omega) _⟩
        | exact bodyPost_ret (v := resV false 0 ⟨#[]⟩ 2) (by simp [resV, results, Tryd.results23, go_sem, *]) rfl ⟨rfl, ((HB3.below.setCell (by simp; omega) _).setCell (by simp; omega) _).setCell (by simp; omega) _⟩
        | (trace_state; fail)
  · have hq : (y == 0) = false := by simpa using hyz
    have hw1 : wrap64 (x.tdiv y) = x.tdiv y := IntWalk.wrap64_in _ (by have := tdiv_le x y; omega)
    have hw2 : wrap64 (x.tmod y) = x.tmod y := IntWalk.wrap64_in _ (by have := tmod_le x y; omega)
    go_enter Tryd.func23, Tryd.ntmps23
    go_wp2_with fail
    refine (HC.out _ (HP.out _ _ _)).mono ?_
    rintro e w1 ⟨rfl, hb1⟩
    have HB : Box3R w w1 _ _ _ _ _ _ _ := Box3R.start.next hb1
    clear hb1
    have d0 := fun o => (HB.alloc o).cells.1
    have d1 := fun o => (HB.alloc o).cells.2.1
    have d2 := fun o => (HB.alloc o).cells.2.2.1
    have d3 := fun o => (HB.alloc o).cells.2.2.2.1
    have d4 := fun o => (HB.alloc o).cells.2.2.2.2.1
    have d5 := fun o => (HB.alloc o).cells.2.2.2.2.2
    go_wp2_with fail
    refine (HC1.out _).mono ?_
    rintro e w2 ⟨rfl, hb2⟩
    have HB2 := (HB.alloc _).next hb2
    clear hb2 HB d0 d1 d2 d3 d4 d5
    obtain ⟨d0, d1, d2, d3, d4, d5⟩ := HB2.cells
    go_wp2_with fail
    refine (HC2.out _).mono ?_
    rintro e w3 ⟨rfl, hb3⟩
    have HB3 := HB2.next hb3
    clear hb3 HB2 d0 d1 d2 d3 d4 d5
    obtain ⟨⟨c0, c1, c2⟩, f0, f1, f2⟩ := HB3.res
    unfold numE
    go_wp2_with
      (first
        | (go_at_call 37; refine (bounded_any _ _).mono ?_; rintro e w4 ⟨rfl, hb4⟩; have HB4 := HB3.next hb4; clear hb4; obtain ⟨⟨d0, d1, d2⟩, g0, g1, g2⟩ := HB4.res; unfold resV)
        | (go_at_call 38; refine (times_any _ _ _ HX.out HY.out).mono ?_; rintro e w4 ⟨rfl, hb4⟩; have HB4 := HB3.next hb4; clear hb4; obtain ⟨⟨d0, d1, d2⟩, g0, g1, g2⟩ := HB4.res; unfold resV))
    all_goals
      have hr := HR.out
      clear HR
      simp only [arith, *, if_true, Bool.false_eq_true, if_false] at hr
      subst hr
      first
        | exact bodyPost_ret (v := resV false (bndE _).1 ⟨#[]⟩ (bndE _).2) (by simp [resV, results, Tryd.results23, go_sem, *]) rfl ⟨rfl, ((HB4.below.setCell (by simp; omega) _).setCell (by simp; omega) _).setCell (by simp; omega) _⟩
        | exact bodyPost_ret (v := resV false 0 ⟨#[]⟩ 2) (by simp [resV, results, Tryd.results23, go_sem, *]) rfl ⟨rfl, ((HB3.below.setCell (by simp; omega) _).setCell (by simp; omega) _).setCell (by simp; omega) _⟩
        | (trace_state; fail)
end Go.Proofs.YtfnmepnbbeijhaaDoor

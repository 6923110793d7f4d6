/- THE WALKS of value.times and of the reference's num, text, within, product, isAsk, askedOf. -/
import Derived.Test.YtfnmepnbbeijhaaDoorDOp
namespace Go.Proofs.YtfnmepnbbeijhaaDoor
open Go Go.RowKit

theorem times_pos {a b : Int} (ha : 0 < a) (q : Int) (hq : q = 1099511627776 / a) :
    (q < b → 1099511627776 < a * b) ∧ (b < -q → a * b < -1099511627776) ∧ (b ≤ q → -q ≤ b → -1099511627776 ≤ a * b ∧ a * b ≤ 1099511627776) := by
  subst hq
  have k1 := Int.lt_ediv_add_one_mul_self 1099511627776 ha
  have k2 := Int.ediv_mul_le 1099511627776 (b := a) (by omega)
  generalize 1099511627776 / a = q at k1 k2 ⊢
  refine ⟨fun h => ?_, fun h => ?_, fun h1 h2 => ?_⟩
  · have := Int.mul_le_mul_of_nonneg_right (show q + 1 ≤ b by omega) (Int.le_of_lt ha)
    rw [Int.mul_comm a b]
    omega
  · have := Int.mul_le_mul_of_nonneg_right (show q + 1 ≤ -b by omega) (Int.le_of_lt ha)
    rw [Int.neg_mul] at this
    rw [Int.mul_comm a b]
    omega
  · have e1 := Int.mul_le_mul_of_nonneg_right h1 (Int.le_of_lt ha)
    have e2 := Int.mul_le_mul_of_nonneg_right (show -b ≤ q by omega) (Int.le_of_lt ha)
    rw [Int.neg_mul] at e2
    rw [Int.mul_comm a b]
    omega

theorem times_law {a b : Int} (ha : ¬ a = 0) (q : Int) (hq : q = 1099511627776 / max a (-a)) :
    (q < b → a * b < -1099511627776 ∨ 1099511627776 < a * b) ∧ (b < -q → a * b < -1099511627776 ∨ 1099511627776 < a * b) ∧ (b ≤ q → -q ≤ b → -1099511627776 ≤ a * b ∧ a * b ≤ 1099511627776) := by
  by_cases h : 0 < a
  · rw [show max a (-a) = a by omega] at hq
    obtain ⟨k1, k2, k3⟩ := times_pos (b := b) h q hq
    exact ⟨fun h => Or.inr (k1 h), fun h => Or.inl (k2 h), k3⟩
  · rw [show max a (-a) = -a by omega] at hq
    obtain ⟨k1, k2, k3⟩ := times_pos (b := b) (show 0 < -a by omega) q hq
    rw [Int.neg_mul] at k1 k2 k3
    exact ⟨fun h => Or.inl (by have := k1 h; omega), fun h => Or.inr (by have := k2 h; omega), fun h1 h2 => by have := k3 h1 h2; omega⟩

theorem q_bd {a : Int} (ha : ¬ a = 0) : 0 ≤ 1099511627776 / max a (-a) ∧ 1099511627776 / max a (-a) ≤ 1099511627776 := by
  have h : 1 ≤ max a (-a) := by omega
  exact ⟨Int.ediv_nonneg (by omega) (by omega), Int.ediv_le_self _ (by omega)⟩

set_option maxHeartbeats 400000 in
theorem times_any (a b : Int) (w : World) (ha : numOk a) (hb : numOk b) :
    Calls Tryd.prog 38 #[.int .i64 a, .int .i64 b] w fun e w' => e = .returned (resV false (bndE (a * b)).1 ⟨#[]⟩ (bndE (a * b)).2) ∧ Below w.heap.size w w' := by
  obtain ⟨a0, a1⟩ := ha
  obtain ⟨b0, b1⟩ := hb
  by_cases hz : a = 0
  · subst hz
    have HZ : Hid (bndE (0 * b) = bndE 0) := by
      show bndE (0 * b) = bndE 0
      rw [Int.zero_mul]
    go_enter Tryd.func38, Tryd.ntmps38
    go_wp2_with fail
    refine (bounded_any _ _).mono ?_
    rintro e w1 ⟨rfl, hb1⟩
    have HB1 := boxw_start rfl hb1
    clear hb1
    obtain ⟨⟨c0, c1, c2⟩, f0, f1, f2⟩ := boxw rfl HB1.out
    unfold resV
    go_wp2_with fail
    exact bodyPost_ret (v := resV false (bndE 0).1 ⟨#[]⟩ (bndE 0).2) (by simp [resV, results, Tryd.results38, go_sem, *]) rfl ⟨by rw [HZ.out], (((box_below HB1.out).setCell (by simp) _).setCell (by simp) _).setCell (by simp) _⟩
  · have hne : (a != 0) = true := by simpa using hz
    have hM0 : ¬ max a (-a) = 0 := by omega
    obtain ⟨q0, q1⟩ := q_bd hz
    have hW : wrap64 (-Int.tdiv 1099511627776 (max a (-a))) = -(1099511627776 / max a (-a)) := by
      rw [Int.tdiv_eq_ediv_of_nonneg (by omega)]
      exact IntWalk.wrap64_in _ (by omega)
    obtain ⟨k1, k2, k3⟩ := times_law (b := b) hz _ rfl
    by_cases h1 : 1099511627776 / max a (-a) < b
    · have HK := Lib.hid (k1 h1)
      clear k1 k2 k3 q0 q1 hW
      go_enter Tryd.func38, Tryd.ntmps38
      go_wp2_with fail
      exact bodyPost_ret (v := resV false 0 ⟨#[]⟩ 3) (by simp [resV, results, Tryd.results38, go_sem]) rfl ⟨by rw [bnd_out HK.out], (Below.refl _ _).alloc (Nat.le_refl _) _⟩
    · by_cases h2 : b < wrap64 (-Int.tdiv 1099511627776 (max a (-a)))
      · have HK := Lib.hid (k2 (by rw [hW] at h2; exact h2))
        clear k1 k2 k3 q0 q1 hW
        go_enter Tryd.func38, Tryd.ntmps38
        go_wp2_with fail
        exact bodyPost_ret (v := resV false 0 ⟨#[]⟩ 3) (by simp [resV, results, Tryd.results38, go_sem]) rfl ⟨by rw [bnd_out HK.out], (Below.refl _ _).alloc (Nat.le_refl _) _⟩
      · have HK := Lib.hid (k3 (by omega) (by rw [hW] at h2; omega))
        clear k1 k2 k3 q0 q1 hW
        go_enter Tryd.func38, Tryd.ntmps38
        go_wp2_with fail
        rw [IntWalk.wrap64_in (a * b) (by have := HK.out; omega)]
        refine (bounded_any _ _).mono ?_
        rintro e w1 ⟨rfl, hb1⟩
        have HB1 := boxw_start rfl hb1
        clear hb1
        obtain ⟨⟨c0, c1, c2⟩, f0, f1, f2⟩ := boxw rfl HB1.out
        unfold resV
        go_wp2_with fail
        exact bodyPost_ret (v := resV false (bndE (a * b)).1 ⟨#[]⟩ (bndE (a * b)).2) (by simp [resV, results, Tryd.results38, go_sem, *]) rfl ⟨rfl, (((box_below HB1.out).setCell (by simp) _).setCell (by simp) _).setCell (by simp) _⟩

theorem refnum_any (n : Int) (w : World) : Calls Tryd.prog 41 #[.int .i64 n] w fun e w' =>
    e = .returned (.agg #[.bool false, .int .i64 n, .string ⟨#[]⟩]) ∧ w' = w.alloc (.cells #[.bool false, .int .i64 n, .string ⟨#[]⟩] 24) := by
  go_enter Tryd.func41, Tryd.ntmps41
  go_wp2
  exact bodyPost_ret (v := .agg #[.bool false, .int .i64 n, .string ⟨#[]⟩]) (by simp [results, Tryd.results41, go_sem]) rfl ⟨rfl, rfl⟩

theorem reftext_any (s : ByteArray) (w : World) : Calls Tryd.prog 42 #[.string s] w fun e w' =>
    e = .returned (.agg #[.bool true, .int .i64 0, .string s]) ∧ w' = w.alloc (.cells #[.bool true, .int .i64 0, .string s] 24) := by
  go_enter Tryd.func42, Tryd.ntmps42
  go_wp2
  exact bodyPost_ret (v := .agg #[.bool true, .int .i64 0, .string s]) (by simp [results, Tryd.results42, go_sem]) rfl ⟨rfl, rfl⟩

theorem within_any (n : Int) (w : World) :
    Calls Tryd.prog 43 #[.int .i64 n] w fun e w' => e = .returned (resV false (bndE n).1 ⟨#[]⟩ (bndE n).2) ∧ Below w.heap.size w w' := by
  by_cases h : -1099511627776 ≤ n ∧ n ≤ 1099511627776
  · rw [bnd_in h.1 h.2]
    go_enter Tryd.func43, Tryd.ntmps43
    go_wp2_with fail
    refine (in_yes _ _ _ _ h.1 h.2).mono ?_
    rintro e w1 ⟨rfl, rfl⟩
    go_wp2_with (go_at_call 41; refine (refnum_any _ _).mono ?_; rintro e w2 ⟨rfl, rfl⟩)
    exact bodyPost_ret (v := resV false n ⟨#[]⟩ 0) (by simp [resV, results, Tryd.results43, go_sem]) rfl ⟨rfl, ((Below.refl _ _).alloc (Nat.le_refl _) _).alloc (by simp) _⟩
  · rw [bnd_out (by omega)]
    go_enter Tryd.func43, Tryd.ntmps43
    go_wp2_with fail
    refine (in_no _ _ _ _ (by omega)).mono ?_
    rintro e w1 ⟨rfl, rfl⟩
    go_wp2_with fail
    exact bodyPost_ret (v := resV false 0 ⟨#[]⟩ 3) (by simp [resV, results, Tryd.results43, go_sem]) rfl ⟨rfl, (Below.refl _ _).alloc (Nat.le_refl _) _⟩

theorem isAsk_any (op : ByteArray) (c : Int) (w : World) :
    Calls Tryd.prog 39 #[.string op] w fun e w' => e = .returned (.bool (askAns op c).isSome) ∧ w' = w := by
  obtain ⟨r, hr⟩ : ∃ r, askAns op c = r := ⟨_, rfl⟩
  rw [hr]
  have HR := Lib.hid hr
  clear hr
  go_enter Tryd.func39, Tryd.ntmps39
  go_wp2_with fail
  all_goals
    go_ret
    have hr := HR.out
    clear HR
    subst hr
    exact ⟨ret_bool (by by_cases hq : op.toList = [62, 61] <;> simp [askAns, *]), rfl⟩

/-- What the reference makes of a comparison: is it less, is it the same? -/
def askB (op : ByteArray) (less same : Bool) : Bool :=
  if op.toList == [60] then less else if op.toList == [60, 61] then less || same else if op.toList == [61, 61] then same
  else if op.toList == [33, 61] then !same else if op.toList == [62] then !less && !same else !less

set_option maxRecDepth 10000 in
set_option maxHeartbeats 400000 in
theorem askedOf_nn (op : ByteArray) (na : Int) (sa : ByteArray) (nb : Int) (sb : ByteArray) (w : World) :
    Calls Tryd.prog 40 #[.string op, .agg #[.bool false, .int .i64 na, .string sa], .agg #[.bool false, .int .i64 nb, .string sb]] w fun e w' =>
    e = .returned (.bool (askB op (decide (na < nb)) (na == nb))) ∧ Below w.heap.size w w' := by
  obtain ⟨r, hr⟩ : ∃ r, askB op (decide (na < nb)) (na == nb) = r := ⟨_, rfl⟩
  rw [hr]
  have HR := Lib.hid hr
  clear hr
  go_enter Tryd.func40, Tryd.ntmps40
  go_wp2_with fail
  all_goals
    go_ret
    have hr := HR.out
    clear HR
    subst hr
    exact ⟨ret_bool (by first | (simp only [askB, *, if_true, Bool.false_eq_true, if_false]; done) | simp [askB, *]), ((Below.refl _ _).alloc (Nat.le_refl _) _).alloc (by simp) _⟩

theorem textOf_ok (t : Bool) (n : Int) (s : ByteArray) (w : World) (hn : Hid (numOk n)) :
    Calls Tryd.prog 16 #[.agg #[.bool t, .int .i64 n, .string s]] w fun e w' => e = .returned (.string (strOf t n s)) ∧ Below w.heap.size w w' :=
  textOf_any t n s w (by have := hn.out.1; omega) (by have := hn.out.2; omega)

set_option maxRecDepth 10000 in
set_option maxHeartbeats 400000 in
theorem askedOf_nt (op : ByteArray) (na : Int) (sa : ByteArray) (nb : Int) (sb : ByteArray) (w : World) (ha : numOk na) (hb : numOk nb) :
    Calls Tryd.prog 40 #[.string op, .agg #[.bool false, .int .i64 na, .string sa], .agg #[.bool true, .int .i64 nb, .string sb]] w fun e w' =>
    e = .returned (.bool (askB op (Op.bytesLess (strOf false na sa).toList (strOf true nb sb).toList) ((strOf false na sa).toList == (strOf true nb sb).toList))) ∧ Below w.heap.size w w' := by
  have HA := Lib.hid ha
  have HB := Lib.hid hb
  clear ha hb
  have C1 := fun w1 => textOf_ok false na sa w1 HA
  have C2 := fun w1 => textOf_ok true nb sb w1 HB
  have HC : Hid (∀ t n s w1, Hid (numOk n) → Calls Tryd.prog 16 #[.agg #[.bool t, .int .i64 n, .string s]] w1 fun e w' => e = .returned (.string (strOf t n s)) ∧ Below w1.heap.size w1 w') := fun t n s w1 h => textOf_ok t n s w1 h
  obtain ⟨r, hr⟩ : ∃ r, askB op (Op.bytesLess (strOf false na sa).toList (strOf true nb sb).toList) ((strOf false na sa).toList == (strOf true nb sb).toList) = r := ⟨_, rfl⟩
  rw [hr]
  have HR := Lib.hid hr
  clear hr C1 C2
  go_enter Tryd.func40, Tryd.ntmps40
  go_wp2_with fail
  go_region_held3 (fun w' => (w'.cell? ⟨w.heap.size, 0, none⟩ = some (.bool false) ∧ w'.cell? ⟨w.heap.size, 1, none⟩ = some (.int .i64 na) ∧ w'.cell? ⟨w.heap.size, 2, none⟩ = some (.string sa) ∧
        w'.cell? ⟨w.heap.size + 1, 0, none⟩ = some (.bool true) ∧ w'.cell? ⟨w.heap.size + 1, 1, none⟩ = some (.int .i64 nb) ∧ w'.cell? ⟨w.heap.size + 1, 2, none⟩ = some (.string sb)) ∧
        Box2 w w' (.bool false) (.int .i64 na) (.string sa) (.bool true) (.int .i64 nb) (.string sb) 24)
    (first | exact ⟨Box2.cells Box2.startd, Box2.startd⟩ | (go_split_ands; exact ⟨Box2.cells (Box2.next (by assumption) hbl), Box2.next (by assumption) hbl⟩) | (go_split_ands; exact ⟨Box2.cells (by assumption), by assumption⟩))
    (first
      | (go_at_call 16; refine (HC.out _ _ _ _ (by assumption)).mono ?_; rintro e w1 ⟨rfl, hbl⟩))
  go_wp2_with fail
  obtain ⟨_, HS⟩ := ‹_ ∧ Box2 _ _ _ _ _ _ _ _ _›
  go_region_held3 (fun w' => (w'.cell? ⟨w.heap.size, 0, none⟩ = some (.bool false) ∧ w'.cell? ⟨w.heap.size, 1, none⟩ = some (.int .i64 na) ∧ w'.cell? ⟨w.heap.size, 2, none⟩ = some (.string sa) ∧
        w'.cell? ⟨w.heap.size + 1, 0, none⟩ = some (.bool true) ∧ w'.cell? ⟨w.heap.size + 1, 1, none⟩ = some (.int .i64 nb) ∧ w'.cell? ⟨w.heap.size + 1, 2, none⟩ = some (.string sb)) ∧
        Box2 w w' (.bool false) (.int .i64 na) (.string sa) (.bool true) (.int .i64 nb) (.string sb) 24)
    (first | exact ⟨Box2.cells HS.drew, HS.drew⟩ | (go_split_ands; exact ⟨Box2.cells (Box2.next (by assumption) hbm), Box2.next (by assumption) hbm⟩) | (go_split_ands; exact ⟨Box2.cells (by assumption), by assumption⟩))
    (first
      | (go_at_call 16; refine (HC.out _ _ _ _ (by assumption)).mono ?_; rintro e w1 ⟨rfl, hbm⟩))
  go_wp2_with fail
  all_goals
    go_ret
    obtain ⟨_, hB⟩ := ‹_ ∧ Box2 _ _ _ _ _ _ _ _ _›
    have hr := HR.out
    clear HR
    subst hr
    exact ⟨ret_bool (by first | (simp only [askB, *, if_true, Bool.false_eq_true, if_false]; done) | simp [askB, *]), hB.below⟩

set_option maxRecDepth 10000 in
set_option maxHeartbeats 400000 in
theorem askedOf_tn (op : ByteArray) (na : Int) (sa : ByteArray) (nb : Int) (sb : ByteArray) (w : World) (ha : numOk na) (hb : numOk nb) :
    Calls Tryd.prog 40 #[.string op, .agg #[.bool true, .int .i64 na, .string sa], .agg #[.bool false, .int .i64 nb, .string sb]] w fun e w' =>
    e = .returned (.bool (askB op (Op.bytesLess (strOf true na sa).toList (strOf false nb sb).toList) ((strOf true na sa).toList == (strOf false nb sb).toList))) ∧ Below w.heap.size w w' := by
  have HA := Lib.hid ha
  have HB := Lib.hid hb
  clear ha hb
  have C1 := fun w1 => textOf_ok true na sa w1 HA
  have C2 := fun w1 => textOf_ok false nb sb w1 HB
  have HC : Hid (∀ t n s w1, Hid (numOk n) → Calls Tryd.prog 16 #[.agg #[.bool t, .int .i64 n, .string s]] w1 fun e w' => e = .returned (.string (strOf t n s)) ∧ Below w1.heap.size w1 w') := fun t n s w1 h => textOf_ok t n s w1 h
  obtain ⟨r, hr⟩ : ∃ r, askB op (Op.bytesLess (strOf true na sa).toList (strOf false nb sb).toList) ((strOf true na sa).toList == (strOf false nb sb).toList) = r := ⟨_, rfl⟩
  rw [hr]
  have HR := Lib.hid hr
  clear hr C1 C2
  go_enter Tryd.func40, Tryd.ntmps40
  go_wp2_with fail
  go_region_held3 (fun w' => (w'.cell? ⟨w.heap.size, 0, none⟩ = some (.bool true) ∧ w'.cell? ⟨w.heap.size, 1, none⟩ = some (.int .i64 na) ∧ w'.cell? ⟨w.heap.size, 2, none⟩ = some (.string sa) ∧
        w'.cell? ⟨w.heap.size + 1, 0, none⟩ = some (.bool false) ∧ w'.cell? ⟨w.heap.size + 1, 1, none⟩ = some (.int .i64 nb) ∧ w'.cell? ⟨w.heap.size + 1, 2, none⟩ = some (.string sb)) ∧
        Box2 w w' (.bool true) (.int .i64 na) (.string sa) (.bool false) (.int .i64 nb) (.string sb) 24)
    (first | exact ⟨Box2.cells Box2.startd, Box2.startd⟩ | (go_split_ands; exact ⟨Box2.cells (Box2.next (by assumption) hbl), Box2.next (by assumption) hbl⟩) | (go_split_ands; exact ⟨Box2.cells (by assumption), by assumption⟩))
    (first
      | (go_at_call 16; refine (HC.out _ _ _ _ (by assumption)).mono ?_; rintro e w1 ⟨rfl, hbl⟩))
  go_wp2_with fail
  obtain ⟨_, HS⟩ := ‹_ ∧ Box2 _ _ _ _ _ _ _ _ _›
  go_region_held3 (fun w' => (w'.cell? ⟨w.heap.size, 0, none⟩ = some (.bool true) ∧ w'.cell? ⟨w.heap.size, 1, none⟩ = some (.int .i64 na) ∧ w'.cell? ⟨w.heap.size, 2, none⟩ = some (.string sa) ∧
        w'.cell? ⟨w.heap.size + 1, 0, none⟩ = some (.bool false) ∧ w'.cell? ⟨w.heap.size + 1, 1, none⟩ = some (.int .i64 nb) ∧ w'.cell? ⟨w.heap.size + 1, 2, none⟩ = some (.string sb)) ∧
        Box2 w w' (.bool true) (.int .i64 na) (.string sa) (.bool false) (.int .i64 nb) (.string sb) 24)
    (first | exact ⟨Box2.cells HS.drew, HS.drew⟩ | (go_split_ands; exact ⟨Box2.cells (Box2.next (by assumption) hbm), Box2.next (by assumption) hbm⟩) | (go_split_ands; exact ⟨Box2.cells (by assumption), by assumption⟩))
    (first
      | (go_at_call 16; refine (HC.out _ _ _ _ (by assumption)).mono ?_; rintro e w1 ⟨rfl, hbm⟩))
  go_wp2_with fail
  all_goals
    go_ret
    obtain ⟨_, hB⟩ := ‹_ ∧ Box2 _ _ _ _ _ _ _ _ _›
    have hr := HR.out
    clear HR
    subst hr
    exact ⟨ret_bool (by first | (simp only [askB, *, if_true, Bool.false_eq_true, if_false]; done) | simp [askB, *]), hB.below⟩

set_option maxRecDepth 10000 in
set_option maxHeartbeats 400000 in
theorem askedOf_tt (op : ByteArray) (na : Int) (sa : ByteArray) (nb : Int) (sb : ByteArray) (w : World) (ha : numOk na) (hb : numOk nb) :
    Calls Tryd.prog 40 #[.string op, .agg #[.bool true, .int .i64 na, .string sa], .agg #[.bool true, .int .i64 nb, .string sb]] w fun e w' =>
    e = .returned (.bool (askB op (Op.bytesLess (strOf true na sa).toList (strOf true nb sb).toList) ((strOf true na sa).toList == (strOf true nb sb).toList))) ∧ Below w.heap.size w w' := by
  have HA := Lib.hid ha
  have HB := Lib.hid hb
  clear ha hb
  have C1 := fun w1 => textOf_ok true na sa w1 HA
  have C2 := fun w1 => textOf_ok true nb sb w1 HB
  have HC : Hid (∀ t n s w1, Hid (numOk n) → Calls Tryd.prog 16 #[.agg #[.bool t, .int .i64 n, .string s]] w1 fun e w' => e = .returned (.string (strOf t n s)) ∧ Below w1.heap.size w1 w') := fun t n s w1 h => textOf_ok t n s w1 h
  obtain ⟨r, hr⟩ : ∃ r, askB op (Op.bytesLess (strOf true na sa).toList (strOf true nb sb).toList) ((strOf true na sa).toList == (strOf true nb sb).toList) = r := ⟨_, rfl⟩
  rw [hr]
  have HR := Lib.hid hr
  clear hr C1 C2
  go_enter Tryd.func40, Tryd.ntmps40
  go_wp2_with fail
  go_region_held3 (fun w' => (w'.cell? ⟨w.heap.size, 0, none⟩ = some (.bool true) ∧ w'.cell? ⟨w.heap.size, 1, none⟩ = some (.int .i64 na) ∧ w'.cell? ⟨w.heap.size, 2, none⟩ = some (.string sa) ∧
        w'.cell? ⟨w.heap.size + 1, 0, none⟩ = some (.bool true) ∧ w'.cell? ⟨w.heap.size + 1, 1, none⟩ = some (.int .i64 nb) ∧ w'.cell? ⟨w.heap.size + 1, 2, none⟩ = some (.string sb)) ∧
        Box2 w w' (.bool true) (.int .i64 na) (.string sa) (.bool true) (.int .i64 nb) (.string sb) 24)
    (first | exact ⟨Box2.cells Box2.startd, Box2.startd⟩ | (go_split_ands; exact ⟨Box2.cells (Box2.next (by assumption) hbl), Box2.next (by assumption) hbl⟩) | (go_split_ands; exact ⟨Box2.cells (by assumption), by assumption⟩))
    (first
      | (go_at_call 16; refine (HC.out _ _ _ _ (by assumption)).mono ?_; rintro e w1 ⟨rfl, hbl⟩))
  go_wp2_with fail
  obtain ⟨_, HS⟩ := ‹_ ∧ Box2 _ _ _ _ _ _ _ _ _›
  go_region_held3 (fun w' => (w'.cell? ⟨w.heap.size, 0, none⟩ = some (.bool true) ∧ w'.cell? ⟨w.heap.size, 1, none⟩ = some (.int .i64 na) ∧ w'.cell? ⟨w.heap.size, 2, none⟩ = some (.string sa) ∧
        w'.cell? ⟨w.heap.size + 1, 0, none⟩ = some (.bool true) ∧ w'.cell? ⟨w.heap.size + 1, 1, none⟩ = some (.int .i64 nb) ∧ w'.cell? ⟨w.heap.size + 1, 2, none⟩ = some (.string sb)) ∧
        Box2 w w' (.bool true) (.int .i64 na) (.string sa) (.bool true) (.int .i64 nb) (.string sb) 24)
    (first | exact ⟨Box2.cells HS.drew, HS.drew⟩ | (go_split_ands; exact ⟨Box2.cells (Box2.next (by assumption) hbm), Box2.next (by assumption) hbm⟩) | (go_split_ands; exact ⟨Box2.cells (by assumption), by assumption⟩))
    (first
      | (go_at_call 16; refine (HC.out _ _ _ _ (by assumption)).mono ?_; rintro e w1 ⟨rfl, hbm⟩))
  go_wp2_with fail
  all_goals
    go_ret
    obtain ⟨_, hB⟩ := ‹_ ∧ Box2 _ _ _ _ _ _ _ _ _›
    have hr := HR.out
    clear HR
    subst hr
    exact ⟨ret_bool (by first | (simp only [askB, *, if_true, Bool.false_eq_true, if_false]; done) | simp [askB, *]), hB.below⟩
end Go.Proofs.YtfnmepnbbeijhaaDoor

/- THE WALKS of value.Op where a number is none, and of the reference's OpOf: both answer 'opR'. -/
import Derived.Test.YtfnmepnbbeijhaaDoorDOps
namespace Go.Proofs.YtfnmepnbbeijhaaDoor
open Go Go.RowKit

set_option maxRecDepth 10000 in
set_option maxHeartbeats 400000 in
theorem op_bad (op : ByteArray) (ta : Bool) (na : Int) (sa : ByteArray) (tb : Bool) (nb : Int) (sb : ByteArray) (w : World) (ht : Pow10 w) (ha : numOk na) (hb : numOk nb)
    (hc : askAns op (cmpOf ta na sa tb nb sb) = none) (ho : (op.toList == [46, 46]) = false) (hl : sa.size ≤ maxLen) (hl2 : sb.size ≤ maxLen) (hx : numOf ta na sa = none ∨ numOf tb nb sb = none) :
    Calls Tryd.prog 23 #[.string op, .agg #[.bool ta, .int .i64 na, .string sa], .agg #[.bool tb, .int .i64 nb, .string sb]] w fun e w' =>
    e = .returned (resV false 0 ⟨#[]⟩ 3) ∧ Below w.heap.size w w' := by
  have C := fun w1 h => ask_any op ta na sa tb nb sb w1 h ha hb
  rw [hc] at C
  have C1 := fun w1 => num_any ta na sa hl w1
  have C2 := fun w1 => num_any tb nb sb hl2 w1
  have HC := Lib.hid C
  have HP : Hid (∀ o1 o2 o3, Pow10 (((w.alloc o1).alloc o2).alloc o3)) := fun o1 o2 o3 => ht.mono ((((Below.refl _ _).alloc (Nat.le_refl _) _).alloc (by simp) _).alloc (by simp; omega) _)
  generalize numOf ta na sa = x at C1 hx
  generalize numOf tb nb sb = y at C2 hx
  have hn : (numE none).1 = 0 ∧ (numE none).2 = 2 := ⟨rfl, rfl⟩
  cases x with
  | none =>
    rw [hn.1, hn.2] at C1
    generalize numE y = ye at C2
    obtain ⟨y1, y2⟩ := ye
    have HC1 := Lib.hid C1
    have HC2 := Lib.hid C2
    clear C C1 C2 ha hb hc ht hl hl2 hx hn
    go_enter Tryd.func23, Tryd.ntmps23
    go_wp2_with fail
    refine (HC.out _ (HP.out _ _ _)).mono ?_
    rintro e w1 ⟨rfl, hb1⟩
    have HB : Box3R w w1 _ _ _ _ _ _ _ := Box3R.start.next hb1
    clear hb1
    have d0 := fun o => (HB.alloc o).cells.1
    have d1 := fun o => (HB.alloc o).cells.2.1
    have d2 := fun o => (HB.alloc o).cells.2.2.1
    have d3 := fun o => (HB.alloc o).cells.2.2.2.1
    have d4 := fun o => (HB.alloc o).cells.2.2.2.2.1
    have d5 := fun o => (HB.alloc o).cells.2.2.2.2.2
    go_wp2_with fail
    refine (HC1.out _).mono ?_
    rintro e w2 ⟨rfl, hb2⟩
    have HB2 := (HB.alloc _).next hb2
    clear hb2 HB d0 d1 d2 d3 d4 d5
    obtain ⟨d0, d1, d2, d3, d4, d5⟩ := HB2.cells
    go_wp2_with fail
    refine (HC2.out _).mono ?_
    rintro e w3 ⟨rfl, hb3⟩
    have HB3 := HB2.next hb3
    clear hb3 HB2 d0 d1 d2 d3 d4 d5
    obtain ⟨⟨c0, c1, c2⟩, f0, f1, f2⟩ := HB3.res
    go_wp2_with fail
    exact bodyPost_ret (v := resV false 0 ⟨#[]⟩ 3) (by simp [resV, results, Tryd.results23, go_sem, *]) rfl ⟨rfl, ((HB3.below.setCell (by simp; omega) _).setCell (by simp; omega) _).setCell (by simp; omega) _⟩
  | some x =>
    obtain rfl : y = none := by rcases hx with h | h; cases h; exact h
    have hs : (numE (some x)).1 = x ∧ (numE (some x)).2 = 0 := ⟨rfl, rfl⟩
    rw [hs.1, hs.2] at C1
    rw [hn.1, hn.2] at C2
    have HC1 := Lib.hid C1
    have HC2 := Lib.hid C2
    clear C C1 C2 ha hb hc ht hl hl2 hx hn hs
    go_enter Tryd.func23, Tryd.ntmps23
    go_wp2_with fail
    refine (HC.out _ (HP.out _ _ _)).mono ?_
    rintro e w1 ⟨rfl, hb1⟩
    have HB : Box3R w w1 _ _ _ _ _ _ _ := Box3R.start.next hb1
    clear hb1
    have d0 := fun o => (HB.alloc o).cells.1
    have d1 := fun o => (HB.alloc o).cells.2.1
    have d2 := fun o => (HB.alloc o).cells.2.2.1
    have d3 := fun o => (HB.alloc o).cells.2.2.2.1
    have d4 := fun o => (HB.alloc o).cells.2.2.2.2.1
    have d5 := fun o => (HB.alloc o).cells.2.2.2.2.2
    go_wp2_with fail
    refine (HC1.out _).mono ?_
    rintro e w2 ⟨rfl, hb2⟩
    have HB2 := (HB.alloc _).next hb2
    clear hb2 HB d0 d1 d2 d3 d4 d5
    obtain ⟨d0, d1, d2, d3, d4, d5⟩ := HB2.cells
    go_wp2_with fail
    refine (HC2.out _).mono ?_
    rintro e w3 ⟨rfl, hb3⟩
    have HB3 := HB2.next hb3
    clear hb3 HB2 d0 d1 d2 d3 d4 d5
    obtain ⟨⟨c0, c1, c2⟩, f0, f1, f2⟩ := HB3.res
    go_wp2_with fail
    exact bodyPost_ret (v := resV false 0 ⟨#[]⟩ 3) (by simp [resV, results, Tryd.results23, go_sem, *]) rfl ⟨rfl, ((HB3.below.setCell (by simp; omega) _).setCell (by simp; omega) _).setCell (by simp; omega) _⟩

theorem strOf_size (t : Bool) (n : Int) (s : ByteArray) (hn : numOk n) (hs : s.size ≤ 1000000) : (strOf t n s).size ≤ 1000000 := by
  cases t
  · have h := itoa_len (n := n) (by have := hn.1; omega) (by have := hn.2; omega)
    show (Lib.itoa n).toArray.size ≤ 1000000
    rw [List.size_toArray]
    omega
  · exact hs

theorem numOf_bd {t : Bool} {n : Int} {s : ByteArray} {x : Int} (hn : numOk n) (h : numOf t n s = some x) : numOk x := by
  cases t
  · obtain rfl : n = x := Option.some.inj h
    exact hn
  · exact M.numL_bd h

/-- What value.Op answers, at every two values. -/
theorem op_any (op : ByteArray) (ta : Bool) (na : Int) (sa : ByteArray) (tb : Bool) (nb : Int) (sb : ByteArray) (w : World) (ht : Pow10 w) (ha : numOk na) (hb : numOk nb) (hl : sa.size ≤ 1000000) (hl2 : sb.size ≤ 1000000) :
    Calls Tryd.prog 23 #[.string op, .agg #[.bool ta, .int .i64 na, .string sa], .agg #[.bool tb, .int .i64 nb, .string sb]] w fun e w' =>
    e = .returned (retV (opR op (askAns op (cmpOf ta na sa tb nb sb)) (strOf ta na sa ++ strOf tb nb sb) (numOf ta na sa) (numOf tb nb sb))) ∧ Below w.heap.size w w' := by
  cases hc : askAns op (cmpOf ta na sa tb nb sb) with
  | some b => exact op_ask op ta na sa tb nb sb w ht ha hb b hc
  | none =>
    by_cases ho : (op.toList == [46, 46]) = true
    · have := op_join op ta na sa tb nb sb w ht ha hb hc ho (strOf_size ta na sa ha hl) (strOf_size tb nb sb hb hl2)
      unfold opR
      dsimp only
      rw [if_pos ho]
      exact this
    · rw [Bool.not_eq_true] at ho
      have hm1 : sa.size ≤ maxLen := by unfold maxLen; omega
      have hm2 : sb.size ≤ maxLen := by unfold maxLen; omega
      unfold opR
      dsimp only
      rw [if_neg (by rw [ho]; simp)]
      cases hx : numOf ta na sa with
      | none => exact op_bad op ta na sa tb nb sb w ht ha hb hc ho hm1 hm2 (Or.inl hx)
      | some x =>
        cases hy : numOf tb nb sb with
        | none => exact op_bad op ta na sa tb nb sb w ht ha hb hc ho hm1 hm2 (Or.inr hy)
        | some y =>
          have bx := numOf_bd ha hx
          have bY := numOf_bd hb hy
          exact op_arith op ta na sa tb nb sb w ht ha hb hc ho hm1 hm2 x y hx hy bx.1 bx.2 bY.1 bY.2

/-- What the reference makes of a comparison. -/
theorem askB_eq {op : ByteArray} {less same b : Bool} {c : Int} (h1 : less = decide (c < 0)) (h2 : same = (c == 0)) (h : askAns op c = some b) : askB op less same = b := by
  subst h1 h2
  unfold askAns at h
  unfold askB
  generalize (op.toList == [60]) = b1 at h ⊢
  generalize (op.toList == [60, 61]) = b2 at h ⊢
  generalize (op.toList == [61, 61]) = b3 at h ⊢
  generalize (op.toList == [33, 61]) = b4 at h ⊢
  generalize (op.toList == [62]) = b5 at h ⊢
  generalize (op.toList == [62, 61]) = b6 at h
  cases b1 <;> cases b2 <;> cases b3 <;> cases b4 <;> cases b5 <;> cases b6 <;> simp at h ⊢ <;> rw [← h] <;> first | rfl | (rw [Bool.eq_iff_iff]; simp; done) | (rw [Bool.eq_iff_iff]; simp; omega)

theorem askedOf_any (op : ByteArray) (ta : Bool) (na : Int) (sa : ByteArray) (tb : Bool) (nb : Int) (sb : ByteArray) (w : World) (ha : numOk na) (hb : numOk nb)
    (b : Bool) (hc : askAns op (cmpOf ta na sa tb nb sb) = some b) :
    Calls Tryd.prog 40 #[.string op, .agg #[.bool ta, .int .i64 na, .string sa], .agg #[.bool tb, .int .i64 nb, .string sb]] w fun e w' =>
    e = .returned (.bool b) ∧ Below w.heap.size w w' := by
  have H : ∀ (x y : ByteArray), askAns op (Lib.compareBytes x.data.toList y.data.toList) = some b → askB op (Op.bytesLess x.toList y.toList) (x.toList == y.toList) = b := by
    intro x y h
    refine askB_eq (c := Lib.compareBytes x.data.toList y.data.toList) ?_ ?_ h
    · rw [Lib.toList_data, Lib.toList_data]
      exact M.bytesLess_iff _ _
    · rw [Lib.toList_data, Lib.toList_data, Bool.eq_iff_iff]
      simp [M.compare_zero]
  cases ta <;> cases tb
  · rw [← askB_eq (less := decide (na < nb)) (same := na == nb) (show decide (na < nb) = decide (na - nb < 0) from decide_eq_decide.2 (by omega)) (show (na == nb) = (na - nb == 0) by rw [Bool.eq_iff_iff, beq_iff_eq, beq_iff_eq]; omega) hc]
    exact askedOf_nn op na sa nb sb w
  · rw [← H _ _ hc]
    exact askedOf_nt op na sa nb sb w ha hb
  · rw [← H _ _ hc]
    exact askedOf_tn op na sa nb sb w ha hb
  · rw [← H _ _ hc]
    exact askedOf_tt op na sa nb sb w ha hb

set_option maxRecDepth 10000 in
set_option maxHeartbeats 400000 in
theorem opof_ask_true (op : ByteArray) (ta : Bool) (na : Int) (sa : ByteArray) (tb : Bool) (nb : Int) (sb : ByteArray) (w : World) (ha : numOk na) (hb : numOk nb)
    (hc : askAns op (cmpOf ta na sa tb nb sb) = some true) :
    Calls Tryd.prog 24 #[.string op, .agg #[.bool ta, .int .i64 na, .string sa], .agg #[.bool tb, .int .i64 nb, .string sb]] w fun e w' =>
    e = .returned (resV false (askN (some true)) ⟨#[]⟩ 0) ∧ Below w.heap.size w w' := by
  have C0 := fun w1 => isAsk_any op (cmpOf ta na sa tb nb sb) w1
  rw [hc] at C0
  have HC0 := Lib.hid C0
  have C := fun w1 => askedOf_any op ta na sa tb nb sb w1 ha hb true hc
  have HC := Lib.hid C
  clear C C0 ha hb hc
  go_enter Tryd.func24, Tryd.ntmps24
  go_wp2_with fail
  refine (HC0.out _).mono ?_
  rintro e w1 ⟨rfl, rfl⟩
  go_wp2_with fail
  refine (HC.out _).mono ?_
  rintro e w1 ⟨rfl, hb1⟩
  have HB : Box3R w w1 _ _ _ _ _ _ _ := Box3R.start.next hb1
  clear hb1
  have c0 := fun o => (HB.alloc o).res.1.1
  have c1 := fun o => (HB.alloc o).res.1.2.1
  have c2 := fun o => (HB.alloc o).res.1.2.2
  have f0 := fun o => (HB.alloc o).res.2.1
  have f1 := fun o => (HB.alloc o).res.2.2.1
  have f2 := fun o => (HB.alloc o).res.2.2.2
  go_wp2_with (go_at_call 41; refine (refnum_any _ _).mono ?_; rintro e w2 ⟨rfl, rfl⟩)
  exact bodyPost_ret (v := resV false (askN (some true)) ⟨#[]⟩ 0) (by simp [resV, results, Tryd.results24, go_sem, askN, *]) rfl ⟨rfl, (((HB.alloc _).below.setCell (by simp; omega) _).setCell (by simp; omega) _).setCell (by simp; omega) _⟩

set_option maxRecDepth 10000 in
set_option maxHeartbeats 400000 in
theorem opof_ask_false (op : ByteArray) (ta : Bool) (na : Int) (sa : ByteArray) (tb : Bool) (nb : Int) (sb : ByteArray) (w : World) (ha : numOk na) (hb : numOk nb)
    (hc : askAns op (cmpOf ta na sa tb nb sb) = some false) :
    Calls Tryd.prog 24 #[.string op, .agg #[.bool ta, .int .i64 na, .string sa], .agg #[.bool tb, .int .i64 nb, .string sb]] w fun e w' =>
    e = .returned (resV false (askN (some false)) ⟨#[]⟩ 0) ∧ Below w.heap.size w w' := by
  have C0 := fun w1 => isAsk_any op (cmpOf ta na sa tb nb sb) w1
  rw [hc] at C0
  have HC0 := Lib.hid C0
  have C := fun w1 => askedOf_any op ta na sa tb nb sb w1 ha hb false hc
  have HC := Lib.hid C
  clear C C0 ha hb hc
  go_enter Tryd.func24, Tryd.ntmps24
  go_wp2_with fail
  refine (HC0.out _).mono ?_
  rintro e w1 ⟨rfl, rfl⟩
  go_wp2_with fail
  refine (HC.out _).mono ?_
  rintro e w1 ⟨rfl, hb1⟩
  have HB : Box3R w w1 _ _ _ _ _ _ _ := Box3R.start.next hb1
  clear hb1
  have c0 := fun o => (HB.alloc o).res.1.1
  have c1 := fun o => (HB.alloc o).res.1.2.1
  have c2 := fun o => (HB.alloc o).res.1.2.2
  have f0 := fun o => (HB.alloc o).res.2.1
  have f1 := fun o => (HB.alloc o).res.2.2.1
  have f2 := fun o => (HB.alloc o).res.2.2.2
  go_wp2_with (go_at_call 41; refine (refnum_any _ _).mono ?_; rintro e w2 ⟨rfl, rfl⟩)
  exact bodyPost_ret (v := resV false (askN (some false)) ⟨#[]⟩ 0) (by simp [resV, results, Tryd.results24, go_sem, askN, *]) rfl ⟨rfl, (((HB.alloc _).below.setCell (by simp; omega) _).setCell (by simp; omega) _).setCell (by simp; omega) _⟩

set_option maxRecDepth 10000 in
set_option maxHeartbeats 400000 in
theorem opof_join (op : ByteArray) (ta : Bool) (na : Int) (sa : ByteArray) (tb : Bool) (nb : Int) (sb : ByteArray) (w : World) (ha : numOk na) (hb : numOk nb)
    (hc : askAns op (cmpOf ta na sa tb nb sb) = none) (ho : (op.toList == [46, 46]) = true) (hl : (strOf ta na sa).size ≤ 1000000) (hl2 : (strOf tb nb sb).size ≤ 1000000) :
    Calls Tryd.prog 24 #[.string op, .agg #[.bool ta, .int .i64 na, .string sa], .agg #[.bool tb, .int .i64 nb, .string sb]] w fun e w' =>
    e = .returned (retV (if (strOf ta na sa ++ strOf tb nb sb).size ≤ 200 then (true, 0, strOf ta na sa ++ strOf tb nb sb, 0) else (false, 0, ⟨#[]⟩, 3))) ∧ Below w.heap.size w w' := by
  have C0 := fun w1 => isAsk_any op (cmpOf ta na sa tb nb sb) w1
  rw [hc] at C0
  have HC0 := Lib.hid C0
  have HA := Lib.hid ha
  have HB0 := Lib.hid hb
  have HS : Hid (∀ t n s w1, Hid (numOk n) → Calls Tryd.prog 16 #[.agg #[.bool t, .int .i64 n, .string s]] w1 fun e w' => e = .returned (.string (strOf t n s)) ∧ Below w1.heap.size w1 w') := fun t n s w1 h => textOf_ok t n s w1 h
  have hsum : (strOf ta na sa).size + (strOf tb nb sb).size ≤ 2000000 := by omega
  have hno : ¬ 9223372036854775807 < (strOf ta na sa).size + (strOf tb nb sb).size := by omega
  clear C0 ha hb hc hl hl2
  by_cases hj : (strOf ta na sa ++ strOf tb nb sb).size ≤ 200
  · rw [if_pos hj]
    rw [two_data] at hj
    go_enter Tryd.func24, Tryd.ntmps24
    go_wp2_with fail
    refine (HC0.out _).mono ?_
    rintro e w1 ⟨rfl, rfl⟩
    go_wp2_with fail
    go_region_held3 (fun w' => (w'.cell? ⟨w.heap.size, 0, none⟩ = some (.bool ta) ∧ w'.cell? ⟨w.heap.size, 1, none⟩ = some (.int .i64 na) ∧ w'.cell? ⟨w.heap.size, 2, none⟩ = some (.string sa) ∧
          w'.cell? ⟨w.heap.size + 1, 0, none⟩ = some (.bool tb) ∧ w'.cell? ⟨w.heap.size + 1, 1, none⟩ = some (.int .i64 nb) ∧ w'.cell? ⟨w.heap.size + 1, 2, none⟩ = some (.string sb)) ∧
          Box3R w w' (.bool ta) (.int .i64 na) (.string sa) (.bool tb) (.int .i64 nb) (.string sb) 24)
      (first | exact ⟨Box3R.cells Box3R.startd, Box3R.startd⟩ | (go_split_ands; exact ⟨Box3R.cells (Box3R.next (by assumption) hbm), Box3R.next (by assumption) hbm⟩) | (go_split_ands; exact ⟨Box3R.cells (by assumption), by assumption⟩))
      (first
        | (go_at_call 16; refine (HS.out _ _ _ _ (by assumption)).mono ?_; rintro e w1 ⟨rfl, hbm⟩))
    obtain ⟨_, HD⟩ := ‹_ ∧ Box3R _ _ _ _ _ _ _ _ _›
    have c0 := fun o => (HD.alloc o).res.1.1
    have c1 := fun o => (HD.alloc o).res.1.2.1
    have c2 := fun o => (HD.alloc o).res.1.2.2
    have f0 := fun o => (HD.alloc o).res.2.1
    have f1 := fun o => (HD.alloc o).res.2.2.1
    have f2 := fun o => (HD.alloc o).res.2.2.2
    go_wp2_with (go_at_call 42; refine (reftext_any _ _).mono ?_; rintro e w4 ⟨rfl, rfl⟩)
    exact bodyPost_ret (v := resV true 0 (strOf ta na sa ++ strOf tb nb sb) 0) (by simp [resV, results, Tryd.results24, go_sem, *]) rfl ⟨rfl, (((HD.alloc _).below.setCell (by simp; omega) _).setCell (by simp; omega) _).setCell (by simp; omega) _⟩
  · rw [if_neg hj]
    rw [two_data] at hj
    go_enter Tryd.func24, Tryd.ntmps24
    go_wp2_with fail
    refine (HC0.out _).mono ?_
    rintro e w1 ⟨rfl, rfl⟩
    go_wp2_with fail
    go_region_held3 (fun w' => (w'.cell? ⟨w.heap.size, 0, none⟩ = some (.bool ta) ∧ w'.cell? ⟨w.heap.size, 1, none⟩ = some (.int .i64 na) ∧ w'.cell? ⟨w.heap.size, 2, none⟩ = some (.string sa) ∧
          w'.cell? ⟨w.heap.size + 1, 0, none⟩ = some (.bool tb) ∧ w'.cell? ⟨w.heap.size + 1, 1, none⟩ = some (.int .i64 nb) ∧ w'.cell? ⟨w.heap.size + 1, 2, none⟩ = some (.string sb)) ∧
          Box3R w w' (.bool ta) (.int .i64 na) (.string sa) (.bool tb) (.int .i64 nb) (.string sb) 24)
      (first | exact ⟨Box3R.cells Box3R.startd, Box3R.startd⟩ | (go_split_ands; exact ⟨Box3R.cells (Box3R.next (by assumption) hbm), Box3R.next (by assumption) hbm⟩) | (go_split_ands; exact ⟨Box3R.cells (by assumption), by assumption⟩))
      (first
        | (go_at_call 16; refine (HS.out _ _ _ _ (by assumption)).mono ?_; rintro e w1 ⟨rfl, hbm⟩))
    obtain ⟨_, HD⟩ := ‹_ ∧ Box3R _ _ _ _ _ _ _ _ _›
    obtain ⟨⟨c0, c1, c2⟩, f0, f1, f2⟩ := HD.res
    go_wp2_with fail
    exact bodyPost_ret (v := resV false 0 ⟨#[]⟩ 3) (by simp [resV, results, Tryd.results24, go_sem, *]) rfl ⟨rfl, ((HD.below.setCell (by simp; omega) _).setCell (by simp; omega) _).setCell (by simp; omega) _⟩

set_option maxRecDepth 10000 in
set_option maxHeartbeats 400000 in
theorem opof_bad (op : ByteArray) (ta : Bool) (na : Int) (sa : ByteArray) (tb : Bool) (nb : Int) (sb : ByteArray) (w : World)
    (hc : askAns op (cmpOf ta na sa tb nb sb) = none) (ho : (op.toList == [46, 46]) = false) (hl : sa.size ≤ maxLen) (hl2 : sb.size ≤ maxLen) (hx : numOf ta na sa = none ∨ numOf tb nb sb = none) :
    Calls Tryd.prog 24 #[.string op, .agg #[.bool ta, .int .i64 na, .string sa], .agg #[.bool tb, .int .i64 nb, .string sb]] w fun e w' =>
    e = .returned (resV false 0 ⟨#[]⟩ 3) ∧ Below w.heap.size w w' := by
  have C0 := fun w1 => isAsk_any op (cmpOf ta na sa tb nb sb) w1
  rw [hc] at C0
  have HC0 := Lib.hid C0
  have C1 := fun w1 => numberOf_any ta na sa hl w1
  have C2 := fun w1 => numberOf_any tb nb sb hl2 w1
  generalize numOf ta na sa = x at C1 hx
  generalize numOf tb nb sb = y at C2 hx
  have hn : (numE none).1 = 0 ∧ (numE none).2 = 2 := ⟨rfl, rfl⟩
  cases x with
  | none =>
    rw [hn.1, hn.2] at C1
    generalize numE y = ye at C2
    obtain ⟨y1, y2⟩ := ye
    have HC1 := Lib.hid C1
    have HC2 := Lib.hid C2
    clear C0 C1 C2 hc hl hl2 hx hn
    go_enter Tryd.func24, Tryd.ntmps24
    go_wp2_with fail
    refine (HC0.out _).mono ?_
    rintro e w1 ⟨rfl, rfl⟩
    go_wp2_with fail
    refine (HC1.out _).mono ?_
    rintro e w2 ⟨rfl, hb2⟩
    have HB2 : Box3R w w2 _ _ _ _ _ _ _ := Box3R.start.next hb2
    clear hb2
    obtain ⟨d0, d1, d2, d3, d4, d5⟩ := HB2.cells
    go_wp2_with fail
    refine (HC2.out _).mono ?_
    rintro e w3 ⟨rfl, hb3⟩
    have HB3 := HB2.next hb3
    clear hb3 HB2 d0 d1 d2 d3 d4 d5
    obtain ⟨⟨c0, c1, c2⟩, f0, f1, f2⟩ := HB3.res
    go_wp2_with fail
    exact bodyPost_ret (v := resV false 0 ⟨#[]⟩ 3) (by simp [resV, results, Tryd.results24, go_sem, *]) rfl ⟨rfl, ((HB3.below.setCell (by simp; omega) _).setCell (by simp; omega) _).setCell (by simp; omega) _⟩
  | some x =>
    obtain rfl : y = none := by rcases hx with h | h; cases h; exact h
    have hs : (numE (some x)).1 = x ∧ (numE (some x)).2 = 0 := ⟨rfl, rfl⟩
    rw [hs.1, hs.2] at C1
    rw [hn.1, hn.2] at C2
    have HC1 := Lib.hid C1
    have HC2 := Lib.hid C2
    clear C0 C1 C2 hc hl hl2 hx hn hs
    go_enter Tryd.func24, Tryd.ntmps24
    go_wp2_with fail
    refine (HC0.out _).mono ?_
    rintro e w1 ⟨rfl, rfl⟩
    go_wp2_with fail
    refine (HC1.out _).mono ?_
    rintro e w2 ⟨rfl, hb2⟩
    have HB2 : Box3R w w2 _ _ _ _ _ _ _ := Box3R.start.next hb2
    clear hb2
    obtain ⟨d0, d1, d2, d3, d4, d5⟩ := HB2.cells
    go_wp2_with fail
    refine (HC2.out _).mono ?_
    rintro e w3 ⟨rfl, hb3⟩
    have HB3 := HB2.next hb3
    clear hb3 HB2 d0 d1 d2 d3 d4 d5
    obtain ⟨⟨c0, c1, c2⟩, f0, f1, f2⟩ := HB3.res
    go_wp2_with fail
    exact bodyPost_ret (v := resV false 0 ⟨#[]⟩ 3) (by simp [resV, results, Tryd.results24, go_sem, *]) rfl ⟨rfl, ((HB3.below.setCell (by simp; omega) _).setCell (by simp; omega) _).setCell (by simp; omega) _⟩

theorem rem_eq (x y : Int) : x - x.tdiv y * y = x.tmod y := by
  have := Int.tdiv_mul_add_tmod x y
  omega

set_option maxRecDepth 10000 in
set_option maxHeartbeats 400000 in
theorem opof_arith (op : ByteArray) (ta : Bool) (na : Int) (sa : ByteArray) (tb : Bool) (nb : Int) (sb : ByteArray) (w : World)
    (hc : askAns op (cmpOf ta na sa tb nb sb) = none) (ho : (op.toList == [46, 46]) = false) (hl : sa.size ≤ maxLen) (hl2 : sb.size ≤ maxLen) (x y : Int) (hx : numOf ta na sa = some x) (hy : numOf tb nb sb = some y)
    (x0 : -1099511627776 ≤ x) (x1 : x ≤ 1099511627776) (y0 : -1099511627776 ≤ y) (y1 : y ≤ 1099511627776) :
    Calls Tryd.prog 24 #[.string op, .agg #[.bool ta, .int .i64 na, .string sa], .agg #[.bool tb, .int .i64 nb, .string sb]] w fun e w' =>
    e = .returned (retV (arith op x y)) ∧ Below w.heap.size w w' := by
  have C0 := fun w1 => isAsk_any op (cmpOf ta na sa tb nb sb) w1
  rw [hc] at C0
  have HC0 := Lib.hid C0
  have C1 := fun w1 => numberOf_any ta na sa hl w1
  have C2 := fun w1 => numberOf_any tb nb sb hl2 w1
  rw [hx] at C1
  rw [hy] at C2
  have HC1 := Lib.hid C1
  have HC2 := Lib.hid C2
  have HX := Lib.hid (show numOk x from ⟨x0, x1⟩)
  have HY := Lib.hid (show numOk y from ⟨y0, y1⟩)
  obtain ⟨r, hr⟩ : ∃ r, arith op x y = r := ⟨_, rfl⟩
  rw [hr]
  have HR := Lib.hid hr
  clear C0 C1 C2 hc hl hl2 hx hy hr
  by_cases hyz : y = 0
  · have hq : (y == 0) = true := by simpa using hyz
    clear hyz
    go_enter Tryd.func24, Tryd.ntmps24
    go_wp2_with fail
    refine (HC0.out _).mono ?_
    rintro e w1 ⟨rfl, rfl⟩
    go_wp2_with fail
    refine (HC1.out _).mono ?_
    rintro e w2 ⟨rfl, hb2⟩
    have HB2 : Box3R w w2 _ _ _ _ _ _ _ := Box3R.start.next hb2
    clear hb2
    obtain ⟨d0, d1, d2, d3, d4, d5⟩ := HB2.cells
    go_wp2_with fail
    refine (HC2.out _).mono ?_
    rintro e w3 ⟨rfl, hb3⟩
    have HB3 := HB2.next hb3
    clear hb3 HB2 d0 d1 d2 d3 d4 d5
    obtain ⟨⟨c0, c1, c2⟩, f0, f1, f2⟩ := HB3.res
    unfold numE
    go_wp2_with
      (first
        | (go_at_call 43; refine (within_any _ _).mono ?_; rintro e w4 ⟨rfl, hb4⟩; have HB4 := HB3.next hb4; clear hb4; obtain ⟨⟨d0, d1, d2⟩, g0, g1, g2⟩ := HB4.res; unfold resV)
        | (go_at_call 44; refine (product_any _ _ _ HX.out HY.out).mono ?_; rintro e w4 ⟨rfl, hb4⟩; have HB4 := HB3.next hb4; clear hb4; obtain ⟨⟨d0, d1, d2⟩, g0, g1, g2⟩ := HB4.res; unfold resV))
    all_goals
      have hr := HR.out
      clear HR
      simp only [arith, *, if_true, Bool.false_eq_true, if_false] at hr
      subst hr
      first
        | exact bodyPost_ret (v := resV false (bndE _).1 ⟨#[]⟩ (bndE _).2) (by simp [resV, results, Tryd.results24, go_sem, *]) rfl ⟨rfl, ((HB4.below.setCell (by simp; omega) _).setCell (by simp; omega) _).setCell (by simp; omega) _⟩
        | exact bodyPost_ret (v := resV false 0 ⟨#[]⟩ 2) (by simp [resV, results, Tryd.results24, go_sem, *]) rfl ⟨rfl, ((HB3.below.setCell (by simp; omega) _).setCell (by simp; omega) _).setCell (by simp; omega) _⟩
        | (trace_state; fail)
  · have hq : (y == 0) = false := by simpa using hyz
    have hw1 : wrap64 (x.tdiv y) = x.tdiv y := IntWalk.wrap64_in _ (by have := tdiv_le x y; omega)
    have hw2 : wrap64 (x.tdiv y * y) = x - x.tmod y := by
      rw [← rem_eq x y, IntWalk.wrap64_in _ (by have := tmod_le x y; have := rem_eq x y; omega)]
      omega
    have hw3 : wrap64 (x - (x - x.tmod y)) = x.tmod y := by
      rw [IntWalk.wrap64_in _ (by have := tmod_le x y; omega)]
      omega
    go_enter Tryd.func24, Tryd.ntmps24
    go_wp2_with fail
    refine (HC0.out _).mono ?_
    rintro e w1 ⟨rfl, rfl⟩
    go_wp2_with fail
    refine (HC1.out _).mono ?_
    rintro e w2 ⟨rfl, hb2⟩
    have HB2 : Box3R w w2 _ _ _ _ _ _ _ := Box3R.start.next hb2
    clear hb2
    obtain ⟨d0, d1, d2, d3, d4, d5⟩ := HB2.cells
    go_wp2_with fail
    refine (HC2.out _).mono ?_
    rintro e w3 ⟨rfl, hb3⟩
    have HB3 := HB2.next hb3
    clear hb3 HB2 d0 d1 d2 d3 d4 d5
    obtain ⟨⟨c0, c1, c2⟩, f0, f1, f2⟩ := HB3.res
    unfold numE
    go_wp2_with
      (first
        | (go_at_call 43; refine (within_any _ _).mono ?_; rintro e w4 ⟨rfl, hb4⟩; have HB4 := HB3.next hb4; clear hb4; obtain ⟨⟨d0, d1, d2⟩, g0, g1, g2⟩ := HB4.res; unfold resV)
        | (go_at_call 44; refine (product_any _ _ _ HX.out HY.out).mono ?_; rintro e w4 ⟨rfl, hb4⟩; have HB4 := HB3.next hb4; clear hb4; obtain ⟨⟨d0, d1, d2⟩, g0, g1, g2⟩ := HB4.res; unfold resV))
    all_goals
      have hr := HR.out
      clear HR
      simp only [arith, *, if_true, Bool.false_eq_true, if_false] at hr
      subst hr
      first
        | exact bodyPost_ret (v := resV false (bndE _).1 ⟨#[]⟩ (bndE _).2) (by simp [resV, results, Tryd.results24, go_sem, *]) rfl ⟨rfl, ((HB4.below.setCell (by simp; omega) _).setCell (by simp; omega) _).setCell (by simp; omega) _⟩
        | exact bodyPost_ret (v := resV false 0 ⟨#[]⟩ 2) (by simp [resV, results, Tryd.results24, go_sem, *]) rfl ⟨rfl, ((HB3.below.setCell (by simp; omega) _).setCell (by simp; omega) _).setCell (by simp; omega) _⟩
        | (trace_state; fail)

/-- What the reference answers, at every two values: what value.Op answers. -/
theorem opof_any (op : ByteArray) (ta : Bool) (na : Int) (sa : ByteArray) (tb : Bool) (nb : Int) (sb : ByteArray) (w : World) (ha : numOk na) (hb : numOk nb) (hl : sa.size ≤ 1000000) (hl2 : sb.size ≤ 1000000) :
    Calls Tryd.prog 24 #[.string op, .agg #[.bool ta, .int .i64 na, .string sa], .agg #[.bool tb, .int .i64 nb, .string sb]] w fun e w' =>
    e = .returned (retV (opR op (askAns op (cmpOf ta na sa tb nb sb)) (strOf ta na sa ++ strOf tb nb sb) (numOf ta na sa) (numOf tb nb sb))) ∧ Below w.heap.size w w' := by
  cases hc : askAns op (cmpOf ta na sa tb nb sb) with
  | some b =>
    cases b
    · exact opof_ask_false op ta na sa tb nb sb w ha hb hc
    · exact opof_ask_true op ta na sa tb nb sb w ha hb hc
  | none =>
    by_cases ho : (op.toList == [46, 46]) = true
    · have := opof_join op ta na sa tb nb sb w ha hb hc ho (strOf_size ta na sa ha hl) (strOf_size tb nb sb hb hl2)
      unfold opR
      dsimp only
      rw [if_pos ho]
      exact this
    · rw [Bool.not_eq_true] at ho
      have hm1 : sa.size ≤ maxLen := by unfold maxLen; omega
      have hm2 : sb.size ≤ maxLen := by unfold maxLen; omega
      unfold opR
      dsimp only
      rw [if_neg (by rw [ho]; simp)]
      cases hx : numOf ta na sa with
      | none => exact opof_bad op ta na sa tb nb sb w hc ho hm1 hm2 (Or.inl hx)
      | some x =>
        cases hy : numOf tb nb sb with
        | none => exact opof_bad op ta na sa tb nb sb w hc ho hm1 hm2 (Or.inr hy)
        | some y =>
          have bx := numOf_bd ha hx
          have bY := numOf_bd hb hy
          exact opof_arith op ta na sa tb nb sb w hc ho hm1 hm2 x y hx hy bx.1 bx.2 bY.1 bY.2
end Go.Proofs.YtfnmepnbbeijhaaDoor

/- THE WALKS of the laws ValueOps, SumsBack, Compared. -/
import Derived.Test.YtfnmepnbbeijhaaDoorDOpOf
namespace Go.Proofs.YtfnmepnbbeijhaaDoor
open Go Go.RowKit

theorem vf_ok {t : Bool} {n : Int} {s : ByteArray} (h : vfault t n s = 0) : numOk n ∧ s.size ≤ 200 := by
  cases t
  · change (if 0 < s.size then (4 : Int) else if n < -1099511627776 ∨ 1099511627776 < n then 2 else 0) = 0 at h
    by_cases h1 : 0 < s.size
    · rw [if_pos h1] at h
      omega
    · rw [if_neg h1] at h
      by_cases h2 : n < -1099511627776 ∨ 1099511627776 < n
      · rw [if_pos h2] at h
        omega
      · exact ⟨⟨by omega, by omega⟩, by omega⟩
  · change (if n ≠ 0 then (4 : Int) else if 200 < s.size then 1 else 0) = 0 at h
    by_cases h1 : n ≠ 0
    · rw [if_pos h1] at h
      omega
    · rw [if_neg h1] at h
      by_cases h2 : 200 < s.size
      · rw [if_pos h2] at h
        omega
      · exact ⟨⟨by omega, by omega⟩, by omega⟩

theorem Box2.alloc {w0 w1 : World} {a b c a' b' c' : Value} {T : TypeId} (h : Box2 w0 w1 a b c a' b' c' T) (o : Obj) : Box2 w0 (w1.alloc o) a b c a' b' c' T := h.next ((Below.refl _ _).alloc (Nat.le_refl _) o)

/-- A box, in a later world and behind one block more. -/
theorem boxo {W w1 : World} {a b c : Value} {T : TypeId} (h : Hid (Below (W.heap.size + 1) (W.alloc (.cells #[a, b, c] T)) w1)) (o : Obj) :
    (w1.alloc o).cell? ⟨W.heap.size, 0, none⟩ = some a ∧ (w1.alloc o).cell? ⟨W.heap.size, 1, none⟩ = some b ∧ (w1.alloc o).cell? ⟨W.heap.size, 2, none⟩ = some c :=
  (boxw rfl (boxw_next rfl h ((Below.refl _ _).alloc (Nat.le_refl _) o)).out).1

set_option maxRecDepth 10000 in
set_option maxHeartbeats 400000 in
theorem valueOps_any (op : ByteArray) (ta : Bool) (na : Int) (sa : ByteArray) (tb : Bool) (nb : Int) (sb : ByteArray) (w : World) (ht : Pow10 w) :
    Calls Tryd.prog 7 #[.string op, .agg #[.bool ta, .int .i64 na, .string sa], .agg #[.bool tb, .int .i64 nb, .string sb]] w fun e w' => e = .returned (.bool true) ∧ Below w.heap.size w w' := by
  by_cases hv : vfault ta na sa = 0
  · have HV := Lib.hid hv
    by_cases hv2 : vfault tb nb sb = 0
    · have HV2 := Lib.hid hv2
      have C1 := fun w1 h => op_any op ta na sa tb nb sb w1 h (vf_ok hv).1 (vf_ok hv2).1 (by have := (vf_ok hv).2; omega) (by have := (vf_ok hv2).2; omega)
      have C2 := fun w1 => opof_any op ta na sa tb nb sb w1 (vf_ok hv).1 (vf_ok hv2).1 (by have := (vf_ok hv).2; omega) (by have := (vf_ok hv2).2; omega)
      generalize opR op (askAns op (cmpOf ta na sa tb nb sb)) (strOf ta na sa ++ strOf tb nb sb) (numOf ta na sa) (numOf tb nb sb) = r at C1 C2
      obtain ⟨rt, rn, rs, re⟩ := r
      unfold retV resV at C1 C2
      dsimp only at C1 C2
      have HC1 := Lib.hid C1
      have HC2 := Lib.hid C2
      have HT := Lib.hid ht
      clear C1 C2 hv hv2 ht
      go_enter Tryd.func7, Tryd.ntmps7
      go_wp2_with fail
      refine (fault_any _ _ _ _).mono ?_
      rintro e w1 ⟨rfl, hb1⟩
      rw [HV.out]
      have B1 : Box2 w w1 _ _ _ _ _ _ _ := Box2.start.next hb1
      clear hb1
      obtain ⟨d0, d1, d2, d3, d4, d5⟩ := B1.cells
      go_wp2_with fail
      refine (fault_any _ _ _ _).mono ?_
      rintro e w2 ⟨rfl, hb2⟩
      rw [HV2.out]
      have B2 := B1.next hb2
      clear hb2 B1 d0 d1 d2 d3 d4 d5
      obtain ⟨d0, d1, d2, d3, d4, d5⟩ := B2.cells
      go_wp2_with fail
      refine (HC1.out _ (HT.out.mono B2.below)).mono ?_
      rintro e w3 ⟨rfl, hb3⟩
      have B3 := B2.next hb3
      clear hb3 B2 d0 d1 d2 d3 d4 d5
      have d0 := fun o => (B3.alloc o).cells.1
      have d1 := fun o => (B3.alloc o).cells.2.1
      have d2 := fun o => (B3.alloc o).cells.2.2.1
      have d3 := fun o => (B3.alloc o).cells.2.2.2.1
      have d4 := fun o => (B3.alloc o).cells.2.2.2.2.1
      have d5 := fun o => (B3.alloc o).cells.2.2.2.2.2
      go_wp2_with fail
      refine (HC2.out _).mono ?_
      rintro e w4 ⟨rfl, hb4⟩
      have B4 := (B3.alloc _).next hb4
      have X4 := boxw_start rfl hb4
      clear hb4 B3 d0 d1 d2 d3 d4 d5
      have e0 := fun o => (boxo X4 o).1
      have e1 := fun o => (boxo X4 o).2.1
      have e2 := fun o => (boxo X4 o).2.2
      go_wp2_with fail
      go_ret
      exact ⟨ret_bool (by simp), (B4.alloc _).below⟩
    · have H : (vfault tb nb sb != 0) = true := by simpa using hv2
      clear ht hv hv2
      go_enter Tryd.func7, Tryd.ntmps7
      go_wp2_with fail
      refine (fault_any _ _ _ _).mono ?_
      rintro e w1 ⟨rfl, hb1⟩
      rw [HV.out]
      have B1 : Box2 w w1 _ _ _ _ _ _ _ := Box2.start.next hb1
      clear hb1
      obtain ⟨d0, d1, d2, d3, d4, d5⟩ := B1.cells
      go_wp2_with fail
      refine (fault_any _ _ _ _).mono ?_
      rintro e w2 ⟨rfl, hb2⟩
      have B2 := B1.next hb2
      clear hb2 B1 d0 d1 d2 d3 d4 d5
      go_wp2_with fail
      go_ret
      exact ⟨rfl, B2.below⟩
  · have H : (vfault ta na sa != 0) = true := by simpa using hv
    clear ht hv
    go_enter Tryd.func7, Tryd.ntmps7
    go_wp2_with fail
    refine (fault_any _ _ _ _).mono ?_
    rintro e w1 ⟨rfl, hb1⟩
    have B1 : Box2 w w1 _ _ _ _ _ _ _ := Box2.start.next hb1
    clear hb1
    go_wp2_with fail
    go_ret
    exact ⟨rfl, B1.below⟩
end Go.Proofs.YtfnmepnbbeijhaaDoor

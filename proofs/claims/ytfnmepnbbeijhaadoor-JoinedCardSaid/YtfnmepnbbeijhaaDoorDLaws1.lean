/- THE WALKS of the laws ValueStrs and ValueNums; conditions: strconv's table of powers reads as the program's text lays it. -/
import Derived.Test.YtfnmepnbbeijhaaDoorDNum
namespace Go.Proofs.YtfnmepnbbeijhaaDoor
open Go Go.RowKit

theorem valueStrs_any (t : Bool) (n : Int) (s : ByteArray) (w : World) (h0 : -9223372036854775808 ≤ n) (h1 : n ≤ 9223372036854775807) (ht : Pow10 w) :
    Calls Tryd.prog 4 #[.agg #[.bool t, .int .i64 n, .string s]] w fun e w' => e = .returned (.bool true) ∧ Below w.heap.size w w' := by
  by_cases hv : vfault t n s = 0
  · have HV := Lib.hid hv
    have HT := Lib.hid ht
    clear hv ht
    have C1 := fun w1 h => str_any t n s w1 h0 h1 h
    have C2 := fun w1 => textOf_any t n s w1 h0 h1
    generalize strOf t n s = r at C1 C2
    have HC1 := Lib.hid C1
    have HC2 := Lib.hid C2
    clear C1 C2
    go_enter Tryd.func4, Tryd.ntmps4
    go_wp2_with fail
    refine (fault_any _ _ _ _).mono ?_
    rintro e w1 ⟨rfl, hb1⟩
    rw [HV.out]
    replace hb1 := box_start _ _ hb1
    obtain ⟨c0, c1, c2⟩ := box3 hb1
    go_wp2_with fail
    refine (HC1.out _ (HT.out.mono (box_below hb1))).mono ?_
    rintro e w2 ⟨rfl, hb2⟩
    replace hb2 := box_next hb1 hb2
    obtain ⟨d0, d1, d2⟩ := box3 hb2
    go_wp2_with fail
    refine (HC2.out _).mono ?_
    rintro e w3 ⟨rfl, hb3⟩
    replace hb3 := box_next hb2 hb3
    go_wp2_with fail
    go_ret
    exact ⟨ret_bool (by simp), box_below hb3⟩
  · have H : (vfault t n s != 0) = true := by simpa using hv
    clear ht
    go_enter Tryd.func4, Tryd.ntmps4
    go_wp2_with fail
    refine (fault_any _ _ _ _).mono ?_
    rintro e w1 ⟨rfl, hb1⟩
    replace hb1 := box_start _ _ hb1
    go_wp2_with fail
    go_ret
    exact ⟨rfl, box_below hb1⟩

theorem valueNums_any (t : Bool) (n : Int) (s : ByteArray) (hs : s.size ≤ maxLen) (w : World) :
    Calls Tryd.prog 5 #[.agg #[.bool t, .int .i64 n, .string s]] w fun e w' => e = .returned (.bool true) ∧ Below w.heap.size w w' := by
  by_cases hv : vfault t n s = 0
  · have HV := Lib.hid hv
    clear hv
    have C1 := fun w1 => num_any t n s hs w1
    have C2 := fun w1 => numberOf_any t n s hs w1
    generalize numE (numOf t n s) = r at C1 C2
    obtain ⟨r1, r2⟩ := r
    have HC1 := Lib.hid C1
    have HC2 := Lib.hid C2
    clear C1 C2
    go_enter Tryd.func5, Tryd.ntmps5
    go_wp2_with fail
    refine (fault_any _ _ _ _).mono ?_
    rintro e w1 ⟨rfl, hb1⟩
    rw [HV.out]
    replace hb1 := box_start _ _ hb1
    obtain ⟨c0, c1, c2⟩ := box3 hb1
    go_wp2_with fail
    refine (HC1.out _).mono ?_
    rintro e w2 ⟨rfl, hb2⟩
    replace hb2 := box_next hb1 hb2
    obtain ⟨d0, d1, d2⟩ := box3 hb2
    go_wp2_with fail
    refine (HC2.out _).mono ?_
    rintro e w3 ⟨rfl, hb3⟩
    replace hb3 := box_next hb2 hb3
    go_wp2_with fail
    go_ret
    exact ⟨ret_bool (by simp), box_below hb3⟩
  · have H : (vfault t n s != 0) = true := by simpa using hv
    go_enter Tryd.func5, Tryd.ntmps5
    go_wp2_with fail
    refine (fault_any _ _ _ _).mono ?_
    rintro e w1 ⟨rfl, hb1⟩
    replace hb1 := box_start _ _ hb1
    go_wp2_with fail
    go_ret
    exact ⟨rfl, box_below hb1⟩
end Go.Proofs.YtfnmepnbbeijhaaDoor

/- THE WALKS of the plain value laws (Number, Text, True, Check, and the reference's answers); conditions: none. -/
import Derived.Test.YtfnmepnbbeijhaaRows
import Derived.WalkKit
import Derived.WalkLawsBesides
import Derived.Lib.Strings
import Derived.Lib.Hide
namespace Go.Proofs.Ytfnmepnbbeijhaa
open Go Go.RowKit

theorem number_any (n : Int) (w : World) : Calls Try.prog 9 #[.int .i64 n] w fun e w' =>
    e = .returned (.agg #[.bool false, .int .i64 n, .string ⟨#[]⟩]) ∧ w' = w.alloc (.cells #[.bool false, .int .i64 n, .string ⟨#[]⟩] 27) := by
  go_enter Try.func9, Try.ntmps9
  go_wp2
  exact bodyPost_ret (v := .agg #[.bool false, .int .i64 n, .string ⟨#[]⟩]) (by simp [results, Try.results9, go_sem]) rfl ⟨rfl, rfl⟩

theorem text_any (s : ByteArray) (w : World) : Calls Try.prog 10 #[.string s] w fun e w' =>
    e = .returned (.agg #[.bool true, .int .i64 0, .string s]) ∧ w' = w.alloc (.cells #[.bool true, .int .i64 0, .string s] 27) := by
  go_enter Try.func10, Try.ntmps10
  go_wp2
  exact bodyPost_ret (v := .agg #[.bool true, .int .i64 0, .string s]) (by simp [results, Try.results10, go_sem]) rfl ⟨rfl, rfl⟩

theorem numbers_any (n : Int) (w : World) : Calls Try.prog 4 #[.int .i64 n] w fun e w' => e = .returned (.bool true) ∧ Below w.heap.size w w' := by
  go_enter Try.func4, Try.ntmps4
  go_wp2_with (go_at_call 9; refine (number_any _ _).mono ?_; rintro e w' ⟨rfl, rfl⟩)
  go_ret
  exact ⟨rfl, ((Below.refl _ _).alloc (Nat.le_refl _) _).alloc (by simp) _⟩

theorem texts_any (s : ByteArray) (w : World) : Calls Try.prog 5 #[.string s] w fun e w' => e = .returned (.bool true) ∧ Below w.heap.size w w' := by
  go_enter Try.func5, Try.ntmps5
  go_wp2_with (go_at_call 10; refine (text_any _ _).mono ?_; rintro e w' ⟨rfl, rfl⟩)
  go_ret
  exact ⟨rfl, ((Below.refl _ _).alloc (Nat.le_refl _) _).alloc (by simp) _⟩

/-- What P1.1 says of a value: the error's number. -/
def vfault : Bool → Int → ByteArray → Int
  | true, n, s => if n ≠ 0 then 4 else if 200 < s.size then 1 else 0
  | false, n, s => if 0 < s.size then 4 else if n < -1099511627776 ∨ 1099511627776 < n then 2 else 0

theorem size_nil {s : ByteArray} (h : ¬ 0 < s.size) : s = ⟨#[]⟩ := by
  obtain ⟨⟨l⟩⟩ := s
  have : l.length = 0 := by
    have e : (ByteArray.mk ⟨l⟩).size = l.length := rfl
    omega
  cases l with
  | nil => rfl
  | cons _ _ => simp at this

theorem toList_pos {s : ByteArray} (h : 0 < s.size) : s.toList.isEmpty = false := by
  cases e : s.toList with
  | nil =>
    rw [Lib.toList_data] at e
    rw [Lib.size_eq, e] at h
    simp at h
  | cons _ _ => rfl

theorem vf_text {n : Int} {s : ByteArray} (h : n ≠ 0) : vfault true n s = 4 := if_pos h
theorem vf_long {s : ByteArray} (h : 200 < s.size) : vfault true 0 s = 1 := by simp [vfault, h]
theorem vf_fits {s : ByteArray} (h : ¬ 200 < s.size) : vfault true 0 s = 0 := by simp [vfault, h]
theorem vf_form {n : Int} {s : ByteArray} (h : 0 < s.size) : vfault false n s = 4 := if_pos h
theorem vf_out {n : Int} (h : n < -1099511627776 ∨ 1099511627776 < n) : vfault false n ⟨#[]⟩ = 2 := by
  show (if 0 < (⟨#[]⟩ : ByteArray).size then (4 : Int) else if n < -1099511627776 ∨ 1099511627776 < n then 2 else 0) = 2
  rw [if_neg (by decide), if_pos h]
theorem vf_in {n : Int} (h : ¬ (n < -1099511627776 ∨ 1099511627776 < n)) : vfault false n ⟨#[]⟩ = 0 := by
  show (if 0 < (⟨#[]⟩ : ByteArray).size then (4 : Int) else if n < -1099511627776 ∨ 1099511627776 < n then 2 else 0) = 0
  rw [if_neg (by decide), if_neg h]

theorem in_yes (n a b : Int) (w : World) (h1 : a ≤ n) (h2 : n ≤ b) : Calls Try.prog 17 #[.int .i64 n, .int .i64 a, .int .i64 b] w fun e w' =>
    e = .returned (.bool true) ∧ w' = w := by
  go_enter Try.func17, Try.ntmps17
  go_wp2
  go_ret
  exact ⟨by simp, rfl⟩

theorem in_no (n a b : Int) (w : World) (h : n < a ∨ b < n) : Calls Try.prog 17 #[.int .i64 n, .int .i64 a, .int .i64 b] w fun e w' =>
    e = .returned (.bool false) ∧ w' = w := by
  by_cases h1 : a ≤ n
  · have h2 : ¬ n ≤ b := by omega
    clear h
    go_enter Try.func17, Try.ntmps17
    go_wp2
    go_ret
    exact ⟨by simp, rfl⟩
  · clear h
    go_enter Try.func17, Try.ntmps17
    go_wp2
    go_ret
    exact ⟨by simp, rfl⟩

theorem ret_int {k : IntKind} {a b : Int} (h : a = b) : Ending.returned (.int k a) = .returned (.int k b) := by rw [h]
theorem ret_bool {a b : Bool} (h : a = b) : Ending.returned (.bool a) = .returned (.bool b) := by rw [h]

theorem fault_any (t : Bool) (n : Int) (s : ByteArray) (w : World) : Calls Try.prog 11 #[.agg #[.bool t, .int .i64 n, .string s]] w fun e w' =>
    e = .returned (.int .i64 (vfault t n s)) ∧ Below w.heap.size w w' := by
  cases t
  · by_cases hs : 0 < s.size
    · have hl := toList_pos hs
      go_enter Try.func11, Try.ntmps11
      go_wp2_with fail
      go_ret
      exact ⟨ret_int (vf_form hs).symm, (Below.refl _ _).alloc (Nat.le_refl _) _⟩
    · obtain rfl := size_nil hs
      by_cases ha : n < -1099511627776
      · have h1 : n < -1099511627776 ∨ 1099511627776 < n := Or.inl ha
        have H := Lib.hid (vf_out h1)
        go_enter Try.func11, Try.ntmps11
        go_wp2_with (go_at_call 17; refine (in_no _ _ _ _ h1).mono ?_; rintro e w' ⟨rfl, rfl⟩)
        go_ret
        exact ⟨ret_int (H.out).symm, (Below.refl _ _).alloc (Nat.le_refl _) _⟩
      · by_cases hb : 1099511627776 < n
        · have h1 : n < -1099511627776 ∨ 1099511627776 < n := Or.inr hb
          have H := Lib.hid (vf_out h1)
          go_enter Try.func11, Try.ntmps11
          go_wp2_with (go_at_call 17; refine (in_no _ _ _ _ h1).mono ?_; rintro e w' ⟨rfl, rfl⟩)
          go_ret
          exact ⟨ret_int (H.out).symm, (Below.refl _ _).alloc (Nat.le_refl _) _⟩
        · have H := Lib.hid (vf_in (n := n) (by omega))
          go_enter Try.func11, Try.ntmps11
          go_wp2_with (go_at_call 17; refine (in_yes _ _ _ _ (by omega) (by omega)).mono ?_; rintro e w' ⟨rfl, rfl⟩)
          go_ret
          exact ⟨ret_int (H.out).symm, (Below.refl _ _).alloc (Nat.le_refl _) _⟩
  · by_cases hn : n = 0
    · subst hn
      by_cases hs : 200 < s.size
      · have H := Lib.hid (vf_long hs)
        go_enter Try.func11, Try.ntmps11
        go_wp2_with (go_at_call 17; refine (in_yes _ _ _ _ (by omega) (by omega)).mono ?_; rintro e w' ⟨rfl, rfl⟩)
        go_ret
        exact ⟨ret_int (H.out).symm, (Below.refl _ _).alloc (Nat.le_refl _) _⟩
      · have H := Lib.hid (vf_fits hs)
        go_enter Try.func11, Try.ntmps11
        go_wp2_with (go_at_call 17; refine (in_yes _ _ _ _ (by omega) (by omega)).mono ?_; rintro e w' ⟨rfl, rfl⟩)
        go_ret
        exact ⟨ret_int (H.out).symm, (Below.refl _ _).alloc (Nat.le_refl _) _⟩
    · have H := Lib.hid (vf_text (s := s) hn)
      go_enter Try.func11, Try.ntmps11
      go_wp2_with fail
      go_ret
      exact ⟨ret_int (H.out).symm, (Below.refl _ _).alloc (Nat.le_refl _) _⟩

theorem check_any (t : Bool) (n : Int) (s : ByteArray) (w : World) : Calls Try.prog 14 #[.agg #[.bool t, .int .i64 n, .string s]] w fun e w' =>
    e = .returned (.int .i64 (vfault t n s)) ∧ Below w.heap.size w w' := by
  cases t
  · by_cases hs : 0 < s.size
    · have hl := toList_pos hs
      go_enter Try.func14, Try.ntmps14
      go_wp2_with fail
      go_ret
      exact ⟨ret_int (vf_form hs).symm, (Below.refl _ _).alloc (Nat.le_refl _) _⟩
    · obtain rfl := size_nil hs
      by_cases ha : n < -1099511627776
      · have h1 : n < -1099511627776 ∨ 1099511627776 < n := Or.inl ha
        have H := Lib.hid (vf_out h1)
        clear h1
        go_enter Try.func14, Try.ntmps14
        go_wp2_with fail
        go_ret
        exact ⟨ret_int (H.out).symm, (Below.refl _ _).alloc (Nat.le_refl _) _⟩
      · by_cases hb : 1099511627776 < n
        · have h1 : n < -1099511627776 ∨ 1099511627776 < n := Or.inr hb
          have H := Lib.hid (vf_out h1)
          clear h1
          go_enter Try.func14, Try.ntmps14
          go_wp2_with fail
          go_ret
          exact ⟨ret_int (H.out).symm, (Below.refl _ _).alloc (Nat.le_refl _) _⟩
        · have H := Lib.hid (vf_in (n := n) (by omega))
          go_enter Try.func14, Try.ntmps14
          go_wp2_with fail
          go_ret
          exact ⟨ret_int (H.out).symm, (Below.refl _ _).alloc (Nat.le_refl _) _⟩
  · by_cases hn : n = 0
    · subst hn
      by_cases hs : 200 < s.size
      · have H := Lib.hid (vf_long hs)
        go_enter Try.func14, Try.ntmps14
        go_wp2_with fail
        go_ret
        exact ⟨ret_int (H.out).symm, (Below.refl _ _).alloc (Nat.le_refl _) _⟩
      · have H := Lib.hid (vf_fits hs)
        go_enter Try.func14, Try.ntmps14
        go_wp2_with fail
        go_ret
        exact ⟨ret_int (H.out).symm, (Below.refl _ _).alloc (Nat.le_refl _) _⟩
    · have H := Lib.hid (vf_text (s := s) hn)
      go_enter Try.func14, Try.ntmps14
      go_wp2_with fail
      go_ret
      exact ⟨ret_int (H.out).symm, (Below.refl _ _).alloc (Nat.le_refl _) _⟩

/-- What P1.2 says of a value: does it hold? -/
def holds : Bool → Int → ByteArray → Bool
  | true, _, s => decide (0 < s.size)
  | false, n, _ => n != 0

theorem true_any (t : Bool) (n : Int) (s : ByteArray) (w : World) : Calls Try.prog 12 #[.agg #[.bool t, .int .i64 n, .string s]] w fun e w' =>
    e = .returned (.bool (holds t n s)) ∧ Below w.heap.size w w' := by
  cases t
  · go_enter Try.func12, Try.ntmps12
    go_wp2_with fail
    go_ret
    exact ⟨rfl, (Below.refl _ _).alloc (Nat.le_refl _) _⟩
  · by_cases hs : 0 < s.size
    · have hl := toList_pos hs
      go_enter Try.func12, Try.ntmps12
      go_wp2_with fail
      go_ret
      exact ⟨ret_bool (by simp [holds, hs]), (Below.refl _ _).alloc (Nat.le_refl _) _⟩
    · obtain rfl := size_nil hs
      go_enter Try.func12, Try.ntmps12
      go_wp2_with fail
      go_ret
      exact ⟨rfl, (Below.refl _ _).alloc (Nat.le_refl _) _⟩

theorem holds_any (t : Bool) (n : Int) (s : ByteArray) (w : World) : Calls Try.prog 13 #[.agg #[.bool t, .int .i64 n, .string s]] w fun e w' =>
    e = .returned (.bool (holds t n s)) ∧ Below w.heap.size w w' := by
  cases t
  all_goals
    go_enter Try.func13, Try.ntmps13
    go_wp2_with fail
    go_ret
    exact ⟨ret_bool (by simp [holds]), (Below.refl _ _).alloc (Nat.le_refl _) _⟩

/-- A callee that leaves all that lay as it was, behind what is known from B on. -/
theorem below_next {B : Nat} {a w1 w2 : World} (h : Below B a w1) (h2 : Below w1.heap.size w1 w2) (hB : B ≤ a.heap.size) : Below B a w2 :=
  h.trans (h2.mono (Nat.le_trans hB h.size))

/-- The box of a struct of three cells, in a later world. -/
theorem box3 {w w1 : World} {a b c : Value} {T : TypeId} (h : Below (w.heap.size + 1) (w.alloc (.cells #[a, b, c] T)) w1) :
    w1.cell? ⟨w.heap.size, 0, none⟩ = some a ∧ w1.cell? ⟨w.heap.size, 1, none⟩ = some b ∧ w1.cell? ⟨w.heap.size, 2, none⟩ = some c :=
  ⟨(h.cell (p := ⟨w.heap.size, 0, none⟩) (by simp)).trans (by simp [go_sem]), (h.cell (p := ⟨w.heap.size, 1, none⟩) (by simp)).trans (by simp [go_sem]),
    (h.cell (p := ⟨w.heap.size, 2, none⟩) (by simp)).trans (by simp [go_sem])⟩

theorem box_below {w w1 : World} {o : Obj} (h : Below (w.heap.size + 1) (w.alloc o) w1) : Below w.heap.size w w1 :=
  ((Below.refl _ _).alloc (Nat.le_refl _) o).trans (h.mono (by omega))

theorem box_start (w : World) (o : Obj) {w1 : World} (h : Below (w.alloc o).heap.size (w.alloc o) w1) : Below (w.heap.size + 1) (w.alloc o) w1 := h.mono (by simp)

theorem box_next {w w1 w2 : World} {o : Obj} (h : Below (w.heap.size + 1) (w.alloc o) w1) (h2 : Below w1.heap.size w1 w2) : Below (w.heap.size + 1) (w.alloc o) w2 :=
  below_next h h2 (by simp)

theorem trues_any (t : Bool) (n : Int) (s : ByteArray) (w : World) : Calls Try.prog 6 #[.agg #[.bool t, .int .i64 n, .string s]] w fun e w' => e = .returned (.bool true) ∧ Below w.heap.size w w' := by
  by_cases hv : vfault t n s = 0
  · have HV := Lib.hid hv
    clear hv
    go_enter Try.func6, Try.ntmps6
    go_wp2_with fail
    refine (fault_any _ _ _ _).mono ?_
    rintro e w1 ⟨rfl, hb1⟩
    rw [HV.out]
    replace hb1 := box_start _ _ hb1
    obtain ⟨c0, c1, c2⟩ := box3 hb1
    go_wp2_with fail
    refine (true_any _ _ _ _).mono ?_
    rintro e w2 ⟨rfl, hb2⟩
    replace hb2 := box_next hb1 hb2
    obtain ⟨d0, d1, d2⟩ := box3 hb2
    go_wp2_with fail
    refine (holds_any _ _ _ _).mono ?_
    rintro e w3 ⟨rfl, hb3⟩
    replace hb3 := box_next hb2 hb3
    go_wp2_with fail
    go_ret
    exact ⟨ret_bool (by simp), box_below hb3⟩
  · have H : (vfault t n s != 0) = true := by simpa using hv
    go_enter Try.func6, Try.ntmps6
    go_wp2_with fail
    refine (fault_any _ _ _ _).mono ?_
    rintro e w1 ⟨rfl, hb1⟩
    replace hb1 := box_start _ _ hb1
    go_wp2_with fail
    go_ret
    exact ⟨rfl, box_below hb1⟩

theorem checks_any (t : Bool) (n : Int) (s : ByteArray) (w : World) : Calls Try.prog 7 #[.agg #[.bool t, .int .i64 n, .string s]] w fun e w' => e = .returned (.bool true) ∧ Below w.heap.size w w' := by
  go_enter Try.func7, Try.ntmps7
  go_wp2_with fail
  refine (check_any _ _ _ _).mono ?_
  rintro e w1 ⟨rfl, hb1⟩
  replace hb1 := box_start _ _ hb1
  obtain ⟨c0, c1, c2⟩ := box3 hb1
  go_wp2_with fail
  refine (fault_any _ _ _ _).mono ?_
  rintro e w2 ⟨rfl, hb2⟩
  replace hb2 := box_next hb1 hb2
  go_wp2_with fail
  go_ret
  exact ⟨ret_bool (by simp), box_below hb2⟩

end Go.Proofs.Ytfnmepnbbeijhaa

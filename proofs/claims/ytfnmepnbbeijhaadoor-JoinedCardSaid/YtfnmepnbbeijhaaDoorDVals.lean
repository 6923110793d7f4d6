/- THE WALKS of value.Str, value.Num and of the reference's dec, TextOf, NumberOf, ValueFault; conditions: strconv's table of powers reads as the program's text lays it. -/
import Derived.Test.YtfnmepnbbeijhaaDoorDName
import Derived.Test.YtfnmepnbbeijhaaDoorMath
import Derived.Lib.ItoaMem
namespace Go.Proofs.YtfnmepnbbeijhaaDoor
open Go Go.RowKit

theorem ret_str {a b : ByteArray} (h : a = b) : Ending.returned (.string a) = .returned (.string b) := by rw [h]

theorem number_any (n : Int) (w : World) : Calls Tryd.prog 20 #[.int .i64 n] w fun e w' =>
    e = .returned (.agg #[.bool false, .int .i64 n, .string ⟨#[]⟩]) ∧ w' = w.alloc (.cells #[.bool false, .int .i64 n, .string ⟨#[]⟩] 24) := by
  go_enter Tryd.func20, Tryd.ntmps20
  go_wp2
  exact bodyPost_ret (v := .agg #[.bool false, .int .i64 n, .string ⟨#[]⟩]) (by simp [results, Tryd.results20, go_sem]) rfl ⟨rfl, rfl⟩

theorem text_any (s : ByteArray) (w : World) : Calls Tryd.prog 19 #[.string s] w fun e w' =>
    e = .returned (.agg #[.bool true, .int .i64 0, .string s]) ∧ w' = w.alloc (.cells #[.bool true, .int .i64 0, .string s] 24) := by
  go_enter Tryd.func19, Tryd.ntmps19
  go_wp2
  exact bodyPost_ret (v := .agg #[.bool true, .int .i64 0, .string s]) (by simp [results, Tryd.results19, go_sem]) rfl ⟨rfl, rfl⟩

/-- What P1.1 says of a value: the error's number. -/
def vfault : Bool → Int → ByteArray → Int
  | true, n, s => if n ≠ 0 then 4 else if 200 < s.size then 1 else 0
  | false, n, s => if 0 < s.size then 4 else if n < -1099511627776 ∨ 1099511627776 < n then 2 else 0

theorem vf_text {n : Int} {s : ByteArray} (h : n ≠ 0) : vfault true n s = 4 := if_pos h
theorem vf_long {s : ByteArray} (h : 200 < s.size) : vfault true 0 s = 1 := by simp [vfault, h]
theorem vf_fits {s : ByteArray} (h : ¬ 200 < s.size) : vfault true 0 s = 0 := by simp [vfault, h]
theorem vf_form {n : Int} {s : ByteArray} (h : 0 < s.size) : vfault false n s = 4 := if_pos h
theorem vf_out {n : Int} (h : n < -1099511627776 ∨ 1099511627776 < n) : vfault false n ⟨#[]⟩ = 2 := by
  show (if 0 < (⟨#[]⟩ : ByteArray).size then (4 : Int) else if n < -1099511627776 ∨ 1099511627776 < n then 2 else 0) = 2
  rw [if_neg (by decide), if_pos h]
theorem vf_in {n : Int} (h : ¬ (n < -1099511627776 ∨ 1099511627776 < n)) : vfault false n ⟨#[]⟩ = 0 := by
  show (if 0 < (⟨#[]⟩ : ByteArray).size then (4 : Int) else if n < -1099511627776 ∨ 1099511627776 < n then 2 else 0) = 0
  rw [if_neg (by decide), if_neg h]

theorem fault_any (t : Bool) (n : Int) (s : ByteArray) (w : World) : Calls Tryd.prog 14 #[.agg #[.bool t, .int .i64 n, .string s]] w fun e w' =>
    e = .returned (.int .i64 (vfault t n s)) ∧ Below w.heap.size w w' := by
  cases t
  · by_cases hs : 0 < s.size
    · have hl := toList_pos hs
      go_enter Tryd.func14, Tryd.ntmps14
      go_wp2_with fail
      go_ret
      exact ⟨ret_int (vf_form hs).symm, (Below.refl _ _).alloc (Nat.le_refl _) _⟩
    · obtain rfl := size_nil hs
      by_cases ha : n < -1099511627776
      · have h1 : n < -1099511627776 ∨ 1099511627776 < n := Or.inl ha
        have H := Lib.hid (vf_out h1)
        go_enter Tryd.func14, Tryd.ntmps14
        go_wp2_with (go_at_call 30; refine (in_no _ _ _ _ h1).mono ?_; rintro e w' ⟨rfl, rfl⟩)
        go_ret
        exact ⟨ret_int (H.out).symm, (Below.refl _ _).alloc (Nat.le_refl _) _⟩
      · by_cases hb : 1099511627776 < n
        · have h1 : n < -1099511627776 ∨ 1099511627776 < n := Or.inr hb
          have H := Lib.hid (vf_out h1)
          go_enter Tryd.func14, Tryd.ntmps14
          go_wp2_with (go_at_call 30; refine (in_no _ _ _ _ h1).mono ?_; rintro e w' ⟨rfl, rfl⟩)
          go_ret
          exact ⟨ret_int (H.out).symm, (Below.refl _ _).alloc (Nat.le_refl _) _⟩
        · have H := Lib.hid (vf_in (n := n) (by omega))
          go_enter Tryd.func14, Tryd.ntmps14
          go_wp2_with (go_at_call 30; refine (in_yes _ _ _ _ (by omega) (by omega)).mono ?_; rintro e w' ⟨rfl, rfl⟩)
          go_ret
          exact ⟨ret_int (H.out).symm, (Below.refl _ _).alloc (Nat.le_refl _) _⟩
  · by_cases hn : n = 0
    · subst hn
      by_cases hs : 200 < s.size
      · have H := Lib.hid (vf_long hs)
        go_enter Tryd.func14, Tryd.ntmps14
        go_wp2_with (go_at_call 30; refine (in_yes _ _ _ _ (by omega) (by omega)).mono ?_; rintro e w' ⟨rfl, rfl⟩)
        go_ret
        exact ⟨ret_int (H.out).symm, (Below.refl _ _).alloc (Nat.le_refl _) _⟩
      · have H := Lib.hid (vf_fits hs)
        go_enter Tryd.func14, Tryd.ntmps14
        go_wp2_with (go_at_call 30; refine (in_yes _ _ _ _ (by omega) (by omega)).mono ?_; rintro e w' ⟨rfl, rfl⟩)
        go_ret
        exact ⟨ret_int (H.out).symm, (Below.refl _ _).alloc (Nat.le_refl _) _⟩
    · have H := Lib.hid (vf_text (s := s) hn)
      go_enter Tryd.func14, Tryd.ntmps14
      go_wp2_with fail
      go_ret
      exact ⟨ret_int (H.out).symm, (Below.refl _ _).alloc (Nat.le_refl _) _⟩

theorem check_any (t : Bool) (n : Int) (s : ByteArray) (w : World) : Calls Tryd.prog 22 #[.agg #[.bool t, .int .i64 n, .string s]] w fun e w' =>
    e = .returned (.int .i64 (vfault t n s)) ∧ Below w.heap.size w w' := by
  cases t
  · by_cases hs : 0 < s.size
    · have hl := toList_pos hs
      go_enter Tryd.func22, Tryd.ntmps22
      go_wp2_with fail
      go_ret
      exact ⟨ret_int (vf_form hs).symm, (Below.refl _ _).alloc (Nat.le_refl _) _⟩
    · obtain rfl := size_nil hs
      by_cases ha : n < -1099511627776
      · have h1 : n < -1099511627776 ∨ 1099511627776 < n := Or.inl ha
        have H := Lib.hid (vf_out h1)
        clear h1
        go_enter Tryd.func22, Tryd.ntmps22
        go_wp2_with fail
        go_ret
        exact ⟨ret_int (H.out).symm, (Below.refl _ _).alloc (Nat.le_refl _) _⟩
      · by_cases hb : 1099511627776 < n
        · have h1 : n < -1099511627776 ∨ 1099511627776 < n := Or.inr hb
          have H := Lib.hid (vf_out h1)
          clear h1
          go_enter Tryd.func22, Tryd.ntmps22
          go_wp2_with fail
          go_ret
          exact ⟨ret_int (H.out).symm, (Below.refl _ _).alloc (Nat.le_refl _) _⟩
        · have H := Lib.hid (vf_in (n := n) (by omega))
          go_enter Tryd.func22, Tryd.ntmps22
          go_wp2_with fail
          go_ret
          exact ⟨ret_int (H.out).symm, (Below.refl _ _).alloc (Nat.le_refl _) _⟩
  · by_cases hn : n = 0
    · subst hn
      by_cases hs : 200 < s.size
      · have H := Lib.hid (vf_long hs)
        go_enter Tryd.func22, Tryd.ntmps22
        go_wp2_with fail
        go_ret
        exact ⟨ret_int (H.out).symm, (Below.refl _ _).alloc (Nat.le_refl _) _⟩
      · have H := Lib.hid (vf_fits hs)
        go_enter Tryd.func22, Tryd.ntmps22
        go_wp2_with fail
        go_ret
        exact ⟨ret_int (H.out).symm, (Below.refl _ _).alloc (Nat.le_refl _) _⟩
    · have H := Lib.hid (vf_text (s := s) hn)
      go_enter Tryd.func22, Tryd.ntmps22
      go_wp2_with fail
      go_ret
      exact ⟨ret_int (H.out).symm, (Below.refl _ _).alloc (Nat.le_refl _) _⟩

/-- A callee that leaves all that lay as it was, behind what is known from B on. -/
theorem below_next {B : Nat} {a w1 w2 : World} (h : Below B a w1) (h2 : Below w1.heap.size w1 w2) (hB : B ≤ a.heap.size) : Below B a w2 :=
  h.trans (h2.mono (Nat.le_trans hB h.size))

/-- The box of a struct of three cells, in a later world. -/
theorem box3 {w w1 : World} {a b c : Value} {T : TypeId} (h : Below (w.heap.size + 1) (w.alloc (.cells #[a, b, c] T)) w1) :
    w1.cell? ⟨w.heap.size, 0, none⟩ = some a ∧ w1.cell? ⟨w.heap.size, 1, none⟩ = some b ∧ w1.cell? ⟨w.heap.size, 2, none⟩ = some c :=
  ⟨(h.cell (p := ⟨w.heap.size, 0, none⟩) (by simp)).trans (by simp [go_sem]), (h.cell (p := ⟨w.heap.size, 1, none⟩) (by simp)).trans (by simp [go_sem]),
    (h.cell (p := ⟨w.heap.size, 2, none⟩) (by simp)).trans (by simp [go_sem])⟩

theorem box_below {w w1 : World} {o : Obj} (h : Below (w.heap.size + 1) (w.alloc o) w1) : Below w.heap.size w w1 :=
  ((Below.refl _ _).alloc (Nat.le_refl _) o).trans (h.mono (by omega))

theorem box_start (w : World) (o : Obj) {w1 : World} (h : Below (w.alloc o).heap.size (w.alloc o) w1) : Below (w.heap.size + 1) (w.alloc o) w1 := h.mono (by simp)

theorem box_next {w w1 w2 : World} {o : Obj} (h : Below (w.heap.size + 1) (w.alloc o) w1) (h2 : Below w1.heap.size w1 w2) : Below (w.heap.size + 1) (w.alloc o) w2 :=
  below_next h h2 (by simp)

theorem app_bytes (a b : List UInt8) : ((⟨a.toArray⟩ : ByteArray) ++ ⟨b.toArray⟩) = ⟨(a ++ b).toArray⟩ := by
  apply ByteArray.ext
  rw [ByteArray.data_append]
  simp

theorem one_byte {P : Program} (w : World) (src dst e : TypeId) (x : Int) (hs : P.underlying src = some (.slice e)) (he : P.underlying e = some (.int .u8)) (hd : P.underlying dst = some .string) :
    (convert src dst (.slice (some ⟨w.heap.size, 0, none⟩) 1 1)).run P (w.alloc (.cells #[.int .u8 x] e)) = .ok (.string ⟨#[UInt8.ofNat x.toNat]⟩) (w.alloc (.cells #[.int .u8 x] e)) := by
  rw [run_convert_bytes_string _ src dst e _ _ _ hs he hd, run_bytesToString _ _ _ _ [x] (by simp [loadCells, loadCellsFrom, go_sem])]
  rfl

theorem dec_small (n : Int) (w : World) (h0 : 0 ≤ n) (h1 : n < 10) :
    Calls Tryd.prog 32 #[.int .i64 n] w fun e w' => e = .returned (.string ⟨(Lib.decDigits n.toNat).toArray⟩) ∧ Below w.heap.size w w' := by
  have hcs := fun (wx : World) (x : Int) => one_byte (P := Tryd.prog) wx 48 9 5 x Tryd.underlying48 Tryd.underlying5 Tryd.underlying9
  have HD : Hid (Lib.decDigits n.toNat = [UInt8.ofNat (48 + n.toNat)]) := M.decDigits_small (by omega)
  go_enter Tryd.func32, Tryd.ntmps32
  go_wp2_with fail
  go_ret
  exact ⟨ret_str (by rw [HD.out, show (48 + n).toNat = 48 + n.toNat by omega]), (Below.refl _ _).alloc (Nat.le_refl _) _⟩

theorem dec_pos (k : Nat) : ∀ (n : Int) (w : World), 0 ≤ n → n ≤ 9223372036854775807 → n.toNat ≤ k →
    Calls Tryd.prog 32 #[.int .i64 n] w fun e w' => e = .returned (.string ⟨(Lib.decDigits n.toNat).toArray⟩) ∧ Below w.heap.size w w' := by
  induction k with
  | zero => exact fun n w h0 _ hk => dec_small n w h0 (by omega)
  | succ k ih =>
    intro n w h0 h1 hk
    by_cases hlt : n < 10
    · exact dec_small n w h0 hlt
    · have HD : Hid (Lib.decDigits n.toNat = Lib.decDigits (n / 10).toNat ++ Lib.decDigits (n % 10).toNat) := by
        show Lib.decDigits n.toNat = _
        rw [M.decDigits_big (by omega)]
        congr 2
        · omega
        · omega
      have hla := M.decDigits_len 18 (n / 10).toNat (by omega)
      have hlb := M.decDigits_len 18 (n % 10).toNat (by omega)
      have hsum : (Lib.decDigits (n / 10).toNat).length + (Lib.decDigits (n % 10).toNat).length ≤ 9223372036854775807 := by omega
      clear hla hlb
      go_enter Tryd.func32, Tryd.ntmps32
      go_wp2_with fail
      refine (ih _ _ (by omega) (by omega) (by omega)).mono ?_
      rintro e w1 ⟨rfl, hb1⟩
      go_wp2_with fail
      refine (ih _ _ (by omega) (by omega) (by omega)).mono ?_
      rintro e w2 ⟨rfl, hb2⟩
      go_wp2_with fail
      go_ret
      exact ⟨ret_str (by rw [HD.out]; exact app_bytes _ _), hb1.trans (hb2.mono hb1.size)⟩

theorem itoa_pos {n : Int} (h : 0 ≤ n) : Lib.itoa n = Lib.decDigits n.toNat := by
  unfold Lib.itoa
  rw [if_neg (by omega)]
theorem itoa_neg {n : Int} (h : n < 0) : Lib.itoa n = 45 :: Lib.decDigits n.natAbs := by
  unfold Lib.itoa
  rw [if_pos h]

theorem itoa_len {n : Int} (h0 : -9223372036854775808 ≤ n) (h1 : n ≤ 9223372036854775807) : (Lib.itoa n).length ≤ 20 := by
  by_cases h : n < 0
  · rw [itoa_neg h, List.length_cons]
    have := M.decDigits_len 18 n.natAbs (by omega)
    omega
  · rw [itoa_pos (by omega)]
    have := M.decDigits_len 18 n.toNat (by omega)
    omega

theorem tdiv_facts {n : Int} (h : n < 0) : n.tdiv 10 = -((n.natAbs / 10 : Nat) : Int) ∧ n.tmod 10 = -((n.natAbs % 10 : Nat) : Int) := by
  have e : n = -(n.natAbs : Int) := by omega
  constructor
  · conv => lhs; rw [e]
    rw [Int.neg_tdiv]
    rfl
  · conv => lhs; rw [e]
    rw [Int.neg_tmod]
    rfl

theorem dec_neg (k : Nat) : ∀ (n : Int) (w : World), n < 0 → -9223372036854775808 ≤ n → n.natAbs ≤ k →
    Calls Tryd.prog 32 #[.int .i64 n] w fun e w' => e = .returned (.string ⟨(Lib.itoa n).toArray⟩) ∧ Below w.heap.size w w' := by
  induction k with
  | zero => exact fun n w h0 _ hk => absurd hk (by omega)
  | succ k ih =>
    intro n w h0 h1 hk
    by_cases hlt : -10 < n
    · have HD : Hid (Lib.itoa n = [45] ++ Lib.decDigits (-n).toNat) := by
        show Lib.itoa n = _
        rw [itoa_neg h0, show n.natAbs = (-n).toNat by omega]
        rfl
      have hsum : (Lib.decDigits (-n).toNat).length ≤ 100 := by
        have := M.decDigits_len 18 (-n).toNat (by omega)
        omega
      go_enter Tryd.func32, Tryd.ntmps32
      go_wp2_with fail
      refine (dec_small _ _ (by omega) (by omega)).mono ?_
      rintro e w1 ⟨rfl, hb1⟩
      go_wp2_with fail
      go_ret
      exact ⟨ret_str (by rw [HD.out]; exact app_bytes [45] _), hb1⟩
    · obtain ⟨e1, e2⟩ := tdiv_facts h0
      have hq0 : n.tdiv 10 < 0 := by omega
      have hq1 : -9223372036854775808 ≤ n.tdiv 10 := by omega
      have hq2 : (n.tdiv 10).natAbs ≤ k := by omega
      have hr0 : 0 ≤ -(n.tmod 10) := by omega
      have hr1 : -(n.tmod 10) < 10 := by omega
      have HD : Hid (Lib.itoa n = Lib.itoa (n.tdiv 10) ++ Lib.decDigits (-(n.tmod 10)).toNat) := by
        show Lib.itoa n = _
        rw [itoa_neg h0, itoa_neg hq0, M.decDigits_big (by omega), List.cons_append, show (n.tdiv 10).natAbs = n.natAbs / 10 by omega, show (-(n.tmod 10)).toNat = n.natAbs % 10 by omega]
      have hla := itoa_len hq1 (by omega)
      have hlb := M.decDigits_len 18 (-(n.tmod 10)).toNat (by omega)
      clear e1 e2
      go_enter Tryd.func32, Tryd.ntmps32
      go_wp2_with fail
      refine (ih _ _ hq0 hq1 hq2).mono ?_
      rintro e w1 ⟨rfl, hb1⟩
      go_wp2_with fail
      refine (dec_small _ _ hr0 hr1).mono ?_
      rintro e w2 ⟨rfl, hb2⟩
      go_wp2_with fail
      go_ret
      exact ⟨ret_str (by rw [HD.out]; exact app_bytes _ _), hb1.trans (hb2.mono hb1.size)⟩

theorem dec_any (n : Int) (w : World) (h0 : -9223372036854775808 ≤ n) (h1 : n ≤ 9223372036854775807) :
    Calls Tryd.prog 32 #[.int .i64 n] w fun e w' => e = .returned (.string ⟨(Lib.itoa n).toArray⟩) ∧ Below w.heap.size w w' := by
  by_cases h : n < 0
  · exact dec_neg _ n w h h0 (Nat.le_refl _)
  · rw [itoa_pos (by omega)]
    exact dec_pos _ n w (by omega) h1 (Nat.le_refl _)

/-- A value as text. -/
def strOf : Bool → Int → ByteArray → ByteArray
  | true, _, s => s
  | false, n, _ => ⟨(Lib.itoa n).toArray⟩

theorem textOf_any (t : Bool) (n : Int) (s : ByteArray) (w : World) (h0 : -9223372036854775808 ≤ n) (h1 : n ≤ 9223372036854775807) :
    Calls Tryd.prog 16 #[.agg #[.bool t, .int .i64 n, .string s]] w fun e w' => e = .returned (.string (strOf t n s)) ∧ Below w.heap.size w w' := by
  cases t
  · go_enter Tryd.func16, Tryd.ntmps16
    go_wp2_with fail
    refine (dec_any _ _ h0 h1).mono ?_
    rintro e w1 ⟨rfl, hb1⟩
    go_wp2_with fail
    go_ret
    exact ⟨rfl, box_below (box_start _ _ hb1)⟩
  · go_enter Tryd.func16, Tryd.ntmps16
    go_wp2_with fail
    go_ret
    exact ⟨rfl, (Below.refl _ _).alloc (Nat.le_refl _) _⟩

/-- strconv's table of powers, as the program's text lays it. -/
def Pow10 (w : World) : Prop := Lib.TabIs Tryd.prog w "internal/strconv.uint64pow10" .u64 Lib.pow10Tab

theorem Pow10.mono {w w' : World} (h : Pow10 w) (hb : Below w.heap.size w w') : Pow10 w' :=
  Joins.tab_stays (g := 2) (by kernel_rfl) h hb (Nat.le_refl _)

theorem itoa_any (n : Int) (w : World) (h0 : -9223372036854775808 ≤ n) (h1 : n ≤ 9223372036854775807) (ht : Pow10 w) :
    Calls Tryd.prog 21 #[.int .i64 n] w fun e w' => e = .returned (.string ⟨(Lib.itoa n).toArray⟩) ∧ Below w.heap.size w w' := by
  refine (Tryd.strconv_Itoa n h0 h1 w ht).mono ?_
  rintro e w' ⟨rfl, k, os, rfl⟩
  exact ⟨rfl, below_grown w k os⟩

theorem str_any (t : Bool) (n : Int) (s : ByteArray) (w : World) (h0 : -9223372036854775808 ≤ n) (h1 : n ≤ 9223372036854775807) (ht : Pow10 w) :
    Calls Tryd.prog 15 #[.agg #[.bool t, .int .i64 n, .string s]] w fun e w' => e = .returned (.string (strOf t n s)) ∧ Below w.heap.size w w' := by
  cases t
  · have H := fun o => itoa_any n (w.alloc o) h0 h1 (ht.mono (Joins.below_alloc1 _ o))
    have HC := Lib.hid H
    clear H ht
    go_enter Tryd.func15, Tryd.ntmps15
    go_wp2_with fail
    refine (HC.out _).mono ?_
    rintro e w1 ⟨rfl, hb1⟩
    go_wp2_with fail
    go_ret
    exact ⟨rfl, box_below (box_start _ _ hb1)⟩
  · clear ht
    go_enter Tryd.func15, Tryd.ntmps15
    go_wp2_with fail
    go_ret
    exact ⟨rfl, (Below.refl _ _).alloc (Nat.le_refl _) _⟩
end Go.Proofs.YtfnmepnbbeijhaaDoor

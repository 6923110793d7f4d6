/- THE WALKS of syntax.Name and of the reference's NameMay; conditions: the table words reads as the program's text lays it. -/
import Derived.Test.YtfnmepnbbeijhaaDoorRows
import Derived.Test.YtfnmepnbbeijhaaDoorShelf
import Derived.Test.YtfnmepnbbeijhaaDoorShelfB
import Derived.WalkKit
import Derived.WalkLawsBesides
import Derived.Lib.Strings
import Derived.Lib.Hide
import Derived.Lib.SmallJoins
import Derived.Deep.LoopGhost
import Derived.Lib.ConvBytes
namespace Go.Proofs.YtfnmepnbbeijhaaDoor
open Go Go.RowKit

theorem ret_int {k : IntKind} {a b : Int} (h : a = b) : Ending.returned (.int k a) = .returned (.int k b) := by rw [h]
theorem ret_bool {a b : Bool} (h : a = b) : Ending.returned (.bool a) = .returned (.bool b) := by rw [h]

/-- The words that are no names. -/
def words : List ByteArray := [⟨#[66, 69, 71, 73, 78]⟩, ⟨#[69, 78, 68]⟩, ⟨#[112, 114, 105, 110, 116]⟩, ⟨#[105, 102]⟩, ⟨#[101, 108, 115, 101]⟩, ⟨#[119, 104, 105, 108, 101]⟩, ⟨#[102, 111, 114]⟩, ⟨#[105, 110]⟩, ⟨#[110, 101, 120, 116]⟩, ⟨#[100, 101, 108, 101, 116, 101]⟩, ⟨#[108, 111, 97, 100]⟩, ⟨#[108, 101, 110, 103, 116, 104]⟩, ⟨#[115, 117, 98, 115, 116, 114]⟩, ⟨#[105, 110, 100, 101, 120]⟩, ⟨#[78, 82]⟩, ⟨#[78, 70]⟩]

theorem toList_ne {x s : ByteArray} (h : x ≠ s) : (x.toList == s.toList) = false := by
  rw [Lib.toList_data, Lib.toList_data, beq_eq_false_iff_ne]
  intro e
  apply h
  obtain ⟨⟨a⟩⟩ := x
  obtain ⟨⟨b⟩⟩ := s
  simpa using e

theorem size_nil {s : ByteArray} (h : ¬ 0 < s.size) : s = ⟨#[]⟩ := by
  obtain ⟨⟨l⟩⟩ := s
  have : l.length = 0 := by
    have e : (ByteArray.mk ⟨l⟩).size = l.length := rfl
    omega
  cases l with
  | nil => rfl
  | cons _ _ => simp at this

theorem toList_pos {s : ByteArray} (h : 0 < s.size) : s.toList.isEmpty = false := by
  cases e : s.toList with
  | nil =>
    rw [Lib.toList_data] at e
    rw [Lib.size_eq, e] at h
    simp at h
  | cons _ _ => rfl

theorem in_yes (n a b : Int) (w : World) (h1 : a ≤ n) (h2 : n ≤ b) : Calls Tryd.prog 30 #[.int .i64 n, .int .i64 a, .int .i64 b] w fun e w' =>
    e = .returned (.bool true) ∧ w' = w := by
  go_enter Tryd.func30, Tryd.ntmps30
  go_wp2
  go_ret
  exact ⟨by simp, rfl⟩

theorem in_no (n a b : Int) (w : World) (h : n < a ∨ b < n) : Calls Tryd.prog 30 #[.int .i64 n, .int .i64 a, .int .i64 b] w fun e w' =>
    e = .returned (.bool false) ∧ w' = w := by
  by_cases h1 : a ≤ n
  · have h2 : ¬ n ≤ b := by omega
    clear h
    go_enter Tryd.func30, Tryd.ntmps30
    go_wp2
    go_ret
    exact ⟨by simp, rfl⟩
  · clear h
    go_enter Tryd.func30, Tryd.ntmps30
    go_wp2
    go_ret
    exact ⟨by simp, rfl⟩

theorem lit_strings (w : World) (ws : List ByteArray) (cs : Array Value) (T : TypeId) (h : cs = (ws.map Value.string).toArray) (j : Nat) (hj : j < ws.length) :
    (w.alloc (.cells cs T)).cell? ⟨w.heap.size, j, none⟩ = some (.string (ws.getD j ByteArray.empty)) := by
  subst h
  rw [World.cell?_alloc_mark, List.getElem?_toArray, List.getElem?_map, List.getD_eq_getElem?_getD, List.getElem?_eq_getElem hj]
  rfl

theorem isWord_any (s : ByteArray) (w : World) : Calls Tryd.prog 31 #[.string s] w fun e w' => e = .returned (.bool (Lib.containsS words s)) ∧ Below w.heap.size w w' := by
  go_enter Tryd.func31, Tryd.ntmps31
  go_wp2
  go_loopw [4] (fun i wr => ∃ k : Nat, k ≤ 16 ∧ i = .int .i64 k ∧ Hid (∀ j : Nat, j < 16 → wr.cell? ⟨w.heap.size, j, none⟩ = some (.string (words.getD j ByteArray.empty))) ∧
      Hid (∀ j : Nat, j < k → words.getD j ByteArray.empty ≠ s) ∧ Hid (Below w.heap.size w wr)) (fun i _ => 16 - (intOf i).toNat)
  case atStart =>
    refine ⟨0, by omega, rfl, (show Hid _ from fun j hj => ?_), (show Hid _ from fun j hj => absurd hj (Nat.not_lt_zero _)), (show Hid _ from (Below.refl _ _).alloc (Nat.le_refl _) _)⟩
    exact lit_strings w words _ _ rfl j hj
  case round =>
    obtain ⟨k, hk, rfl, HC, HN, HB⟩ := hrel
    by_cases hlt : k < 16
    · have hcell := HC.out k hlt
      have hki : (k : Int) < 16 := by omega
      have hmem : words.getD k ByteArray.empty ∈ words := by
        have hl : k < words.length := hlt
        rw [List.getD_eq_getElem?_getD, List.getElem?_eq_getElem hl]
        exact List.getElem_mem hl
      have HM := Lib.hid hmem
      clear hmem
      generalize hx : words.getD k ByteArray.empty = x at hcell HM
      have HX := Lib.hid hx
      clear hx
      by_cases he : x = s
      · subst he
        go_wp2_with fail
        go_ret
        exact ⟨ret_bool ((Lib.containsS_iff _ _).2 HM.out).symm, HB.out⟩
      · have ht := toList_ne he
        go_wp2_with fail
        go_roundw
        case rel =>
          refine ⟨k + 1, by omega, by go_num, HC, (show Hid _ from fun j hj => ?_), HB⟩
          by_cases e : j = k
          · subst e
            rw [HX.out]
            exact he
          · exact HN.out j (by omega)
        case measure => simp [intOf]; omega
    · obtain rfl : k = 16 := by omega
      go_wp2_with fail
      go_ret
      refine ⟨ret_bool ?_, HB.out⟩
      cases hc : Lib.containsS words s with
      | false => rfl
      | true =>
        obtain ⟨j, hj, e⟩ := List.getElem_of_mem ((Lib.containsS_iff _ _).1 hc)
        have hl : j < 16 := hj
        exact absurd (by rw [List.getD_eq_getElem?_getD, List.getElem?_eq_getElem hj]; exact e) (HN.out j hl)

/-- A byte that is no small letter. -/
def notLow (c : UInt8) : Bool := decide (c.toNat < 97) || decide (122 < c.toNat)

/-- What P2.1 says of a name. -/
def nameOk (s : ByteArray) : Bool := decide (0 < s.size) && decide (s.size ≤ 8) && !Lib.containsS words s && !s.data.toList.any notLow

theorem byte_at {s : ByteArray} {k : Nat} (hk : k < s.size) (hl : k < s.data.toList.length) : s.data.toList[k] = s[k]'hk := rfl
theorem byte_lt (c : UInt8) : (c.toNat : Int) < 256 := by have := c.toNat_lt; omega
theorem notLow_iff (c : UInt8) : notLow c = true ↔ (c.toNat : Int) < 97 ∨ 122 < (c.toNat : Int) := by
  simp only [notLow, Bool.or_eq_true, decide_eq_true_eq]
  omega

theorem nameOk_low {s : ByteArray} {k : Nat} (hl : k < s.data.toList.length) (h : notLow s.data.toList[k] = true) : nameOk s = false := by
  have : s.data.toList.any notLow = true := List.any_eq_true.2 ⟨_, List.getElem_mem _, h⟩
  simp [nameOk, this]

theorem nameMay_any (s : ByteArray) (hs : s.size ≤ maxLen) (w : World) : Calls Tryd.prog 13 #[.string s] w fun e w' => e = .returned (.bool (nameOk s)) ∧ Below w.heap.size w w' := by
  unfold maxLen at hs
  go_enter Tryd.func13, Tryd.ntmps13
  go_wp2_with fail
  go_loop [3] (fun i => ∃ k : Nat, k ≤ s.size ∧ i = .int .i64 k ∧ Hid (∀ j : Nat, ∀ h : j < s.data.toList.length, j < k → notLow s.data.toList[j] = false)) (fun i => s.size - (intOf i).toNat)
  case atStart => exact ⟨0, Nat.zero_le _, rfl, (show Hid _ from fun j _ hj => absurd hj (Nat.not_lt_zero _))⟩
  case round =>
    obtain ⟨k, hk, rfl, HN⟩ := hrel
    by_cases hlt : k < s.size
    · have hl : k < s.data.toList.length := by rw [← Lib.size_eq]; exact hlt
      have hub := byte_lt s[k]
      by_cases hlow : notLow s.data.toList[k] = true
      · have HE := Lib.hid (nameOk_low hl hlow)
        have hb := (notLow_iff _).1 hlow
        rw [byte_at hlt hl] at hb
        clear hlow
        go_wp2_with fail
        refine (in_no _ _ _ _ hb).mono ?_
        rintro e w' ⟨rfl, rfl⟩
        go_wp2_with fail
        go_ret
        exact ⟨ret_bool HE.out.symm, Below.refl _ _⟩
      · have hb : ¬ ((s[k].toNat : Int) < 97 ∨ 122 < (s[k].toNat : Int)) := fun h => hlow ((notLow_iff _).2 h)
        have HL := Lib.hid hlow
        clear hlow
        go_wp2_with fail
        refine (in_yes _ _ _ _ (by omega) (by omega)).mono ?_
        rintro e w' ⟨rfl, rfl⟩
        go_wp2_with fail
        go_round
        case rel =>
          refine ⟨k + 1, by omega, by go_num, (show Hid _ from fun j hj hjk => ?_)⟩
          by_cases e : j = k
          · subst e
            simpa using HL.out
          · exact HN.out j hj (by omega)
        case measure => simp [intOf]; omega
    · by_cases h1 : 0 < s.size ∧ s.size ≤ 8
      · go_wp2_with fail
        refine (in_yes _ _ _ _ (by omega) (by omega)).mono ?_
        rintro e w' ⟨rfl, rfl⟩
        go_wp2_with fail
        refine (isWord_any _ _).mono ?_
        rintro e w1 ⟨rfl, hb⟩
        go_wp2_with fail
        go_ret
        refine ⟨ret_bool ?_, hb⟩
        have hn : s.data.toList.any notLow = false := by
          rw [List.any_eq_false]
          intro x hx
          obtain ⟨j, hj, rfl⟩ := List.getElem_of_mem hx
          rw [HN.out j hj (by rw [← Lib.size_eq] at hj; omega)]
          simp
        simp [nameOk, hn, h1.1, h1.2]
      · go_wp2_with fail
        refine (in_no _ _ _ _ (by omega)).mono ?_
        rintro e w' ⟨rfl, rfl⟩
        go_wp2_with fail
        go_ret
        refine ⟨ret_bool ?_, Below.refl _ _⟩
        unfold nameOk
        by_cases h2 : 0 < s.size
        · have h3 : ¬ s.size ≤ 8 := fun h => h1 ⟨h2, h⟩
          simp [h3]
        · simp [h2]

/-- The closure of Name: a byte that is no small letter. -/
theorem low_pred (w : World) : PredAt Tryd.prog 29 #[] (fun c : UInt8 => Value.int .u8 (c.toNat : Int)) notLow w := fun W c _ => by
  show Calls Tryd.prog 29 #[.int .u8 (c.toNat : Int)] W _
  by_cases h1 : (c.toNat : Int) < 97
  · go_enter Tryd.func29, Tryd.ntmps29
    go_wp2
    go_ret
    exact ⟨ret_bool (by rw [(notLow_iff c).2 (Or.inl h1)]), 0, rfl⟩
  · by_cases h2 : 122 < (c.toNat : Int)
    · go_enter Tryd.func29, Tryd.ntmps29
      go_wp2
      go_ret
      exact ⟨ret_bool (by rw [(notLow_iff c).2 (Or.inr h2)]), 0, rfl⟩
    · go_enter Tryd.func29, Tryd.ntmps29
      go_wp2
      go_ret
      refine ⟨ret_bool ?_, 0, rfl⟩
      cases hc : notLow c with
      | false => rfl
      | true => exact absurd ((notLow_iff c).1 hc) (by omega)

theorem bytes_below (w : World) (e : TypeId) (s : ByteArray) : Below w.heap.size w (Lib.bytesWorld w e s) :=
  ⟨rfl, rfl, rfl, by rw [Lib.bytesWorld_size]; omega, fun k hk => Lib.bytesWorld_at_old w e s k hk⟩

theorem name_any (s : ByteArray) (hs : s.size ≤ maxLen) (w : World) (hw : ∀ j : Nat, j < 16 → w.cell? ⟨0, j, none⟩ = some (.string (words.getD j ByteArray.empty))) :
    Calls Tryd.prog 12 #[.string s] w fun e w' => e = .returned (.bool (nameOk s)) ∧ Below w.heap.size w w' := by
  unfold maxLen at hs
  have HW := Lib.hid hw
  clear hw
  by_cases h0 : 0 < s.size
  · have hl := toList_pos h0
    by_cases h8 : 8 < s.size
    · have HE : Hid (nameOk s = false) := by
        show nameOk s = false
        have : ¬ s.size ≤ 8 := by omega
        simp [nameOk, this]
      go_enter Tryd.func12, Tryd.ntmps12
      go_wp2_with fail
      go_ret
      exact ⟨ret_bool HE.out.symm, Below.refl _ _⟩
    · have C := Tryd.slices_Contains_string 0 0 16 16 words s w (Nat.le_refl _) (by omega) (fun j hj => by rw [Nat.zero_add]; exact HW.out j hj)
      rw [show List.take 16 words = words from rfl] at C
      have HC := Lib.hid C
      clear C
      cases hc : Lib.containsS words s with
      | true =>
        rw [hc] at HC
        have HE : Hid (nameOk s = false) := by
          show nameOk s = false
          simp [nameOk, hc]
        clear hc
        go_enter Tryd.func12, Tryd.ntmps12
        go_wp2_with fail
        refine HC.out.mono ?_
        rintro e w' ⟨rfl, rfl⟩
        go_wp2_with fail
        go_ret
        exact ⟨ret_bool HE.out.symm, Below.refl _ _⟩
      | false =>
        rw [hc] at HC
        have HE : Hid (nameOk s = !s.data.toList.any notLow) := by
          show nameOk s = !s.data.toList.any notLow
          have : s.size ≤ 8 := by omega
          simp [nameOk, hc, h0, this]
        clear hc
        have hcv := fun wx => Lib.run_convert_string_bytes (P := Tryd.prog) wx 9 48 5 s Tryd.underlying9 Tryd.underlying48 Tryd.underlying5
        have eg : ∀ args w, (callFunc 29 args).run Tryd.prog w = .ok (.enter 29 args) w := enters_of Tryd.func29 (by kernel_rfl) rfl
        have C2 := AnyE.slices_ContainsFunc Tryd.laysBytes8 (fun c : UInt8 => Value.int .u8 (c.toNat : Int)) notLow 29 #[] eg w.heap.size 0 s.size (grownCap w s.size 0 5) s.data.toList (Lib.bytesWorld w 5 s)
          (low_pred _) (by rw [Lib.size_eq]; exact Nat.le_refl _) hs (fun j hj => by
            rw [Nat.zero_add, Lib.bytesWorld_cell w _ s j (by rw [Lib.size_eq]; exact hj)]
            simp [List.getD_eq_getElem?_getD]
            rfl)
        rw [show s.data.toList.take s.size = s.data.toList from List.take_of_length_le (by rw [Lib.size_eq]; exact Nat.le_refl _)] at C2
        change Calls Tryd.prog 28 _ _ _ at C2
        have HC2 := Lib.hid C2
        clear C2 eg
        generalize s.data.toList.any notLow = b at HE HC2
        go_enter Tryd.func12, Tryd.ntmps12
        go_wp2_with fail
        refine HC.out.mono ?_
        rintro e w' ⟨rfl, rfl⟩
        go_wp2_with fail
        refine HC2.out.mono ?_
        rintro e w2 ⟨rfl, q, rfl⟩
        go_wp2_with fail
        go_ret
        exact ⟨ret_bool HE.out.symm, (bytes_below _ _ _).trans (Joins.below_draws _ _ _)⟩
  · obtain rfl := size_nil h0
    have HE : Hid (nameOk ⟨#[]⟩ = false) := by
      show nameOk ⟨#[]⟩ = false
      rfl
    go_enter Tryd.func12, Tryd.ntmps12
    go_wp2_with fail
    go_ret
    exact ⟨ret_bool HE.out.symm, Below.refl _ _⟩

theorem syntaxNames_any (s : ByteArray) (hs : s.size ≤ maxLen) (w : World) (hw : ∀ j : Nat, j < 16 → w.cell? ⟨0, j, none⟩ = some (.string (words.getD j ByteArray.empty))) :
    Calls Tryd.prog 3 #[.string s] w fun e w' => e = .returned (.bool true) ∧ Below w.heap.size w w' := by
  have HW := Lib.hid hw
  clear hw
  go_enter Tryd.func3, Tryd.ntmps3
  go_wp2_with fail
  refine (name_any s hs _ HW.out).mono ?_
  rintro e w1 ⟨rfl, hb1⟩
  go_wp2_with fail
  refine (nameMay_any s hs _).mono ?_
  rintro e w2 ⟨rfl, hb2⟩
  go_wp2_with fail
  go_ret
  exact ⟨ret_bool (by simp), hb1.trans (hb2.mono hb1.size)⟩

end Go.Proofs.YtfnmepnbbeijhaaDoor

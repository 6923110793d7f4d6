/- THE WALKS of value.Num and of the reference's NumberOf; conditions: none. -/
import Derived.Test.YtfnmepnbbeijhaaDoorDVals
namespace Go.Proofs.YtfnmepnbbeijhaaDoor
open Go Go.RowKit

/-- A value as number; none: it is too great. -/
def numOf : Bool → Int → ByteArray → Option Int
  | false, n, _ => some n
  | true, _, s => M.numL s.data.toList

def numE : Option Int → Int × Int
  | some x => (x, 0)
  | none => (0, 2)

theorem prefix_one (l : List UInt8) : Lib.trimPrefix l [45] = if Lib.hasPrefix l [45] then l.drop 1 else l := rfl

theorem trimLeft_le (l : List UInt8) (c : UInt8) : (Lib.trimLeftB l c).length ≤ l.length := (List.dropWhile_sublist _).length_le

/-- What the loop over digits makes of a text, the sign ahead. -/
theorem num_any (t : Bool) (n0 : Int) (s : ByteArray) (hs : s.size ≤ maxLen) (w : World) :
    Calls Tryd.prog 17 #[.agg #[.bool t, .int .i64 n0, .string s]] w fun e w' =>
      e = .returned (.tuple #[.int .i64 (numE (numOf t n0 s)).1, .int .i64 (numE (numOf t n0 s)).2]) ∧ Below w.heap.size w w' := by
  unfold maxLen at hs
  cases t
  · go_enter Tryd.func17, Tryd.ntmps17
    go_wp2_with fail
    go_ret2
    exact ⟨rfl, (Below.refl _ _).alloc (Nat.le_refl _) _⟩
  · have hle := trimLeft_le s.data.toList 32
    rw [← Lib.size_eq] at hle
    have C0 := fun o => Tryd.strings_TrimLeft_one s 32 (by decide) (w.alloc o)
    have HE : Hid (numOf true n0 s = if Lib.hasPrefix (Lib.trimLeftB s.data.toList 32) [45] then (M.digs 0 ((Lib.trimLeftB s.data.toList 32).drop 1)).map fun n => -(n : Int) else (M.digs 0 (Lib.trimLeftB s.data.toList 32)).map fun n => (n : Int)) := rfl
    obtain ⟨b0, hb0⟩ : ∃ b0 : ByteArray, (⟨(Lib.trimLeftB s.data.toList 32).toArray⟩ : ByteArray) = b0 := ⟨_, rfl⟩
    have hl0 : Lib.trimLeftB s.data.toList 32 = b0.data.toList := by rw [← hb0]
    rw [hb0] at C0
    rw [hl0] at HE hle
    generalize numOf true n0 s = r at HE ⊢
    clear hb0 hl0
    have C1 := fun wx => Tryd.strings_CutPrefix b0 ⟨#[45]⟩ wx
    have HC0 := Lib.hid C0
    clear C0
    rw [show ((⟨#[45]⟩ : ByteArray)).data.toList = [45] from rfl, prefix_one] at C1
    obtain ⟨q, hq⟩ : ∃ q : Bool, Lib.hasPrefix b0.data.toList [45] = q := ⟨_, rfl⟩
    rw [hq] at C1 HE
    have HQ := Lib.hid hq
    clear hq
    cases q with
    | true =>
      obtain ⟨b1, hb1⟩ : ∃ b1 : ByteArray, (⟨(b0.data.toList.drop 1).toArray⟩ : ByteArray) = b1 := ⟨_, rfl⟩
      have hl1 : b0.data.toList.drop 1 = b1.data.toList := by rw [← hb1]
      have hle1 : b1.size ≤ b0.size := by
        rw [Lib.size_eq, ← hl1, List.length_drop, ← Lib.size_eq]
        omega
      rw [← Lib.size_eq] at hle
      rw [if_pos rfl, hb1] at C1
      rw [if_pos rfl, hl1] at HE
      have HC1 := Lib.hid C1
      clear C1 hl1 hb1
      go_enter Tryd.func17, Tryd.ntmps17
      go_wp2_with fail
      refine (HC0.out _).mono ?_
      rintro e w' ⟨rfl, rfl⟩
      go_wp2_with fail
      refine (HC1.out _).mono ?_
      rintro e w' ⟨rfl, rfl⟩
      go_wp2_with fail
      go_loopw [8, 27] (fun n i wx => ∃ k acc : Nat, k ≤ b1.size ∧ acc ≤ 1099511627776 ∧ i = .int .i64 k ∧ n = .int .i64 acc ∧ Hid (M.digs 0 b1.data.toList = M.digs acc (b1.data.toList.drop k)) ∧ wx = w.alloc (.cells #[.bool true, .int .i64 n0, .string s] 24)) (fun _ i _ => b1.size - (intOf i).toNat)
      case atStart => exact ⟨0, 0, Nat.zero_le _, Nat.zero_le _, rfl, rfl, rfl, rfl⟩
      case round =>
        obtain ⟨k, acc, hk, hacc, rfl, rfl, HI, rfl⟩ := hrel
        by_cases hlt : k < b1.size
        · have hl : k < b1.data.toList.length := by rw [← Lib.size_eq]; exact hlt
          have hub := byte_lt b1[k]
          have hbe := byte_at hlt hl
          by_cases hlow : (b1[k].toNat : Int) < 48
          · have HX := Lib.hid (HI.out.trans (M.digs_stop hl (by rw [hbe]; omega)))
            clear hbe
            go_wp2_with fail
            go_ret2
            exact ⟨by rw [HE.out, HX.out]; rfl, (Below.refl _ _).alloc (Nat.le_refl _) _⟩
          · by_cases hhigh : 57 < (b1[k].toNat : Int)
            · have HX := Lib.hid (HI.out.trans (M.digs_stop hl (by rw [hbe]; omega)))
              clear hbe
              go_wp2_with fail
              go_ret2
              exact ⟨by rw [HE.out, HX.out]; rfl, (Below.refl _ _).alloc (Nat.le_refl _) _⟩
            · by_cases hov : 1099511627776 < 10 * (acc : Int) + ((b1[k].toNat : Int) - 48)
              · have HX := Lib.hid (HI.out.trans (M.digs_over hl (by rw [hbe]; omega) (by rw [hbe]; omega)))
                clear hbe
                go_wp2_with fail
                go_ret2
                exact ⟨by rw [HE.out, HX.out]; rfl, (Below.refl _ _).alloc (Nat.le_refl _) _⟩
              · have HX := Lib.hid (HI.out.trans (M.digs_on hl (by rw [hbe]; omega) (by rw [hbe]; omega)))
                rw [hbe] at HX
                clear hbe
                go_wp2_with fail
                go_roundw
                case rel =>
                  refine ⟨k + 1, 10 * acc + (b1[k].toNat - 48), by omega, by omega, by go_num, ?_, HX, trivial⟩
                  exact congrArg (Value.int .i64) (by omega)
                case measure => simp [intOf]; omega
        · have HX := Lib.hid (HI.out.trans (M.digs_end (by rw [← Lib.size_eq]; exact hlt)))
          go_wp2_with fail
          go_ret2
          exact ⟨by rw [HE.out, HX.out]; rfl, (Below.refl _ _).alloc (Nat.le_refl _) _⟩
    | false =>
      rw [← Lib.size_eq] at hle
      rw [if_neg (by simp)] at C1
      rw [if_neg (by simp)] at HE
      rw [show (⟨b0.data.toList.toArray⟩ : ByteArray) = b0 from Lib.mk_data b0] at C1
      have HC1 := Lib.hid C1
      clear C1
      go_enter Tryd.func17, Tryd.ntmps17
      go_wp2_with fail
      refine (HC0.out _).mono ?_
      rintro e w' ⟨rfl, rfl⟩
      go_wp2_with fail
      refine (HC1.out _).mono ?_
      rintro e w' ⟨rfl, rfl⟩
      go_wp2_with fail
      go_loopw [8, 27] (fun n i wx => ∃ k acc : Nat, k ≤ b0.size ∧ acc ≤ 1099511627776 ∧ i = .int .i64 k ∧ n = .int .i64 acc ∧ Hid (M.digs 0 b0.data.toList = M.digs acc (b0.data.toList.drop k)) ∧ wx = w.alloc (.cells #[.bool true, .int .i64 n0, .string s] 24)) (fun _ i _ => b0.size - (intOf i).toNat)
      case atStart => exact ⟨0, 0, Nat.zero_le _, Nat.zero_le _, rfl, rfl, rfl, rfl⟩
      case round =>
        obtain ⟨k, acc, hk, hacc, rfl, rfl, HI, rfl⟩ := hrel
        by_cases hlt : k < b0.size
        · have hl : k < b0.data.toList.length := by rw [← Lib.size_eq]; exact hlt
          have hub := byte_lt b0[k]
          have hbe := byte_at hlt hl
          by_cases hlow : (b0[k].toNat : Int) < 48
          · have HX := Lib.hid (HI.out.trans (M.digs_stop hl (by rw [hbe]; omega)))
            clear hbe
            go_wp2_with fail
            go_ret2
            exact ⟨by rw [HE.out, HX.out]; rfl, (Below.refl _ _).alloc (Nat.le_refl _) _⟩
          · by_cases hhigh : 57 < (b0[k].toNat : Int)
            · have HX := Lib.hid (HI.out.trans (M.digs_stop hl (by rw [hbe]; omega)))
              clear hbe
              go_wp2_with fail
              go_ret2
              exact ⟨by rw [HE.out, HX.out]; rfl, (Below.refl _ _).alloc (Nat.le_refl _) _⟩
            · by_cases hov : 1099511627776 < 10 * (acc : Int) + ((b0[k].toNat : Int) - 48)
              · have HX := Lib.hid (HI.out.trans (M.digs_over hl (by rw [hbe]; omega) (by rw [hbe]; omega)))
                clear hbe
                go_wp2_with fail
                go_ret2
                exact ⟨by rw [HE.out, HX.out]; rfl, (Below.refl _ _).alloc (Nat.le_refl _) _⟩
              · have HX := Lib.hid (HI.out.trans (M.digs_on hl (by rw [hbe]; omega) (by rw [hbe]; omega)))
                rw [hbe] at HX
                clear hbe
                go_wp2_with fail
                go_roundw
                case rel =>
                  refine ⟨k + 1, 10 * acc + (b0[k].toNat - 48), by omega, by omega, by go_num, ?_, HX, trivial⟩
                  exact congrArg (Value.int .i64) (by omega)
                case measure => simp [intOf]; omega
        · have HX := Lib.hid (HI.out.trans (M.digs_end (by rw [← Lib.size_eq]; exact hlt)))
          go_wp2_with fail
          go_ret2
          exact ⟨by rw [HE.out, HX.out]; rfl, (Below.refl _ _).alloc (Nat.le_refl _) _⟩

theorem numL_skip {l : List UInt8} {k : Nat} (hk : k ≤ l.length) (h1 : ∀ (j : Nat) b, j < k → l[j]? = some b → b = 32) (h2 : ∀ b, l[k]? = some b → b ≠ 32) :
    M.numL l = if Lib.hasPrefix (l.drop k) [45] then (M.digs 0 (l.drop (k + 1))).map fun n => -(n : Int) else (M.digs 0 (l.drop k)).map fun n => (n : Int) := by
  unfold M.numL
  rw [Lib.trimLeftB_drop l 32 k hk h1 h2, List.drop_drop]

theorem prefix_yes {l : List UInt8} {k : Nat} (hk : k < l.length) (h : l[k] = 45) : Lib.hasPrefix (l.drop k) [45] = true := by
  rw [List.drop_eq_getElem_cons hk, h]
  simp [Lib.hasPrefix]
theorem prefix_no {l : List UInt8} {k : Nat} (h : ∀ hk : k < l.length, l[k] ≠ 45) : Lib.hasPrefix (l.drop k) [45] = false := by
  by_cases hk : k < l.length
  · rw [List.drop_eq_getElem_cons hk]
    have := h hk
    simp [Lib.hasPrefix, List.isPrefixOf, Ne.symm this]
  · rw [List.drop_eq_nil_iff.2 (by omega)]
    rfl

theorem byte_is {s : ByteArray} {k : Nat} (hk : k < s.size) (c : UInt8) (h : s[k] = c) : ((s[k].toNat : Int) == (c.toNat : Int)) = true := by rw [h]; simp
theorem byte_isnt {s : ByteArray} {k : Nat} (hk : k < s.size) (c : UInt8) (h : ¬ s[k] = c) : ((s[k].toNat : Int) == (c.toNat : Int)) = false := by
  rw [beq_eq_false_iff_ne]
  intro e
  apply h
  apply UInt8.toNat_inj.1
  omega

set_option maxRecDepth 100000 in
set_option maxHeartbeats 1000000 in
theorem numberOf_any (t : Bool) (n0 : Int) (s : ByteArray) (hs : s.size ≤ maxLen) (w : World) :
    Calls Tryd.prog 18 #[.agg #[.bool t, .int .i64 n0, .string s]] w fun e w' =>
      e = .returned (.tuple #[.int .i64 (numE (numOf t n0 s)).1, .int .i64 (numE (numOf t n0 s)).2]) ∧ Below w.heap.size w w' := by
  unfold maxLen at hs
  cases t
  · go_enter Tryd.func18, Tryd.ntmps18
    go_wp2_with fail
    go_ret2
    exact ⟨rfl, (Below.refl _ _).alloc (Nat.le_refl _) _⟩
  · have HR : Hid (numOf true n0 s = M.numL s.data.toList) := rfl
    generalize numOf true n0 s = r at HR ⊢
    go_enter Tryd.func18, Tryd.ntmps18
    go_wp2_with fail
    go_loopw [4] (fun i wx => ∃ k : Nat, k ≤ s.size ∧ i = .int .i64 k ∧ Hid (∀ (j : Nat) b, j < k → s.data.toList[j]? = some b → b = 32) ∧ wx = (w.alloc (.cells #[.bool true, .int .i64 n0, .string s] 24))) (fun i _ => s.size - (intOf i).toNat)
    case atStart => exact ⟨0, Nat.zero_le _, rfl, (show Hid _ from fun j _ hj => absurd hj (Nat.not_lt_zero _)), rfl⟩
    case round =>
      obtain ⟨k, hk, rfl, HB, rfl⟩ := hrel
      by_cases hlt : k < s.size
      · have hl : k < s.data.toList.length := by rw [← Lib.size_eq]; exact hlt
        have hbe := byte_at hlt hl
        by_cases hsp : s[k] = 32
        · have hq : ((s[k].toNat : Int) == 32) = true := byte_is hlt 32 hsp
          have HB2 : Hid (∀ (j : Nat) b, j < k + 1 → s.data.toList[j]? = some b → b = 32) := by
            show ∀ (j : Nat) b, j < k + 1 → s.data.toList[j]? = some b → b = 32
            intro j b hj hb
            by_cases e : j = k
            · subst e
              rw [List.getElem?_eq_getElem hl, hbe, hsp] at hb
              exact (Option.some.inj hb).symm
            · exact HB.out j b (by omega) hb
          clear hbe hsp
          go_wp2_with fail
          go_roundw
          case rel => exact ⟨k + 1, by omega, by go_num, HB2, trivial⟩
          case measure => simp [intOf]; omega
        · have hq : ((s[k].toNat : Int) == 32) = false := byte_isnt hlt 32 hsp
          have HS := Lib.hid (numL_skip (l := s.data.toList) (k := k) (by omega) HB.out (fun b hb => by
            rw [List.getElem?_eq_getElem hl, hbe] at hb
            rw [← Option.some.inj hb]
            exact hsp))
          clear hsp
          by_cases hmi : s[k] = 45
          · have hq2 : ((s[k].toNat : Int) == 45) = true := byte_is hlt 45 hmi
            have HE := Lib.hid (HR.out.trans (HS.out.trans (if_pos (prefix_yes hl (hbe.trans hmi)))))
            clear hbe hmi
            go_wp2_with fail
            go_loopw [4, 6] (fun i n wx => ∃ m acc : Nat, m ≤ s.size ∧ acc ≤ 1099511627776 ∧ i = .int .i64 m ∧ n = .int .i64 acc ∧ Hid (M.digs 0 (s.data.toList.drop (k + 1)) = M.digs acc (s.data.toList.drop m)) ∧ wx = (w.alloc (.cells #[.bool true, .int .i64 n0, .string s] 24))) (fun i _ _ => s.size - (intOf i).toNat)
            case atStart => exact ⟨k + 1, 0, by omega, by omega, by go_num, rfl, rfl, rfl⟩
            case round =>
              obtain ⟨m, acc, hm, hacc, rfl, rfl, HI, rfl⟩ := hrel
              by_cases hmt : m < s.size
              · have hml : m < s.data.toList.length := by rw [← Lib.size_eq]; exact hmt
                have hmb := byte_lt s[m]
                have hme := byte_at hmt hml
                by_cases hdig : 48 ≤ (s[m].toNat : Int) ∧ (s[m].toNat : Int) ≤ 57
                · obtain ⟨hd1, hd2⟩ := hdig
                  by_cases hov : 1099511627776 < 10 * (acc : Int) + ((s[m].toNat : Int) - 48)
                  · have HX := Lib.hid (HI.out.trans (M.digs_over hml (by rw [hme]; omega) (by rw [hme]; omega)))
                    clear hme
                    go_wp2_with fail
                    refine (in_yes _ _ _ _ hd1 hd2).mono ?_
                    rintro e w' ⟨rfl, rfl⟩
                    go_wp2_with fail
                    go_ret2
                    exact ⟨by rw [HE.out, HX.out]; rfl, (Below.refl _ _).alloc (Nat.le_refl _) _⟩
                  · have HX := Lib.hid (HI.out.trans (M.digs_on hml (by rw [hme]; omega) (by rw [hme]; omega)))
                    rw [hme] at HX
                    clear hme
                    go_wp2_with fail
                    refine (in_yes _ _ _ _ hd1 hd2).mono ?_
                    rintro e w' ⟨rfl, rfl⟩
                    go_wp2_with fail
                    go_roundw
                    case rel =>
                      refine ⟨m + 1, 10 * acc + (s[m].toNat - 48), by omega, by omega, by go_num, ?_, HX, trivial⟩
                      exact congrArg (Value.int .i64) (by omega)
                    case measure => simp [intOf]; omega
                · have HX := Lib.hid (HI.out.trans (M.digs_stop hml (by rw [hme]; omega)))
                  clear hme
                  go_wp2_with fail
                  refine (in_no _ _ _ _ (by omega)).mono ?_
                  rintro e w' ⟨rfl, rfl⟩
                  go_wp2_with fail
                  go_ret2
                  exact ⟨by rw [HE.out, HX.out]; rfl, (Below.refl _ _).alloc (Nat.le_refl _) _⟩
              · have HX := Lib.hid (HI.out.trans (M.digs_end (by rw [← Lib.size_eq]; exact hmt)))
                go_wp2_with fail
                go_ret2
                exact ⟨by rw [HE.out, HX.out]; rfl, (Below.refl _ _).alloc (Nat.le_refl _) _⟩
          · have hq2 : ((s[k].toNat : Int) == 45) = false := byte_isnt hlt 45 hmi
            have HE := Lib.hid (HR.out.trans (HS.out.trans (if_neg (by rw [prefix_no (fun _ => by rw [hbe]; exact hmi)]; simp))))
            clear hbe hmi
            go_wp2_with fail
            go_loopw [4, 6] (fun i n wx => ∃ m acc : Nat, m ≤ s.size ∧ acc ≤ 1099511627776 ∧ i = .int .i64 m ∧ n = .int .i64 acc ∧ Hid (M.digs 0 (s.data.toList.drop k) = M.digs acc (s.data.toList.drop m)) ∧ wx = (w.alloc (.cells #[.bool true, .int .i64 n0, .string s] 24))) (fun i _ _ => s.size - (intOf i).toNat)
            case atStart => exact ⟨k, 0, by omega, by omega, rfl, rfl, rfl, rfl⟩
            case round =>
              obtain ⟨m, acc, hm, hacc, rfl, rfl, HI, rfl⟩ := hrel
              by_cases hmt : m < s.size
              · have hml : m < s.data.toList.length := by rw [← Lib.size_eq]; exact hmt
                have hmb := byte_lt s[m]
                have hme := byte_at hmt hml
                by_cases hdig : 48 ≤ (s[m].toNat : Int) ∧ (s[m].toNat : Int) ≤ 57
                · obtain ⟨hd1, hd2⟩ := hdig
                  by_cases hov : 1099511627776 < 10 * (acc : Int) + ((s[m].toNat : Int) - 48)
                  · have HX := Lib.hid (HI.out.trans (M.digs_over hml (by rw [hme]; omega) (by rw [hme]; omega)))
                    clear hme
                    go_wp2_with fail
                    refine (in_yes _ _ _ _ hd1 hd2).mono ?_
                    rintro e w' ⟨rfl, rfl⟩
                    go_wp2_with fail
                    go_ret2
                    exact ⟨by rw [HE.out, HX.out]; rfl, (Below.refl _ _).alloc (Nat.le_refl _) _⟩
                  · have HX := Lib.hid (HI.out.trans (M.digs_on hml (by rw [hme]; omega) (by rw [hme]; omega)))
                    rw [hme] at HX
                    clear hme
                    go_wp2_with fail
                    refine (in_yes _ _ _ _ hd1 hd2).mono ?_
                    rintro e w' ⟨rfl, rfl⟩
                    go_wp2_with fail
                    go_roundw
                    case rel =>
                      refine ⟨m + 1, 10 * acc + (s[m].toNat - 48), by omega, by omega, by go_num, ?_, HX, trivial⟩
                      exact congrArg (Value.int .i64) (by omega)
                    case measure => simp [intOf]; omega
                · have HX := Lib.hid (HI.out.trans (M.digs_stop hml (by rw [hme]; omega)))
                  clear hme
                  go_wp2_with fail
                  refine (in_no _ _ _ _ (by omega)).mono ?_
                  rintro e w' ⟨rfl, rfl⟩
                  go_wp2_with fail
                  go_ret2
                  exact ⟨by rw [HE.out, HX.out]; rfl, (Below.refl _ _).alloc (Nat.le_refl _) _⟩
              · have HX := Lib.hid (HI.out.trans (M.digs_end (by rw [← Lib.size_eq]; exact hmt)))
                go_wp2_with fail
                go_ret2
                exact ⟨by rw [HE.out, HX.out]; rfl, (Below.refl _ _).alloc (Nat.le_refl _) _⟩
      · have hnl : ¬ k < s.data.toList.length := by rw [← Lib.size_eq]; exact hlt
        have HS := Lib.hid (numL_skip (l := s.data.toList) (k := k) (by rw [← Lib.size_eq]; exact hk) HB.out (fun b hb => by
          rw [List.getElem?_eq_none (by omega)] at hb
          cases hb))
        have HE := Lib.hid (HR.out.trans (HS.out.trans (if_neg (by rw [prefix_no (fun hh => absurd hh hnl)]; simp))))
        clear hnl
        go_wp2_with fail
        go_loopw [4, 6] (fun i n wx => ∃ m acc : Nat, m ≤ s.size ∧ acc ≤ 1099511627776 ∧ i = .int .i64 m ∧ n = .int .i64 acc ∧ Hid (M.digs 0 (s.data.toList.drop k) = M.digs acc (s.data.toList.drop m)) ∧ wx = (w.alloc (.cells #[.bool true, .int .i64 n0, .string s] 24))) (fun i _ _ => s.size - (intOf i).toNat)
        case atStart => exact ⟨k, 0, by omega, by omega, rfl, rfl, rfl, rfl⟩
        case round =>
          obtain ⟨m, acc, hm, hacc, rfl, rfl, HI, rfl⟩ := hrel
          by_cases hmt : m < s.size
          · have hml : m < s.data.toList.length := by rw [← Lib.size_eq]; exact hmt
            have hmb := byte_lt s[m]
            have hme := byte_at hmt hml
            by_cases hdig : 48 ≤ (s[m].toNat : Int) ∧ (s[m].toNat : Int) ≤ 57
            · obtain ⟨hd1, hd2⟩ := hdig
              by_cases hov : 1099511627776 < 10 * (acc : Int) + ((s[m].toNat : Int) - 48)
              · have HX := Lib.hid (HI.out.trans (M.digs_over hml (by rw [hme]; omega) (by rw [hme]; omega)))
                clear hme
                go_wp2_with fail
                refine (in_yes _ _ _ _ hd1 hd2).mono ?_
                rintro e w' ⟨rfl, rfl⟩
                go_wp2_with fail
                go_ret2
                exact ⟨by rw [HE.out, HX.out]; rfl, (Below.refl _ _).alloc (Nat.le_refl _) _⟩
              · have HX := Lib.hid (HI.out.trans (M.digs_on hml (by rw [hme]; omega) (by rw [hme]; omega)))
                rw [hme] at HX
                clear hme
                go_wp2_with fail
                refine (in_yes _ _ _ _ hd1 hd2).mono ?_
                rintro e w' ⟨rfl, rfl⟩
                go_wp2_with fail
                go_roundw
                case rel =>
                  refine ⟨m + 1, 10 * acc + (s[m].toNat - 48), by omega, by omega, by go_num, ?_, HX, trivial⟩
                  exact congrArg (Value.int .i64) (by omega)
                case measure => simp [intOf]; omega
            · have HX := Lib.hid (HI.out.trans (M.digs_stop hml (by rw [hme]; omega)))
              clear hme
              go_wp2_with fail
              refine (in_no _ _ _ _ (by omega)).mono ?_
              rintro e w' ⟨rfl, rfl⟩
              go_wp2_with fail
              go_ret2
              exact ⟨by rw [HE.out, HX.out]; rfl, (Below.refl _ _).alloc (Nat.le_refl _) _⟩
          · have HX := Lib.hid (HI.out.trans (M.digs_end (by rw [← Lib.size_eq]; exact hmt)))
            go_wp2_with fail
            go_ret2
            exact ⟨by rw [HE.out, HX.out]; rfl, (Below.refl _ _).alloc (Nat.le_refl _) _⟩
end Go.Proofs.YtfnmepnbbeijhaaDoor

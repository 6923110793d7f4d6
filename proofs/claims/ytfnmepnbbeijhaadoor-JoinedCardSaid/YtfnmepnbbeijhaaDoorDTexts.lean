/- PLAIN MATHEMATICS of a numeral read back, and THE WALK of the law TextsAsNumbers. -/
import Derived.Test.YtfnmepnbbeijhaaDoorDSums
namespace Go.Proofs.YtfnmepnbbeijhaaDoor
open Go Go.RowKit

namespace M
theorem digit_nat {u : Nat} (h : u < 10) : (UInt8.ofNat (48 + u)).toNat = 48 + u := by
  rw [UInt8.toNat_ofNat']
  omega

theorem digs_digit {acc u : Nat} (h : u < 10) (ho : 10 * acc + u ≤ 1099511627776) (rest : List UInt8) : digs acc (UInt8.ofNat (48 + u) :: rest) = digs (10 * acc + u) rest := by
  rw [digs, digit_nat h, if_pos (by omega), if_neg (by omega), show 10 * acc + (48 + u - 48) = 10 * acc + u by omega]

theorem digs_dec (k : Nat) : ∀ (u : Nat) (rest : List UInt8), u ≤ k → u ≤ 1099511627776 → digs 0 (Lib.decDigits u ++ rest) = digs u rest := by
  induction k with
  | zero =>
    intro u rest h h1
    obtain rfl : u = 0 := by omega
    rw [decDigits_small (by omega), List.singleton_append, digs_digit (by omega) (by omega)]
  | succ k ih =>
    intro u rest h h1
    by_cases hs : u < 10
    · rw [decDigits_small hs, List.singleton_append, digs_digit hs (by omega), show 10 * 0 + u = u by omega]
    · rw [decDigits_big hs, List.append_assoc, ih (u / 10) _ (by omega) (by omega), decDigits_small (u := u % 10) (by omega), List.singleton_append, digs_digit (by omega) (by omega), show 10 * (u / 10) + u % 10 = u by omega]

theorem dec_head (k : Nat) : ∀ (u : Nat), u ≤ k → ∃ c r, Lib.decDigits u = c :: r ∧ 48 ≤ c.toNat := by
  induction k with
  | zero =>
    intro u h
    exact ⟨_, [], decDigits_small (by omega), by rw [digit_nat (by omega)]; omega⟩
  | succ k ih =>
    intro u h
    by_cases hs : u < 10
    · exact ⟨_, [], decDigits_small hs, by rw [digit_nat hs]; omega⟩
    · obtain ⟨c, r, e, hc⟩ := ih (u / 10) (by omega)
      exact ⟨c, r ++ Lib.decDigits (u % 10), by rw [decDigits_big hs, e]; rfl, hc⟩

theorem trim_stop {c : UInt8} (r : List UInt8) (h : ¬ c = 32) : Lib.trimLeftB (c :: r) 32 = c :: r := by
  show List.dropWhile _ _ = _
  rw [List.dropWhile_cons_of_neg (by simpa using h)]

/-- A numeral read back, with what stops it behind it. -/
theorem numL_itoa {k : Int} (h : -1099511627776 ≤ k ∧ k ≤ 1099511627776) (rest : List UInt8) (hr : ∀ u, digs u rest = some u) : numL (Lib.itoa k ++ rest) = some k := by
  unfold numL
  by_cases hk : k < 0
  · have e : Lib.itoa k ++ rest = 45 :: (Lib.decDigits k.natAbs ++ rest) := by
      unfold Lib.itoa
      rw [if_pos hk]
      rfl
    rw [e, trim_stop _ (by decide), if_pos (by simp [Lib.hasPrefix]), List.drop_one, List.tail_cons, digs_dec _ _ _ (Nat.le_refl _) (by omega), hr]
    exact congrArg some (show -((k.natAbs : Nat) : Int) = k by omega)
  · have e : Lib.itoa k = Lib.decDigits k.toNat := by
      unfold Lib.itoa
      rw [if_neg hk]
    obtain ⟨c, r, e2, hc⟩ := dec_head _ k.toNat (Nat.le_refl _)
    have hd := digs_dec _ k.toNat rest (Nat.le_refl _) (by omega)
    rw [e]
    rw [e2, List.cons_append] at hd ⊢
    rw [trim_stop _ (by intro h; rw [h] at hc; exact absurd hc (by decide)), if_neg (by
      intro h
      have : c = 45 := by
        simp [Lib.hasPrefix, List.isPrefixOf] at h
        exact h.symm
      rw [this] at hc
      exact absurd hc (by decide)), hd, hr]
    exact congrArg some (show ((k.toNat : Nat) : Int) = k by omega)

theorem numL_blank (l : List UInt8) : numL (32 :: l) = numL l := by
  unfold numL
  rw [show Lib.trimLeftB (32 :: l) 32 = Lib.trimLeftB l 32 from List.dropWhile_cons_of_pos (by decide)]
end M

/-- What lay there lies there still. -/
structure Kept (w w' : World) : Prop where
  h : Below w.heap.size w w'
theorem Kept.next {w w1 w2 : World} (h : Kept w w1) (h2 : Below w1.heap.size w1 w2) : Kept w w2 := ⟨below_next h.h h2 (Nat.le_refl _)⟩
theorem Kept.alloc {w w1 : World} (h : Kept w w1) (o : Obj) : Kept w (w1.alloc o) := h.next ((Below.refl _ _).alloc (Nat.le_refl _) o)
theorem Kept.drew {w w1 : World} (h : Kept w w1) : Kept w w1.drew := ⟨h.h.drew⟩

set_option maxRecDepth 10000 in
set_option maxHeartbeats 400000 in
theorem textsAsNumbers_any (n : Int) (s : ByteArray) (w : World) (ht : Pow10 w) :
    Calls Tryd.prog 6 #[.int .i64 n, .string s] w fun e w' => e = .returned (.bool true) ∧ Below w.heap.size w w' := by
  have bk : -1099511627777 < n.tmod 1099511627777 ∧ n.tmod 1099511627777 < 1099511627777 := tmod_bd n 1099511627777 (by omega)
  obtain ⟨k, hk⟩ : ∃ k, n.tmod 1099511627777 = k := ⟨_, rfl⟩
  replace bk : -1099511627776 ≤ k ∧ k ≤ 1099511627776 := by
    rw [hk] at bk
    omega
  have HKE := Lib.hid hk
  have HT := Lib.hid ht
  have kk : numOk k := bk
  have HS := Lib.hid fun w1 h => str_ok false k ⟨#[]⟩ w1 kk h
  have HI := Lib.hid fun w1 h => itoa_any k w1 (by omega) (by omega) h
  have li := itoa_len (n := k) (by omega) (by omega)
  have HV := Lib.hid (vf_in (n := k) (by omega))
  have N1 := fun w1 => num_any true 0 ⟨(Lib.itoa k).toArray⟩ (by show (Lib.itoa k).toArray.size ≤ maxLen; unfold maxLen; rw [List.size_toArray]; omega) w1
  have e1 : numOf true 0 ⟨(Lib.itoa k).toArray⟩ = some k := by
    have := M.numL_itoa bk [] (fun _ => rfl)
    rw [List.append_nil] at this
    exact this
  rw [e1, show numE (some k) = (k, 0) from rfl] at N1
  dsimp only at N1
  have N2 := fun (t : ByteArray) (h : t.size ≤ 100) w1 => num_any true 0 (((⟨#[32, 32]⟩ : ByteArray) ++ ⟨(Lib.itoa k).toArray⟩ ++ ⟨#[32]⟩) ++ t) (by
    rw [two_data, two_data, two_data]
    show #[32, 32].size + (Lib.itoa k).toArray.size + #[32].size + t.size ≤ maxLen
    unfold maxLen
    rw [List.size_toArray]
    simp
    omega) w1
  have e2 : ∀ t : ByteArray, numOf true 0 (((⟨#[32, 32]⟩ : ByteArray) ++ ⟨(Lib.itoa k).toArray⟩ ++ ⟨#[32]⟩) ++ t) = some k := by
    intro t
    show M.numL (((⟨#[32, 32]⟩ : ByteArray) ++ ⟨(Lib.itoa k).toArray⟩ ++ ⟨#[32]⟩) ++ t).data.toList = some k
    rw [ByteArray.data_append, ByteArray.data_append, ByteArray.data_append]
    simp only [Array.toList_append, List.append_assoc]
    show M.numL (32 :: 32 :: (Lib.itoa k ++ (32 :: t.data.toList))) = some k
    rw [M.numL_blank, M.numL_blank]
    exact M.numL_itoa bk _ (fun u => by rw [M.digs]; simp)
  simp only [e2, show numE (some k) = (k, 0) from rfl] at N2
  have HN1 := Lib.hid N1
  have HN2 := Lib.hid N2
  have hI : (⟨(Lib.itoa k).toArray⟩ : ByteArray).size ≤ 20 := by
    show (Lib.itoa k).toArray.size ≤ 20
    rw [List.size_toArray]
    exact li
  have hst : strOf false k ⟨#[]⟩ = ⟨(Lib.itoa k).toArray⟩ := rfl
  rw [hst] at HS
  generalize (⟨(Lib.itoa k).toArray⟩ : ByteArray) = I at HS HI HN1 HN2 hI
  clear e1 e2 N1 N2 hk kk li hst bk ht
  have g1 : ¬ 9223372036854775807 < 2 + I.size := by omega
  have g2 : ¬ 9223372036854775807 < 2 + I.size + 1 := by omega
  have g3 : 0 ≤ min (s.size : Int) 100 := by omega
  have g4 : min (s.size : Int) 100 ≤ s.size := by omega
  have g5 : ¬ 9223372036854775807 < 2 + I.size + 1 + (min (s.size : Int) 100).toNat := by omega
  go_enter Tryd.func6, Tryd.ntmps6
  go_wp2_with (go_at_call 20; refine (number_any _ _).mono ?_; rintro e w2 ⟨rfl, rfl⟩)
  rw [HKE.out]
  have A1 : ∀ o, Below w.heap.size w (w.alloc o) := fun o => (Below.refl _ _).alloc (Nat.le_refl _) o
  refine (HS.out _ (HT.out.mono (A1 _))).mono ?_
  rintro e w1 ⟨rfl, hb⟩
  have B := box_below (box_start _ _ hb)
  clear hb
  go_wp2_with (go_at_call 19; refine (text_any _ _).mono ?_; rintro e w2 ⟨rfl, rfl⟩)
  refine (HN1.out _).mono ?_
  rintro e w2 ⟨rfl, hb⟩
  have K := Kept.next ((Kept.mk B).alloc _) hb
  clear hb B
  go_wp2_with fail
  go_region_held3 (fun w' => Kept w w')
    (first | exact K.drew | exact Kept.next (by assumption) hbm | exact Kept.alloc (by assumption) _ | assumption)
    (first
      | (go_at_call 21; refine (HI.out _ (HT.out.mono (Kept.h (by assumption)))).mono ?_; rintro e w3 ⟨rfl, hbm⟩)
      | (go_at_call 19; refine (text_any _ _).mono ?_; rintro e w3 ⟨rfl, rfl⟩)
      | (go_at_call 17; refine (HN2.out _ ?_ _).mono ?_; (rw [ByteArray.size_extract]; omega); rintro e w3 ⟨rfl, hbm⟩))
  go_wp2_with (go_at_call 20; refine (number_any _ _).mono ?_; rintro e w5 ⟨rfl, rfl⟩)
  all_goals
    refine (check_any _ _ _ _).mono ?_
    rintro e w6 ⟨rfl, hb6⟩
    rw [HV.out]
    have K6 := Kept.next (Kept.alloc (by assumption) _) hb6
    go_wp2_with fail
    go_ret
    exact ⟨ret_bool (by simp), K6.h⟩
end Go.Proofs.YtfnmepnbbeijhaaDoor

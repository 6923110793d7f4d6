/- THE WALK of the reference's product. -/
import Derived.Test.YtfnmepnbbeijhaaDoorDRef
namespace Go.Proofs.YtfnmepnbbeijhaaDoor
open Go Go.RowKit

theorem prod_out {T s a b : Int} (h : T = s + (2 * a) * b) (hb : 0 ≤ b) (hs : (0 ≤ a ∧ 0 ≤ s) ∨ (a ≤ 0 ∧ s ≤ 0))
    (h2 : (s < -1099511627776 ∨ 1099511627776 < s) ∨ (0 < b ∧ (a < -1099511627776 ∨ 1099511627776 < a))) : T < -1099511627776 ∨ 1099511627776 < T := by
  rw [Int.mul_assoc] at h
  rcases hs with ⟨ha, hs⟩ | ⟨ha, hs⟩
  · have k1 := Int.mul_nonneg ha hb
    rcases h2 with h2 | ⟨h3, h2⟩
    · generalize a * b = p at h k1
      omega
    · have k2 := Int.mul_le_mul_of_nonneg_left (show 1 ≤ b by omega) ha
      generalize a * b = p at h k1 k2
      omega
  · have k1 := Int.mul_nonneg (show 0 ≤ -a by omega) hb
    rw [Int.neg_mul] at k1
    rcases h2 with h2 | ⟨h3, h2⟩
    · generalize a * b = p at h k1
      omega
    · have k2 := Int.mul_le_mul_of_nonneg_left (show 1 ≤ b by omega) (show 0 ≤ -a by omega)
      rw [Int.neg_mul, Int.neg_mul] at k2
      generalize a * b = p at h k1 k2
      omega

/-- The loop's state: what is still to be added, and what is there. -/
structure Prod (T s a b : Int) : Prop where
  eq : T = s + a * b
  b0 : 0 ≤ b
  b1 : b ≤ 1099511627776
  a0 : -4398046511104 ≤ a ∧ a ≤ 4398046511104
  a1 : 0 < b → -2199023255552 ≤ a ∧ a ≤ 2199023255552
  s0 : -1099511627776 ≤ s ∧ s ≤ 1099511627776
  sg : (0 ≤ a ∧ 0 ≤ s) ∨ (a ≤ 0 ∧ s ≤ 0)

set_option maxRecDepth 100000 in
set_option maxHeartbeats 2000000 in
theorem product_any (a b : Int) (w : World) (ha : numOk a) (hb : numOk b) :
    Calls Tryd.prog 44 #[.int .i64 a, .int .i64 b] w fun e w' => e = .returned (resV false (bndE (a * b)).1 ⟨#[]⟩ (bndE (a * b)).2) ∧ Below w.heap.size w w' := by
  obtain ⟨a0, a1⟩ := ha
  obtain ⟨b0, b1⟩ := hb
  obtain ⟨T, hT⟩ : ∃ T, a * b = T := ⟨_, rfl⟩
  rw [hT]
  by_cases hneg : b < 0
  · have HS : Hid (Prod T 0 (-a) (-b)) := ⟨by rw [← hT, Int.neg_mul_neg]; omega, by omega, by omega, by omega, fun _ => by omega, by omega, by omega⟩
    clear hT
    go_enter Tryd.func44, Tryd.ntmps44
    go_wp2_with fail
    go_loopw [0, 1, 6] (fun va vb vs wx => ∃ a b s : Int, va = .int .i64 a ∧ vb = .int .i64 b ∧ vs = .int .i64 s ∧ Hid (Prod T s a b) ∧ wx = w.alloc (.cells #[.bool false, .int .i64 0, .string ⟨#[]⟩] 24)) (fun _ vb _ _ => (intOf vb).toNat)
    case atStart => exact ⟨_, _, _, rfl, rfl, rfl, HS, rfl⟩
    case round =>
      clear HS
      obtain ⟨a, b, s, rfl, rfl, rfl, HP, rfl⟩ := hrel
      obtain ⟨p1, p2, p3, ⟨p4, p5⟩, p6, ⟨p7, p8⟩, p9⟩ := HP.out
      clear HP
      by_cases hb : 0 < b
      · obtain ⟨p10, p11⟩ := p6 hb
        clear p6
        by_cases hodd : b % 2 = 1
        · have hq : (b % 2 == 1) = true := by simpa using hodd
          have HE0 := Lib.hid (p1.trans (M.half_odd a b s hodd))
          clear p1
          have HE : Hid (T = s + a + (2 * a) * (b / 2)) := HE0
          clear HE0
          by_cases hin : -1099511627776 ≤ s + a ∧ s + a ≤ 1099511627776
          · by_cases hb2 : 0 < b / 2
            · have hai : -1099511627776 ≤ a ∧ a ≤ 1099511627776 := by omega
              have HN : Hid (Prod T (s + a) (2 * a) (b / 2)) := ⟨HE.out, by omega, by omega, by omega, fun _ => by omega, hin, by omega⟩
              go_wp2_with fail
              refine (in_yes _ _ _ _ hin.1 hin.2).mono ?_
              rintro e w1 ⟨rfl, rfl⟩
              go_wp2_with fail
              refine (in_yes _ _ _ _ hai.1 hai.2).mono ?_
              rintro e w1 ⟨rfl, rfl⟩
              go_wp2_with fail
              go_roundw
              case rel => exact ⟨_, _, _, rfl, rfl, rfl, HN, trivial⟩
              case measure => simp [intOf]; omega
            · have HN : Hid (Prod T (s + a) (2 * a) (b / 2)) := ⟨HE.out, by omega, by omega, by omega, fun _ => by omega, hin, by omega⟩
              go_wp2_with fail
              refine (in_yes _ _ _ _ hin.1 hin.2).mono ?_
              rintro e w1 ⟨rfl, rfl⟩
              go_wp2_with fail
              go_roundw
              case rel => exact ⟨_, _, _, rfl, rfl, rfl, HN, trivial⟩
              case measure => simp [intOf]; omega
          · have HO := Lib.hid (prod_out (T := T) HE.out (by omega) (by omega) (Or.inl (by omega)))
            go_wp2_with fail
            refine (in_no _ _ _ _ (by omega)).mono ?_
            rintro e w1 ⟨rfl, rfl⟩
            go_wp2_with fail
            exact bodyPost_ret (v := resV false 0 ⟨#[]⟩ 3) (by simp [resV, results, Tryd.results44, go_sem]) rfl ⟨by rw [bnd_out HO.out], (Below.refl _ _).alloc (Nat.le_refl _) _⟩
        · have hq : (b % 2 == 1) = false := by simpa using hodd
          have HE0 := Lib.hid (p1.trans (M.half_even a b s hodd))
          clear p1
          have HE : Hid (T = s + (2 * a) * (b / 2)) := HE0
          clear HE0
          have hin : -1099511627776 ≤ s ∧ s ≤ 1099511627776 := ⟨p7, p8⟩
          have hb2 : 0 < b / 2 := by omega
          by_cases hai : -1099511627776 ≤ a ∧ a ≤ 1099511627776
          · have HN : Hid (Prod T (s) (2 * a) (b / 2)) := ⟨HE.out, by omega, by omega, by omega, fun _ => by omega, hin, by omega⟩
            go_wp2_with fail
            refine (in_yes _ _ _ _ hin.1 hin.2).mono ?_
            rintro e w1 ⟨rfl, rfl⟩
            go_wp2_with fail
            refine (in_yes _ _ _ _ hai.1 hai.2).mono ?_
            rintro e w1 ⟨rfl, rfl⟩
            go_wp2_with fail
            go_roundw
            case rel => exact ⟨_, _, _, rfl, rfl, rfl, HN, trivial⟩
            case measure => simp [intOf]; omega
          · have HO := Lib.hid (prod_out (T := T) HE.out (by omega) (by omega) (Or.inr ⟨hb2, by omega⟩))
            go_wp2_with fail
            refine (in_yes _ _ _ _ hin.1 hin.2).mono ?_
            rintro e w1 ⟨rfl, rfl⟩
            go_wp2_with fail
            refine (in_no _ _ _ _ (by omega)).mono ?_
            rintro e w1 ⟨rfl, rfl⟩
            go_wp2_with fail
            exact bodyPost_ret (v := resV false 0 ⟨#[]⟩ 3) (by simp [resV, results, Tryd.results44, go_sem]) rfl ⟨by rw [bnd_out HO.out], (Below.refl _ _).alloc (Nat.le_refl _) _⟩
      · have hb0 : b = 0 := by omega
        subst hb0
        rw [Int.mul_zero, Int.add_zero] at p1
        subst p1
        clear p6 hb p9
        go_wp2_with fail
        refine (within_any _ _).mono ?_
        rintro e w1 ⟨rfl, hb1⟩
        have HB1 := boxw_start rfl hb1
        clear hb1
        obtain ⟨⟨c0, c1, c2⟩, f0, f1, f2⟩ := boxw rfl HB1.out
        unfold resV
        go_wp2_with fail
        exact bodyPost_ret (v := resV false (bndE _).1 ⟨#[]⟩ (bndE _).2) (by simp [resV, results, Tryd.results44, go_sem, *]) rfl ⟨rfl, (((box_below HB1.out).setCell (by simp) _).setCell (by simp) _).setCell (by simp) _⟩
  · have HS : Hid (Prod T 0 a b) := ⟨by rw [← hT]; omega, by omega, by omega, by omega, fun _ => by omega, by omega, by omega⟩
    clear hT
    go_enter Tryd.func44, Tryd.ntmps44
    go_wp2_with fail
    go_loopw [0, 1, 6] (fun va vb vs wx => ∃ a b s : Int, va = .int .i64 a ∧ vb = .int .i64 b ∧ vs = .int .i64 s ∧ Hid (Prod T s a b) ∧ wx = w.alloc (.cells #[.bool false, .int .i64 0, .string ⟨#[]⟩] 24)) (fun _ vb _ _ => (intOf vb).toNat)
    case atStart => exact ⟨_, _, _, rfl, rfl, rfl, HS, rfl⟩
    case round =>
      clear HS
      obtain ⟨a, b, s, rfl, rfl, rfl, HP, rfl⟩ := hrel
      obtain ⟨p1, p2, p3, ⟨p4, p5⟩, p6, ⟨p7, p8⟩, p9⟩ := HP.out
      clear HP
      by_cases hb : 0 < b
      · obtain ⟨p10, p11⟩ := p6 hb
        clear p6
        by_cases hodd : b % 2 = 1
        · have hq : (b % 2 == 1) = true := by simpa using hodd
          have HE0 := Lib.hid (p1.trans (M.half_odd a b s hodd))
          clear p1
          have HE : Hid (T = s + a + (2 * a) * (b / 2)) := HE0
          clear HE0
          by_cases hin : -1099511627776 ≤ s + a ∧ s + a ≤ 1099511627776
          · by_cases hb2 : 0 < b / 2
            · have hai : -1099511627776 ≤ a ∧ a ≤ 1099511627776 := by omega
              have HN : Hid (Prod T (s + a) (2 * a) (b / 2)) := ⟨HE.out, by omega, by omega, by omega, fun _ => by omega, hin, by omega⟩
              go_wp2_with fail
              refine (in_yes _ _ _ _ hin.1 hin.2).mono ?_
              rintro e w1 ⟨rfl, rfl⟩
              go_wp2_with fail
              refine (in_yes _ _ _ _ hai.1 hai.2).mono ?_
              rintro e w1 ⟨rfl, rfl⟩
              go_wp2_with fail
              go_roundw
              case rel => exact ⟨_, _, _, rfl, rfl, rfl, HN, trivial⟩
              case measure => simp [intOf]; omega
            · have HN : Hid (Prod T (s + a) (2 * a) (b / 2)) := ⟨HE.out, by omega, by omega, by omega, fun _ => by omega, hin, by omega⟩
              go_wp2_with fail
              refine (in_yes _ _ _ _ hin.1 hin.2).mono ?_
              rintro e w1 ⟨rfl, rfl⟩
              go_wp2_with fail
              go_roundw
              case rel => exact ⟨_, _, _, rfl, rfl, rfl, HN, trivial⟩
              case measure => simp [intOf]; omega
          · have HO := Lib.hid (prod_out (T := T) HE.out (by omega) (by omega) (Or.inl (by omega)))
            go_wp2_with fail
            refine (in_no _ _ _ _ (by omega)).mono ?_
            rintro e w1 ⟨rfl, rfl⟩
            go_wp2_with fail
            exact bodyPost_ret (v := resV false 0 ⟨#[]⟩ 3) (by simp [resV, results, Tryd.results44, go_sem]) rfl ⟨by rw [bnd_out HO.out], (Below.refl _ _).alloc (Nat.le_refl _) _⟩
        · have hq : (b % 2 == 1) = false := by simpa using hodd
          have HE0 := Lib.hid (p1.trans (M.half_even a b s hodd))
          clear p1
          have HE : Hid (T = s + (2 * a) * (b / 2)) := HE0
          clear HE0
          have hin : -1099511627776 ≤ s ∧ s ≤ 1099511627776 := ⟨p7, p8⟩
          have hb2 : 0 < b / 2 := by omega
          by_cases hai : -1099511627776 ≤ a ∧ a ≤ 1099511627776
          · have HN : Hid (Prod T (s) (2 * a) (b / 2)) := ⟨HE.out, by omega, by omega, by omega, fun _ => by omega, hin, by omega⟩
            go_wp2_with fail
            refine (in_yes _ _ _ _ hin.1 hin.2).mono ?_
            rintro e w1 ⟨rfl, rfl⟩
            go_wp2_with fail
            refine (in_yes _ _ _ _ hai.1 hai.2).mono ?_
            rintro e w1 ⟨rfl, rfl⟩
            go_wp2_with fail
            go_roundw
            case rel => exact ⟨_, _, _, rfl, rfl, rfl, HN, trivial⟩
            case measure => simp [intOf]; omega
          · have HO := Lib.hid (prod_out (T := T) HE.out (by omega) (by omega) (Or.inr ⟨hb2, by omega⟩))
            go_wp2_with fail
            refine (in_yes _ _ _ _ hin.1 hin.2).mono ?_
            rintro e w1 ⟨rfl, rfl⟩
            go_wp2_with fail
            refine (in_no _ _ _ _ (by omega)).mono ?_
            rintro e w1 ⟨rfl, rfl⟩
            go_wp2_with fail
            exact bodyPost_ret (v := resV false 0 ⟨#[]⟩ 3) (by simp [resV, results, Tryd.results44, go_sem]) rfl ⟨by rw [bnd_out HO.out], (Below.refl _ _).alloc (Nat.le_refl _) _⟩
      · have hb0 : b = 0 := by omega
        subst hb0
        rw [Int.mul_zero, Int.add_zero] at p1
        subst p1
        clear p6 hb p9
        go_wp2_with fail
        refine (within_any _ _).mono ?_
        rintro e w1 ⟨rfl, hb1⟩
        have HB1 := boxw_start rfl hb1
        clear hb1
        obtain ⟨⟨c0, c1, c2⟩, f0, f1, f2⟩ := boxw rfl HB1.out
        unfold resV
        go_wp2_with fail
        exact bodyPost_ret (v := resV false (bndE _).1 ⟨#[]⟩ (bndE _).2) (by simp [resV, results, Tryd.results44, go_sem, *]) rfl ⟨rfl, (((box_below HB1.out).setCell (by simp) _).setCell (by simp) _).setCell (by simp) _⟩
end Go.Proofs.YtfnmepnbbeijhaaDoor

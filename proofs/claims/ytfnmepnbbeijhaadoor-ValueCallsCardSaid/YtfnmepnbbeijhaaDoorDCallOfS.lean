/- THE WALKS of the reference's CallOf: substr; no function. -/
import Derived.Test.YtfnmepnbbeijhaaDoorDCallOf
namespace Go.Proofs.YtfnmepnbbeijhaaDoor
open Go Go.RowKit

theorem sub_start (S : ByteArray) (x n : Int) : Hid ((⟨#[]⟩ : ByteArray) = S.extract (lowS x S.size) (min 0 (highS x n S.size))) := by
  show (⟨#[]⟩ : ByteArray) = _
  apply ByteArray.ext
  apply Array.toList_inj.1
  rw [ext_bytes, Nat.zero_min, Nat.zero_sub, List.take_zero]
theorem sub_in {S : ByteArray} {x n : Int} {k : Nat} (hk : k < S.size) (h1 : x ≤ (k : Int) + 1) (h2 : (k : Int) + 1 < x + n) :
    S.extract (lowS x S.size) (min k (highS x n S.size)) ++ S.extract k (k + 1) = S.extract (lowS x S.size) (min (k + 1) (highS x n S.size)) := by
  have e1 : lowS x S.size ≤ k := by unfold lowS; omega
  have e2 : k + 1 ≤ highS x n S.size := by unfold highS; omega
  rw [Nat.min_eq_left (by omega), Nat.min_eq_left e2]
  apply ByteArray.ext
  rw [ByteArray.data_append, ByteArray.data_extract, ByteArray.data_extract, ByteArray.data_extract, Array.extract_append_extract, Nat.min_eq_left e1, Nat.max_eq_right (by omega)]
theorem sub_out {S : ByteArray} {x n : Int} {k : Nat} (hk : k < S.size) (h : ¬ (x ≤ (k : Int) + 1 ∧ (k : Int) + 1 < x + n)) :
    S.extract (lowS x S.size) (min k (highS x n S.size)) = S.extract (lowS x S.size) (min (k + 1) (highS x n S.size)) := by
  by_cases e : highS x n S.size ≤ k
  · rw [Nat.min_eq_right e, Nat.min_eq_right (by omega)]
  · have e1 : k + 1 ≤ lowS x S.size := by
      unfold highS at e
      unfold lowS
      omega
    apply ByteArray.ext
    apply Array.toList_inj.1
    rw [ext_bytes, ext_bytes, show min k (highS x n S.size) - lowS x S.size = 0 by omega, show min (k + 1) (highS x n S.size) - lowS x S.size = 0 by omega]
theorem sub_end (S : ByteArray) (x n : Int) {k : Nat} (hk : ¬ k < S.size) : S.extract (lowS x S.size) (min k (highS x n S.size)) = S.extract (lowS x S.size) (highS x n S.size) := by
  have e : highS x n S.size ≤ k := by unfold highS; omega
  rw [Nat.min_eq_right e]

set_option maxRecDepth 100000 in
set_option maxHeartbeats 1000000 in
theorem callof_substr_bad (b off cap : Nat) (tb : Bool) (nb : Int) (sb : ByteArray) (tc : Bool) (nc : Int) (sc : ByteArray) (w : World) (lb : sb.size ≤ maxLen) (lc : sc.size ≤ maxLen)
    (b0 : w.cell? ⟨b, off + 3, none⟩ = some (.bool tb)) (b1 : w.cell? ⟨b, off + 3 + 1, none⟩ = some (.int .i64 nb)) (b2 : w.cell? ⟨b, off + 3 + 2, none⟩ = some (.string sb))
    (c0 : w.cell? ⟨b, off + 6, none⟩ = some (.bool tc)) (c1 : w.cell? ⟨b, off + 6 + 1, none⟩ = some (.int .i64 nc)) (c2 : w.cell? ⟨b, off + 6 + 2, none⟩ = some (.string sc)) (hx : numOf tb nb sb = none ∨ numOf tc nc sc = none) :
    Calls Tryd.prog 26 #[.string ⟨#[115, 117, 98, 115, 116, 114]⟩, .slice (some ⟨b, off, none⟩) 3 cap] w fun e w' =>
    e = .returned (resV false 0 ⟨#[]⟩ 3) ∧ Below w.heap.size w w' := by
  have C1 := fun w1 => numberOf_any tb nb sb lb w1
  have C2 := fun w1 => numberOf_any tc nc sc lc w1
  have B0 := el_alloc b0
  have B1 := el_alloc b1
  have B2 := el_alloc b2
  have G0 := Lib.hid c0
  have G1 := Lib.hid c1
  have G2 := Lib.hid c2
  generalize numOf tb nb sb = x at C1 hx
  generalize numOf tc nc sc = y at C2 hx
  have hn : (numE none).1 = 0 ∧ (numE none).2 = 2 := ⟨rfl, rfl⟩
  cases x with
  | none =>
    rw [hn.1, hn.2] at C1
    generalize numE y = ye at C2
    obtain ⟨y1, y2⟩ := ye
    have HC1 := Lib.hid C1
    have HC2 := Lib.hid C2
    clear C1 C2 lb lc hx hn b0 b1 b2 c0 c1 c2
    go_enter Tryd.func26, Tryd.ntmps26
    go_wp2_with fail
    refine (HC1.out _).mono ?_
    rintro e w1 ⟨rfl, hb⟩
    have HK := Ca.start.next hb
    clear hb
    have c0 := HK.el G0.out
    have c1 := HK.el G1.out
    have c2 := HK.el G2.out
    go_wp2_with fail
    refine (HC2.out _).mono ?_
    rintro e w2 ⟨rfl, hb⟩
    have HK := HK.next hb
    clear hb c0 c1 c2
    obtain ⟨⟨c0, c1, c2⟩, f0, f1, f2⟩ := HK.res
    go_wp2_with fail
    exact bodyPost_ret (v := resV false 0 ⟨#[]⟩ 3) (by simp [resV, results, Tryd.results26, go_sem, *]) rfl ⟨rfl, ((HK.below.setCell (by simp) _).setCell (by simp) _).setCell (by simp) _⟩
  | some x =>
    obtain rfl : y = none := by rcases hx with h | h; cases h; exact h
    have hs : (numE (some x)).1 = x ∧ (numE (some x)).2 = 0 := ⟨rfl, rfl⟩
    rw [hs.1, hs.2] at C1
    rw [hn.1, hn.2] at C2
    have HC1 := Lib.hid C1
    have HC2 := Lib.hid C2
    clear C1 C2 lb lc hx hn hs b0 b1 b2 c0 c1 c2
    go_enter Tryd.func26, Tryd.ntmps26
    go_wp2_with fail
    refine (HC1.out _).mono ?_
    rintro e w1 ⟨rfl, hb⟩
    have HK := Ca.start.next hb
    clear hb
    have c0 := HK.el G0.out
    have c1 := HK.el G1.out
    have c2 := HK.el G2.out
    go_wp2_with fail
    refine (HC2.out _).mono ?_
    rintro e w2 ⟨rfl, hb⟩
    have HK := HK.next hb
    clear hb c0 c1 c2
    obtain ⟨⟨c0, c1, c2⟩, f0, f1, f2⟩ := HK.res
    go_wp2_with fail
    exact bodyPost_ret (v := resV false 0 ⟨#[]⟩ 3) (by simp [resV, results, Tryd.results26, go_sem, *]) rfl ⟨rfl, ((HK.below.setCell (by simp) _).setCell (by simp) _).setCell (by simp) _⟩

set_option maxRecDepth 100000 in
set_option maxHeartbeats 1000000 in
theorem callof_other (name : ByteArray) (p : Option Addr) (n cap : Nat) (w : World) (h : callNone name n) :
    Calls Tryd.prog 26 #[.string name, .slice p n cap] w fun e w' =>
    e = .returned (resV false 0 ⟨#[]⟩ 3) ∧ Below w.heap.size w w' := by
  obtain ⟨h1, h2, h3⟩ := h
  by_cases q1 : name = ⟨#[108, 101, 110, 103, 116, 104]⟩
  · have hk : ((n : Int) == 1) = false := int_isnt (k := 1) (fun e => h1 ⟨q1, e⟩)
    subst q1
    clear h1 h2 h3
    go_enter Tryd.func26, Tryd.ntmps26
    go_wp2_with fail
    exact bodyPost_ret (v := resV false 0 ⟨#[]⟩ 3) (by simp [resV, results, Tryd.results26, go_sem]) rfl ⟨rfl, (Below.refl _ _).alloc (Nat.le_refl _) _⟩
  by_cases q2 : name = ⟨#[105, 110, 100, 101, 120]⟩
  · have hk : ((n : Int) == 2) = false := int_isnt (k := 2) (fun e => h2 ⟨q2, e⟩)
    subst q2
    clear h1 h2 h3 q1
    go_enter Tryd.func26, Tryd.ntmps26
    go_wp2_with fail
    exact bodyPost_ret (v := resV false 0 ⟨#[]⟩ 3) (by simp [resV, results, Tryd.results26, go_sem]) rfl ⟨rfl, (Below.refl _ _).alloc (Nat.le_refl _) _⟩
  by_cases q3 : name = ⟨#[115, 117, 98, 115, 116, 114]⟩
  · have hk : ((n : Int) == 3) = false := int_isnt (k := 3) (fun e => h3 ⟨q3, e⟩)
    subst q3
    clear h1 h2 h3 q1 q2
    go_enter Tryd.func26, Tryd.ntmps26
    go_wp2_with fail
    exact bodyPost_ret (v := resV false 0 ⟨#[]⟩ 3) (by simp [resV, results, Tryd.results26, go_sem]) rfl ⟨rfl, (Below.refl _ _).alloc (Nat.le_refl _) _⟩
  have t1 := toList_ne q1
  have t2 := toList_ne q2
  have t3 := toList_ne q3
  rw [show (⟨#[108, 101, 110, 103, 116, 104]⟩ : ByteArray).toList = [108, 101, 110, 103, 116, 104] by rw [Lib.toList_data]] at t1
  rw [show (⟨#[105, 110, 100, 101, 120]⟩ : ByteArray).toList = [105, 110, 100, 101, 120] by rw [Lib.toList_data]] at t2
  rw [show (⟨#[115, 117, 98, 115, 116, 114]⟩ : ByteArray).toList = [115, 117, 98, 115, 116, 114] by rw [Lib.toList_data]] at t3
  clear h1 h2 h3 q1 q2 q3
  go_enter Tryd.func26, Tryd.ntmps26
  go_wp2_with fail
  exact bodyPost_ret (v := resV false 0 ⟨#[]⟩ 3) (by simp [resV, results, Tryd.results26, go_sem]) rfl ⟨rfl, (Below.refl _ _).alloc (Nat.le_refl _) _⟩

set_option maxRecDepth 100000 in
set_option maxHeartbeats 1000000 in
theorem callof_substr (b off cap : Nat) (ta : Bool) (na : Int) (sa : ByteArray) (tb : Bool) (nb : Int) (sb : ByteArray) (tc : Bool) (nc : Int) (sc : ByteArray) (w : World) (ha : numOk na) (lb : sb.size ≤ maxLen) (lc : sc.size ≤ maxLen) (hl : (strOf ta na sa).size ≤ 1000000)
    (a0 : w.cell? ⟨b, off, none⟩ = some (.bool ta)) (a1 : w.cell? ⟨b, off + 1, none⟩ = some (.int .i64 na)) (a2 : w.cell? ⟨b, off + 2, none⟩ = some (.string sa))
    (b0 : w.cell? ⟨b, off + 3, none⟩ = some (.bool tb)) (b1 : w.cell? ⟨b, off + 3 + 1, none⟩ = some (.int .i64 nb)) (b2 : w.cell? ⟨b, off + 3 + 2, none⟩ = some (.string sb))
    (c0 : w.cell? ⟨b, off + 6, none⟩ = some (.bool tc)) (c1 : w.cell? ⟨b, off + 6 + 1, none⟩ = some (.int .i64 nc)) (c2 : w.cell? ⟨b, off + 6 + 2, none⟩ = some (.string sc)) (x n : Int) (hx : numOf tb nb sb = some x) (hn : numOf tc nc sc = some n) (x0 : -1099511627776 ≤ x) (x1 : x ≤ 1099511627776) (n0 : -1099511627776 ≤ n) (n1 : n ≤ 1099511627776) :
    Calls Tryd.prog 26 #[.string ⟨#[115, 117, 98, 115, 116, 114]⟩, .slice (some ⟨b, off, none⟩) 3 cap] w fun e w' =>
    e = .returned (resV true 0 ((strOf ta na sa).extract (lowS x (strOf ta na sa).size) (highS x n (strOf ta na sa).size)) 0) ∧ Below w.heap.size w w' := by
  have C1 := fun w1 => numberOf_any tb nb sb lb w1
  have C2 := fun w1 => numberOf_any tc nc sc lc w1
  have B0 := el_alloc b0
  have B1 := el_alloc b1
  have B2 := el_alloc b2
  have E0 := Lib.hid a0
  have E1 := Lib.hid a1
  have E2 := Lib.hid a2
  have G0 := Lib.hid c0
  have G1 := Lib.hid c1
  have G2 := Lib.hid c2
  rw [hx, show numE (some x) = (x, 0) from rfl] at C1
  rw [hn, show numE (some n) = (n, 0) from rfl] at C2
  dsimp only at C1 C2
  have HC1 := Lib.hid C1
  have HC2 := Lib.hid C2
  have HC := Lib.hid fun w1 => textOf_ok ta na sa w1 ha
  clear C1 C2 ha lb lc hx hn a0 a1 a2 b0 b1 b2 c0 c1 c2
  generalize strOf ta na sa = S at HC hl ⊢
  go_enter Tryd.func26, Tryd.ntmps26
  go_wp2_with fail
  refine (HC1.out _).mono ?_
  rintro e w1 ⟨rfl, hb⟩
  have HK := Ca.start.next hb
  clear hb
  have c0 := HK.el G0.out
  have c1 := HK.el G1.out
  have c2 := HK.el G2.out
  go_wp2_with fail
  refine (HC2.out _).mono ?_
  rintro e w2 ⟨rfl, hb⟩
  have HK := HK.next hb
  clear hb c0 c1 c2
  have a0 := HK.el E0.out
  have a1 := HK.el E1.out
  have a2 := HK.el E2.out
  go_wp2_with fail
  refine (HC.out _).mono ?_
  rintro e w3 ⟨rfl, hb⟩
  have HK := HK.next hb
  clear hb a0 a1 a2
  go_wp2_with fail
  go_loopw [14, 15] (fun vo vi wx => ∃ (k : Nat) (O : ByteArray), k ≤ S.size ∧ vi = .int .i64 ((k : Int) + 1) ∧ vo = .string O ∧ O.size ≤ k ∧ Hid (O = S.extract (lowS x S.size) (min k (highS x n S.size))) ∧ wx = w3) (fun _ vi _ => S.size + 1 - (intOf vi).toNat)
  case atStart => exact ⟨0, ⟨#[]⟩, by omega, rfl, rfl, Nat.zero_le _, sub_start S x n, rfl⟩
  case round =>
    obtain ⟨k, O, hk, rfl, rfl, hO, HO, rfl⟩ := hrel
    by_cases hlt : k < S.size
    · by_cases h1 : x ≤ (k : Int) + 1
      · by_cases h2 : (k : Int) + 1 < x + n
        · have HX := Lib.hid ((congrArg (· ++ S.extract k (k + 1)) HO.out).trans (sub_in hlt h1 h2))
          have hslice : ∀ wx, (Instr.slice 9 (.string S) (some (.int .i64 (k : Int))) (some (.int .i64 ((k : Int) + 1))) none).run Tryd.prog wx = .ok (.string (S.extract k (k + 1))) wx := fun wx => by
            have h := run_slice_string (P := Tryd.prog) wx 9 S .i64 .i64 (k : Int) ((k : Int) + 1) Tryd.underlying9 (by omega) (by omega) (by omega)
            rw [show (k : Int).toNat = k by omega, show ((k : Int) + 1).toNat = k + 1 by omega] at h
            exact h
          have hz : (S.extract k (k + 1)).size = 1 := by
            rw [ByteArray.size_extract]
            omega
          obtain ⟨C, hC⟩ : ∃ C, S.extract k (k + 1) = C := ⟨_, rfl⟩
          simp only [hC] at hslice HX hz
          have hno : ¬ 9223372036854775807 < O.size + C.size := by omega
          clear hC
          go_wp2_with fail
          go_roundw
          case rel => exact ⟨k + 1, O ++ C, by omega, by go_num, rfl, by rw [two_data]; omega, HX, trivial⟩
          case measure => simp [intOf]; omega
        · have HX := Lib.hid (HO.out.trans (sub_out hlt (fun h => h2 h.2)))
          go_wp2_with fail
          go_roundw
          case rel => exact ⟨k + 1, O, by omega, by go_num, rfl, by omega, HX, trivial⟩
          case measure => simp [intOf]; omega
      · have HX := Lib.hid (HO.out.trans (sub_out (n := n) hlt (fun h => h1 h.1)))
        go_wp2_with fail
        go_roundw
        case rel => exact ⟨k + 1, O, by omega, by go_num, rfl, by omega, HX, trivial⟩
        case measure => simp [intOf]; omega
    · have HX := Lib.hid (HO.out.trans (sub_end S x n hlt))
      have c0 := fun o => (HK.alloc o).res.1.1
      have c1 := fun o => (HK.alloc o).res.1.2.1
      have c2 := fun o => (HK.alloc o).res.1.2.2
      have f0 := fun o => (HK.alloc o).res.2.1
      have f1 := fun o => (HK.alloc o).res.2.2.1
      have f2 := fun o => (HK.alloc o).res.2.2.2
      go_wp2_with (go_at_call 42; refine (reftext_any _ _).mono ?_; rintro e w9 ⟨rfl, rfl⟩)
      rw [← HX.out]
      exact bodyPost_ret (v := resV true 0 O 0) (by simp [resV, results, Tryd.results26, go_sem, *]) rfl ⟨rfl, (((HK.alloc _).below.setCell (by simp) _).setCell (by simp) _).setCell (by simp) _⟩

end Go.Proofs.YtfnmepnbbeijhaaDoor

/- THE WALK of the law ValueCalls. -/
import Derived.Test.YtfnmepnbbeijhaaDoorDCallOfS
import Derived.Test.YtfnmepnbbeijhaaDoorDLaws2
namespace Go.Proofs.YtfnmepnbbeijhaaDoor
open Go Go.RowKit

/-- A value as its three parts. -/
abbrev Val := Bool × Int × ByteArray

/-- The cells of a slice of values. -/
def ElsAt (W : World) (b off : Nat) (l : List Val) : Prop :=
  ∀ i (h : i < l.length), W.cell? ⟨b, off + i * 3, none⟩ = some (.bool l[i].1) ∧ W.cell? ⟨b, off + i * 3 + 1, none⟩ = some (.int .i64 l[i].2.1) ∧ W.cell? ⟨b, off + i * 3 + 2, none⟩ = some (.string l[i].2.2)

theorem ElsAt.next {W w1 : World} {b off : Nat} {l : List Val} (h : ElsAt W b off l) (hb : Below W.heap.size W w1) : ElsAt w1 b off l := fun i hi =>
  have e := h i hi
  ⟨(hb.cell (World.block_lt_of_cell? W _ e.1)).trans e.1, (hb.cell (World.block_lt_of_cell? W _ e.2.1)).trans e.2.1, (hb.cell (World.block_lt_of_cell? W _ e.2.2)).trans e.2.2⟩

/-- Both functions answer the same, at every values that are values. -/
theorem calls_same (name : ByteArray) (a : Option Addr) (cap : Nat) (l : List Val) (W : World) (ht : Pow10 W) (hsh : W.ShapedOpen Tryd.prog)
    (ha : 0 < l.length → ∃ b off : Nat, a = some ⟨b, off, none⟩ ∧ ElsAt W b off l) (hv : ∀ i (h : i < l.length), numOk l[i].2.1 ∧ l[i].2.2.size ≤ 200) :
    ∃ (t : Bool) (n : Int) (s : ByteArray) (e : Int), ∀ w1, Below W.heap.size W w1 →
      Calls Tryd.prog 25 #[.string name, .slice a l.length cap] w1 (fun x w' => x = .returned (resV t n s e) ∧ Below w1.heap.size w1 w') ∧
      Calls Tryd.prog 26 #[.string name, .slice a l.length cap] w1 (fun x w' => x = .returned (resV t n s e) ∧ Below w1.heap.size w1 w') := by
  by_cases h1 : name = ⟨#[108, 101, 110, 103, 116, 104]⟩ ∧ l.length = 1
  · obtain ⟨rfl, hl⟩ := h1
    obtain ⟨b, off, rfl, hE⟩ := ha (by omega)
    obtain ⟨k0, z0⟩ := hv 0 (by omega)
    refine ⟨false, (strOf l[0].1 l[0].2.1 l[0].2.2).size, ⟨#[]⟩, 0, fun w1 hb => ?_⟩
    obtain ⟨e0, e1, e2⟩ := hE.next hb 0 (by omega)
    simp only [hl]
    exact ⟨call_length b off cap _ _ _ w1 (ht.mono hb) k0 e0 e1 e2, callof_length b off cap _ _ _ w1 k0 e0 e1 e2⟩
  · by_cases h2 : name = ⟨#[105, 110, 100, 101, 120]⟩ ∧ l.length = 2
    · obtain ⟨rfl, hl⟩ := h2
      obtain ⟨b, off, rfl, hE⟩ := ha (by omega)
      obtain ⟨k0, z0⟩ := hv 0 (by omega)
      obtain ⟨k1, z1⟩ := hv 1 (by omega)
      have s0 := strOf_size l[0].1 l[0].2.1 l[0].2.2 k0 (by omega)
      have s1 := strOf_size l[1].1 l[1].2.1 l[1].2.2 k1 (by omega)
      refine ⟨false, Lib.index (strOf l[0].1 l[0].2.1 l[0].2.2).data.toList (strOf l[1].1 l[1].2.1 l[1].2.2).data.toList + 1, ⟨#[]⟩, 0, fun w1 hb => ?_⟩
      obtain ⟨e0, e1, e2⟩ := hE.next hb 0 (by omega)
      obtain ⟨g0, g1, g2⟩ := hE.next hb 1 (by omega)
      simp only [hl]
      exact ⟨call_index b off cap _ _ _ _ _ _ w1 (ht.mono hb) (shaped_next hsh hb) k0 k1 s0 e0 e1 e2 g0 g1 g2, callof_index b off cap _ _ _ _ _ _ w1 k0 k1 s0 s1 e0 e1 e2 g0 g1 g2⟩
    · by_cases h3 : name = ⟨#[115, 117, 98, 115, 116, 114]⟩ ∧ l.length = 3
      · obtain ⟨rfl, hl⟩ := h3
        obtain ⟨b, off, rfl, hE⟩ := ha (by omega)
        obtain ⟨k0, z0⟩ := hv 0 (by omega)
        obtain ⟨k1, z1⟩ := hv 1 (by omega)
        obtain ⟨k2, z2⟩ := hv 2 (by omega)
        have s0 := strOf_size l[0].1 l[0].2.1 l[0].2.2 k0 (by omega)
        have m1 : l[1].2.2.size ≤ maxLen := by unfold maxLen; omega
        have m2 : l[2].2.2.size ≤ maxLen := by unfold maxLen; omega
        cases hx : numOf l[1].1 l[1].2.1 l[1].2.2 with
        | none =>
          refine ⟨false, 0, ⟨#[]⟩, 3, fun w1 hb => ?_⟩
          obtain ⟨g0, g1, g2⟩ := hE.next hb 1 (by omega)
          obtain ⟨i0, i1, i2⟩ := hE.next hb 2 (by omega)
          simp only [hl]
          exact ⟨call_substr_bad b off cap _ _ _ _ _ _ w1 m1 m2 g0 g1 g2 i0 i1 i2 (Or.inl hx), callof_substr_bad b off cap _ _ _ _ _ _ w1 m1 m2 g0 g1 g2 i0 i1 i2 (Or.inl hx)⟩
        | some x =>
          cases hn : numOf l[2].1 l[2].2.1 l[2].2.2 with
          | none =>
            refine ⟨false, 0, ⟨#[]⟩, 3, fun w1 hb => ?_⟩
            obtain ⟨g0, g1, g2⟩ := hE.next hb 1 (by omega)
            obtain ⟨i0, i1, i2⟩ := hE.next hb 2 (by omega)
            simp only [hl]
            exact ⟨call_substr_bad b off cap _ _ _ _ _ _ w1 m1 m2 g0 g1 g2 i0 i1 i2 (Or.inr hn), callof_substr_bad b off cap _ _ _ _ _ _ w1 m1 m2 g0 g1 g2 i0 i1 i2 (Or.inr hn)⟩
          | some n =>
            have bx := numOf_bd k1 hx
            have bn := numOf_bd k2 hn
            refine ⟨true, 0, (strOf l[0].1 l[0].2.1 l[0].2.2).extract (lowS x (strOf l[0].1 l[0].2.1 l[0].2.2).size) (highS x n (strOf l[0].1 l[0].2.1 l[0].2.2).size), 0, fun w1 hb => ?_⟩
            obtain ⟨e0, e1, e2⟩ := hE.next hb 0 (by omega)
            obtain ⟨g0, g1, g2⟩ := hE.next hb 1 (by omega)
            obtain ⟨i0, i1, i2⟩ := hE.next hb 2 (by omega)
            simp only [hl]
            exact ⟨call_substr b off cap _ _ _ _ _ _ _ _ _ w1 (ht.mono hb) k0 m1 m2 s0 e0 e1 e2 g0 g1 g2 i0 i1 i2 x n hx hn bx.1 bx.2 bn.1 bn.2,
              callof_substr b off cap _ _ _ _ _ _ _ _ _ w1 k0 m1 m2 s0 e0 e1 e2 g0 g1 g2 i0 i1 i2 x n hx hn bx.1 bx.2 bn.1 bn.2⟩
      · exact ⟨false, 0, ⟨#[]⟩, 3, fun w1 _ => ⟨call_other name a l.length cap w1 ⟨h1, h2, h3⟩, callof_other name a l.length cap w1 ⟨h1, h2, h3⟩⟩⟩

set_option maxRecDepth 100000 in
set_option maxHeartbeats 1000000 in
theorem valueCalls_any (name : ByteArray) (a : Option Addr) (cap : Nat) (l : List Val) (w : World) (ht : Pow10 w) (hsh : w.ShapedOpen Tryd.prog)
    (ha : 0 < l.length → ∃ b off : Nat, a = some ⟨b, off, none⟩ ∧ ElsAt w b off l) (hl : l.length ≤ maxLen) :
    Calls Tryd.prog 10 #[.string name, .slice a l.length cap] w fun e w' => e = .returned (.bool true) ∧ Below w.heap.size w w' := by
  unfold maxLen at hl
  have HT := Lib.hid ht
  have HSH := Lib.hid hsh
  have HA := Lib.hid ha
  clear ht hsh ha
  go_enter Tryd.func10, Tryd.ntmps10
  go_wp2_with fail
  go_loopw [5] (fun i wx => ∃ k : Nat, k ≤ l.length ∧ i = .int .i64 k ∧ Hid (∀ j (h : j < l.length), j < k → vfault l[j].1 l[j].2.1 l[j].2.2 = 0) ∧ Kept w wx) (fun i _ => l.length - (intOf i).toNat)
  case atStart => exact ⟨0, Nat.zero_le _, rfl, (show Hid _ from fun j _ hj => absurd hj (Nat.not_lt_zero _)), ⟨Below.refl _ _⟩⟩
  case round =>
    obtain ⟨k, hk, rfl, HN, HK⟩ := hrel
    by_cases hlt : k < l.length
    · obtain ⟨b, off, rfl, hE⟩ := HA.out (by omega)
      obtain ⟨e0, e1, e2⟩ := hE.next HK.h k hlt
      have HV := Lib.hid (fun w1 => fault_any l[k].1 l[k].2.1 l[k].2.2 w1)
      have HN2 : vfault l[k].1 l[k].2.1 l[k].2.2 = 0 → Hid (∀ j (h : j < l.length), j < k + 1 → vfault l[j].1 l[j].2.1 l[j].2.2 = 0) := fun h0 j hj hjk => by
        by_cases e : j = k
        · subst e
          exact h0
        · exact HN.out j hj (by omega)
      generalize vfault l[k].1 l[k].2.1 l[k].2.2 = f at HV HN2
      generalize l[k] = v at e0 e1 e2 HV
      obtain ⟨vt, vn, vs⟩ := v
      dsimp only at e0 e1 e2 HV
      clear hE
      by_cases hf : f = 0
      · have HX := HN2 hf
        subst hf
        clear HN2
        go_wp2_with fail
        refine (HV.out _).mono ?_
        rintro e w1 ⟨rfl, hb⟩
        have HK := HK.next hb
        clear hb e0 e1 e2
        go_wp2_with fail
        go_roundw
        case rel => exact ⟨k + 1, by omega, by go_num, HX, HK⟩
        case measure => simp [intOf]; omega
      · have hq : (f != 0) = true := by simpa using hf
        clear HN2 hf
        go_wp2_with fail
        refine (HV.out _).mono ?_
        rintro e w1 ⟨rfl, hb⟩
        have HK := HK.next hb
        clear hb e0 e1 e2
        go_wp2_with fail
        go_ret
        exact ⟨rfl, HK.h⟩
    · obtain ⟨rt, rn, rs, re, HS⟩ := calls_same name a cap l w HT.out HSH.out HA.out (fun i h => vf_ok (HN.out i h (by omega)))
      have HCS := Lib.hid HS
      clear HS
      unfold resV at HCS
      go_wp2_with fail
      refine (HCS.out _ HK.h).1.mono ?_
      rintro e w1 ⟨rfl, hb⟩
      have HK := HK.next hb
      clear hb
      go_wp2_with fail
      refine (HCS.out _ (HK.alloc _).h).2.mono ?_
      rintro e w2 ⟨rfl, hb⟩
      have X := boxw_start rfl hb
      have HK := (HK.alloc _).next hb
      clear hb
      have c0 := fun o => (boxo X o).1
      have c1 := fun o => (boxo X o).2.1
      have c2 := fun o => (boxo X o).2.2
      go_wp2_with fail
      go_ret
      exact ⟨ret_bool (by simp), (HK.alloc _).h⟩
end Go.Proofs.YtfnmepnbbeijhaaDoor

/- THE WALKS of value.Call: substr; no function. -/
import Derived.Test.YtfnmepnbbeijhaaDoorDCall
namespace Go.Proofs.YtfnmepnbbeijhaaDoor
open Go Go.RowKit

set_option maxRecDepth 100000 in
set_option maxHeartbeats 1000000 in
theorem call_substr (b off cap : Nat) (ta : Bool) (na : Int) (sa : ByteArray) (tb : Bool) (nb : Int) (sb : ByteArray) (tc : Bool) (nc : Int) (sc : ByteArray) (w : World) (ht : Pow10 w) (ha : numOk na) (lb : sb.size ≤ maxLen) (lc : sc.size ≤ maxLen) (hl : (strOf ta na sa).size ≤ 1000000)
    (a0 : w.cell? ⟨b, off, none⟩ = some (.bool ta)) (a1 : w.cell? ⟨b, off + 1, none⟩ = some (.int .i64 na)) (a2 : w.cell? ⟨b, off + 2, none⟩ = some (.string sa))
    (b0 : w.cell? ⟨b, off + 3, none⟩ = some (.bool tb)) (b1 : w.cell? ⟨b, off + 3 + 1, none⟩ = some (.int .i64 nb)) (b2 : w.cell? ⟨b, off + 3 + 2, none⟩ = some (.string sb))
    (c0 : w.cell? ⟨b, off + 6, none⟩ = some (.bool tc)) (c1 : w.cell? ⟨b, off + 6 + 1, none⟩ = some (.int .i64 nc)) (c2 : w.cell? ⟨b, off + 6 + 2, none⟩ = some (.string sc)) (x n : Int) (hx : numOf tb nb sb = some x) (hn : numOf tc nc sc = some n) (x0 : -1099511627776 ≤ x) (x1 : x ≤ 1099511627776) (n0 : -1099511627776 ≤ n) (n1 : n ≤ 1099511627776) :
    Calls Tryd.prog 25 #[.string ⟨#[115, 117, 98, 115, 116, 114]⟩, .slice (some ⟨b, off, none⟩) 3 cap] w fun e w' =>
    e = .returned (resV true 0 ((strOf ta na sa).extract (lowS x (strOf ta na sa).size) (highS x n (strOf ta na sa).size)) 0) ∧ Below w.heap.size w w' := by
  have C1 := fun w1 => num_any tb nb sb lb w1
  have C2 := fun w1 => num_any tc nc sc lc w1
  have B0 := el_alloc b0
  have B1 := el_alloc b1
  have B2 := el_alloc b2
  have E0 := Lib.hid a0
  have E1 := Lib.hid a1
  have E2 := Lib.hid a2
  have G0 := Lib.hid c0
  have G1 := Lib.hid c1
  have G2 := Lib.hid c2
  rw [hx, show numE (some x) = (x, 0) from rfl] at C1
  rw [hn, show numE (some n) = (n, 0) from rfl] at C2
  dsimp only at C1 C2
  have HC1 := Lib.hid C1
  have HC2 := Lib.hid C2
  have HC := Lib.hid fun w1 h => str_ok ta na sa w1 ha h
  have HT := Lib.hid ht
  clear C1 C2 ht ha lb lc hx hn a0 a1 a2 b0 b1 b2 c0 c1 c2
  generalize strOf ta na sa = S at HC hl ⊢
  have hslice : ∀ wx, (Instr.slice 9 (.string S) (some (.int .i64 (min (max x 1) ((S.size : Int) + 1) - 1))) (some (.int .i64 (min (max (x + n) (min (max x 1) ((S.size : Int) + 1))) ((S.size : Int) + 1) - 1))) none).run Tryd.prog wx = .ok (.string (S.extract (lowS x S.size) (highS x n S.size))) wx := fun wx =>
    run_slice_string _ _ _ _ _ _ _ Tryd.underlying9 (by omega) (by omega) (by omega)
  go_enter Tryd.func25, Tryd.ntmps25
  go_wp2_with fail
  refine (HC1.out _).mono ?_
  rintro e w1 ⟨rfl, hb⟩
  have HK := Ca.start.next hb
  clear hb
  have c0 := HK.el G0.out
  have c1 := HK.el G1.out
  have c2 := HK.el G2.out
  go_wp2_with fail
  refine (HC2.out _).mono ?_
  rintro e w2 ⟨rfl, hb⟩
  have HK := HK.next hb
  clear hb c0 c1 c2
  have a0 := HK.el E0.out
  have a1 := HK.el E1.out
  have a2 := HK.el E2.out
  go_wp2_with fail
  refine (HC.out _ (HT.out.mono HK.below)).mono ?_
  rintro e w3 ⟨rfl, hb⟩
  have HK := HK.next hb
  clear hb a0 a1 a2
  have c0 := fun o => (HK.alloc o).res.1.1
  have c1 := fun o => (HK.alloc o).res.1.2.1
  have c2 := fun o => (HK.alloc o).res.1.2.2
  have f0 := fun o => (HK.alloc o).res.2.1
  have f1 := fun o => (HK.alloc o).res.2.2.1
  have f2 := fun o => (HK.alloc o).res.2.2.2
  go_wp2_with (go_at_call 19; refine (text_any _ _).mono ?_; rintro e w2 ⟨rfl, rfl⟩)
  exact bodyPost_ret (v := resV true 0 (S.extract (lowS x S.size) (highS x n S.size)) 0) (by simp [resV, results, Tryd.results25, go_sem, *]) rfl ⟨rfl, (((HK.alloc _).below.setCell (by simp) _).setCell (by simp) _).setCell (by simp) _⟩

/-- Is it no function, with this many values? -/
def callNone (name : ByteArray) (n : Nat) : Prop := ¬ (name = ⟨#[108, 101, 110, 103, 116, 104]⟩ ∧ n = 1) ∧ ¬ (name = ⟨#[105, 110, 100, 101, 120]⟩ ∧ n = 2) ∧ ¬ (name = ⟨#[115, 117, 98, 115, 116, 114]⟩ ∧ n = 3)

theorem int_isnt {n k : Nat} (h : ¬ n = k) : ((n : Int) == (k : Int)) = false := by
  rw [beq_eq_false_iff_ne]
  omega

set_option maxRecDepth 100000 in
set_option maxHeartbeats 1000000 in
theorem call_other (name : ByteArray) (p : Option Addr) (n cap : Nat) (w : World) (h : callNone name n) :
    Calls Tryd.prog 25 #[.string name, .slice p n cap] w fun e w' =>
    e = .returned (resV false 0 ⟨#[]⟩ 3) ∧ Below w.heap.size w w' := by
  obtain ⟨h1, h2, h3⟩ := h
  by_cases q1 : name = ⟨#[108, 101, 110, 103, 116, 104]⟩
  · have hk : ((n : Int) == 1) = false := int_isnt (k := 1) (fun e => h1 ⟨q1, e⟩)
    subst q1
    clear h1 h2 h3
    go_enter Tryd.func25, Tryd.ntmps25
    go_wp2_with fail
    exact bodyPost_ret (v := resV false 0 ⟨#[]⟩ 3) (by simp [resV, results, Tryd.results25, go_sem]) rfl ⟨rfl, (Below.refl _ _).alloc (Nat.le_refl _) _⟩
  by_cases q2 : name = ⟨#[105, 110, 100, 101, 120]⟩
  · have hk : ((n : Int) == 2) = false := int_isnt (k := 2) (fun e => h2 ⟨q2, e⟩)
    subst q2
    clear h1 h2 h3 q1
    go_enter Tryd.func25, Tryd.ntmps25
    go_wp2_with fail
    exact bodyPost_ret (v := resV false 0 ⟨#[]⟩ 3) (by simp [resV, results, Tryd.results25, go_sem]) rfl ⟨rfl, (Below.refl _ _).alloc (Nat.le_refl _) _⟩
  by_cases q3 : name = ⟨#[115, 117, 98, 115, 116, 114]⟩
  · have hk : ((n : Int) == 3) = false := int_isnt (k := 3) (fun e => h3 ⟨q3, e⟩)
    subst q3
    clear h1 h2 h3 q1 q2
    go_enter Tryd.func25, Tryd.ntmps25
    go_wp2_with fail
    exact bodyPost_ret (v := resV false 0 ⟨#[]⟩ 3) (by simp [resV, results, Tryd.results25, go_sem]) rfl ⟨rfl, (Below.refl _ _).alloc (Nat.le_refl _) _⟩
  have t1 := toList_ne q1
  have t2 := toList_ne q2
  have t3 := toList_ne q3
  rw [show (⟨#[108, 101, 110, 103, 116, 104]⟩ : ByteArray).toList = [108, 101, 110, 103, 116, 104] by rw [Lib.toList_data]] at t1
  rw [show (⟨#[105, 110, 100, 101, 120]⟩ : ByteArray).toList = [105, 110, 100, 101, 120] by rw [Lib.toList_data]] at t2
  rw [show (⟨#[115, 117, 98, 115, 116, 114]⟩ : ByteArray).toList = [115, 117, 98, 115, 116, 114] by rw [Lib.toList_data]] at t3
  clear h1 h2 h3 q1 q2 q3
  go_enter Tryd.func25, Tryd.ntmps25
  go_wp2_with fail
  exact bodyPost_ret (v := resV false 0 ⟨#[]⟩ 3) (by simp [resV, results, Tryd.results25, go_sem]) rfl ⟨rfl, (Below.refl _ _).alloc (Nat.le_refl _) _⟩
end Go.Proofs.YtfnmepnbbeijhaaDoor

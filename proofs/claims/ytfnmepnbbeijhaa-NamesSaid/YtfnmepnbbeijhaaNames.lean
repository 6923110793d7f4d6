/- THE WALK of the law Names: the error numbers, kinds and limits are the document's; conditions: none. -/
import Derived.Test.YtfnmepnbbeijhaaVals
import Derived.Lib.SmallJoins
import Derived.Deep.QuietTactic
import Derived.BigQuiet
namespace Go.Proofs.Ytfnmepnbbeijhaa
open Go Go.RowKit

theorem Try.info3 : (Try.prog.info? 3).map (fun i => (i.zero, i.size, i.bytes)) = some (some (.int .i64 0), 1, 8) := by kernel_rfl

def limits : List Value := [.int .i64 6000, .int .i64 8, .int .i64 20, .int .i64 200, .int .i64 1099511627776, .int .i64 20, .int .i64 200, .int .i64 2000, .int .i64 100, .int .i64 200000, .int .i64 8, .int .i64 4000]
def kinds : List Value := [.int .i64 1, .int .i64 2, .int .i64 3, .int .i64 4, .int .i64 5, .int .i64 6, .int .i64 7, .int .i64 8, .int .i64 9, .int .i64 10, .int .i64 11, .int .i64 12, .int .i64 1, .int .i64 2, .int .i64 3, .int .i64 4, .int .i64 5, .int .i64 6, .int .i64 7, .int .i64 8, .int .i64 9, .int .i64 10, .int .i64 0, .int .i64 1, .int .i64 2, .int .i64 0, .int .i64 1, .int .i64 2, .int .i64 3, .int .i64 4, .int .i64 5]

theorem lit_owns {base : Nat} (w : World) (cs : Array Value) (xs : List Value) (n : Nat) (h : cs = xs.toArray) (hn : cs.size = n) (hb : base ≤ w.heap.size) (hm : n ≤ 100) :
    (w.alloc (.cells cs 3)).ownsRow base 3 1 (.slice (some ⟨w.heap.size, 0, none⟩) n n) n xs := by
  subst h
  have := World.ownsRow_lit (base := base) (e := 3) (size := 1) w xs.toArray n hb (by unfold maxLen; omega) (by rw [Nat.mul_one]; exact hn)
  simpa using this

theorem lit_cells (w : World) (cs : Array Value) (xs : List Value) (e : TypeId) (n : Nat) (h : cs = xs.toArray) (hn : n = w.heap.size) :
    ∀ j u, xs[j]? = some u → (w.alloc (.cells cs e)).cell? ((⟨n, 0, none⟩ : Addr).add j) = some u := by
  intro j u hj
  subst h hn
  rw [Addr.add_lit, Nat.zero_add, World.cell?_alloc_mark]
  simpa using hj

def numbers : List Int := [6000, 8, 20, 200, 1099511627776, 20, 200, 2000, 100, 200000, 8, 4000, 1, 2, 3, 4, 5, 6, 7, 8, 9, 10, 11, 12, 1, 2, 3, 4, 5, 6, 7, 8, 9, 10, 0, 1, 2, 0, 1, 2, 3, 4, 5]

theorem numbers_at (k : Nat) (h : k < 43) : ∃ c : Int, (limits ++ kinds)[k]? = some (.int .i64 c) := by
  have e : limits ++ kinds = numbers.map (Value.int .i64) := rfl
  have hl : k < numbers.length := h
  exact ⟨numbers[k], by rw [e, List.getElem?_map, List.getElem?_eq_getElem hl]; rfl⟩

theorem kinds_cell : ∀ u ∈ kinds, u.oneCell' = true := List.all_eq_true.1 (show kinds.all (fun u => u.oneCell') = true from rfl)

theorem owns_apart {w : World} {b b' g g' n m cap c : Nat} {e e' : TypeId} {xs ys : List Value} (h : w.ownsRow b e 1 (.slice (some ⟨g, 0, none⟩) n cap) n xs)
    (h' : w.ownsRow b' e' 1 (.slice (some ⟨g', 0, none⟩) m c) m ys) (hc : c < n) : g ≠ g' := by
  rintro rfl
  obtain ⟨_, ⟨h1, _⟩ | ⟨k, cp, cur, h1, _, h2, h3, _, h4, _⟩⟩ := h
  · cases h1
  obtain ⟨_, ⟨h5, _⟩ | ⟨k', cp', cur', h5, _, h6, _, _, h7, _⟩⟩ := h'
  · cases h5
  simp only [Value.slice.injEq, Option.some.injEq, Addr.mk.injEq, and_true, true_and] at h1 h5
  obtain ⟨rfl, rfl⟩ := h1
  obtain ⟨rfl, rfl⟩ := h5
  rw [h2] at h6
  cases h6
  omega

set_option maxRecDepth 100000 in
set_option maxHeartbeats 800000 in
theorem names_any (w : World) : Calls Try.prog 3 #[] w fun e w' => e = .returned (.bool true) ∧ Below w.heap.size w w' := by
  obtain ⟨i0, hi, hz0, hz1, hz2⟩ := info_parts Try.info3
  go_enter Try.func3, Try.ntmps3
  go_wp2
  go_loopw [2] (fun i wr => ∃ k : Nat, k ≤ 10 ∧ i = .int .i64 k ∧ Hid (∀ j : Nat, j < 10 → wr.cell? ⟨w.heap.size, j, none⟩ = some (.int .i64 j)) ∧ Hid (Below w.heap.size w wr)) (fun i _ => 10 - (intOf i).toNat)
  case atStart =>
    refine ⟨0, by omega, rfl, (show Hid _ from fun j hj => ?_), (show Hid _ from (Below.refl _ _).alloc (Nat.le_refl _) _)⟩
    match j, hj with
    | 0, _ | 1, _ | 2, _ | 3, _ | 4, _ | 5, _ | 6, _ | 7, _ | 8, _ | 9, _ => simp [go_sem]
  case round =>
    obtain ⟨k, hk, rfl, HC, HB⟩ := hrel
    by_cases hlt : k < 10
    · have hcell : wr.cell? ⟨w.heap.size, k, none⟩ = some (.int .i64 k) := HC.out k hlt
      go_wp2_with fail
      go_roundw
      case rel => exact ⟨k + 1, by omega, by go_num, HC, HB⟩
      case measure => simp [intOf]; omega
    · obtain rfl : k = 10 := by omega
      have hsz := HB.out.size
      go_wp2_with (at_builtin; refine wpList_append_own _ rfl (.tmp 21) (.tmp 22) 24 rfl w.heap.size 3 i0 (.int .i64 0) 1 8 Try.underlying24 hi hz0 hz1 hz2 rfl (by decide) _ 12 limits rfl (((lit_owns wr _ limits 12 rfl rfl hsz (by omega)).alloc _).alloc _) ⟨wr.heap.size + 2, 0, none⟩ 31 31 kinds rfl rfl ?c1 ?c2 ?c3 ?c4 ?c5 ?_)
      case c1 => exact lit_cells _ _ kinds 3 _ rfl (by simp)
      case c2 => exact kinds_cell
      case c3 => unfold maxLen; omega
      case c4 => omega
      case c5 => simp; omega
      intro v1 w1 hown1 hgrow1 _
      obtain ⟨g1, cap1, rfl⟩ := Joins.ownsRow_form hown1 (by omega)
      have hown2 : w1.ownsRow w.heap.size 3 1 (.slice (some ⟨wr.heap.size + 1, 0, none⟩) 12 12) 12 limits := by
        refine World.ownsRow.kept (World.ownsRow.alloc ?_ _) hgrow1 (Or.inr (by simp [Value.ownBlock]))
        have := lit_owns (base := w.heap.size) (wr.alloc (.cells (limits.toArray) 3)) limits.toArray limits 12 rfl rfl (by simp; omega) (by omega)
        rw [show (wr.alloc (.cells limits.toArray 3)).heap.size = wr.heap.size + 1 by simp] at this
        exact this
      have hne := owns_apart hown1 hown2 (by omega)
      have hb1 : Below w.heap.size w w1 := HB.out.trans ((((Below.refl _ _).alloc hsz _ |>.alloc (by simp; omega) _).alloc (by simp; omega) _).grown hgrow1 (by simp; omega) (by simp [Value.ownBlock]; omega))
      clear hgrow1 hsz HB HC
      go_wp2_with (at_builtin; refine wpList_append_own _ rfl (.tmp 24) (.tmp 25) 24 rfl w.heap.size 3 i0 (.int .i64 0) 1 8 Try.underlying24 hi hz0 hz1 hz2 rfl (by decide) _ 12 limits rfl (hown2.alloc _) ⟨w1.heap.size, 0, none⟩ 31 31 kinds rfl rfl ?d1 ?d2 ?d3 ?d4 ?d5 ?_)
      case d1 => exact lit_cells _ _ kinds 3 _ rfl rfl
      case d2 => exact kinds_cell
      case d3 => unfold maxLen; omega
      case d4 => omega
      case d5 => simp; have := hb1.size; omega
      intro v2 w2 hown3 hgrow2 _
      obtain ⟨g2, cap2, rfl⟩ := Joins.ownsRow_form hown3 (by omega)
      have hown4 : w2.ownsRow w.heap.size 3 1 (.slice (some ⟨g1, 0, none⟩) 43 cap1) 43 (limits ++ kinds) :=
        (hown1.alloc _).kept hgrow2 (Or.inr (by simp only [Value.ownBlock]; intro e; exact hne (Option.some.inj e)))
      have hb2 : Below w.heap.size w w2 := hb1.trans (((Below.refl _ _).alloc hb1.size _).grown hgrow2 (by simp; have := hb1.size; omega) (by
        intro k hk
        exact (hown2.lt k hk).1))
      have HA := Lib.hid (fun j hj => hown4.cellAt j hj)
      have HD := Lib.hid (fun j hj => hown3.cellAt j hj)
      have HB2 := Lib.hid hb2
      clear hgrow2 hown4 hown3 hown2 hown1 hb1 hb2 hne
      go_wp2_with fail
      go_loopw [5] (fun i wx => ∃ k q : Nat, k ≤ 43 ∧ i = .int .i64 k ∧ wx = w2.drewN q) (fun i _ => 43 - (intOf i).toNat)
      case atStart => exact ⟨0, 0, by omega, rfl, rfl⟩
      case round =>
        obtain ⟨k, q, hk, rfl, rfl⟩ := hrel
        by_cases hlt : k < 43
        · obtain ⟨c, hc⟩ := numbers_at k hlt
          have h1 : w2.cell? ⟨g1, k, none⟩ = some (.int .i64 c) := (HA.out k (by omega)).trans hc
          have h2 : w2.cell? ⟨g2, k, none⟩ = some (.int .i64 c) := (HD.out k (by omega)).trans hc
          have hki : (k : Int) < 43 := by omega
          clear hc
          go_wp2_with fail
          go_quiet (fail)
          go_wp2_with fail
          go_roundw
          case rel => exact ⟨k + 1, _, by omega, by go_num, rfl⟩
          case measure => simp [intOf]; omega
        · obtain rfl : k = 43 := by omega
          go_wp2_with fail
          go_ret
          exact ⟨rfl, Joins.below_le (HB2.out.trans (Joins.below_draws _ _ _)) (Nat.le_refl _)⟩
end Go.Proofs.Ytfnmepnbbeijhaa

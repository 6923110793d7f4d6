/- HOW A SLICE OF VALUES THAT CAME IN IS OPENED. Conditions: none. -/
import Derived.Test.YtfnmepnbbeijhaaDoorDLaws3
import Derived.Test.YtfnmepnbbeijhaaDoorDBase
import Derived.Deep.Slices
import Derived.Deep.Strs
import Derived.Deep.Fields
import Derived.ChangeSame
namespace Go.Proofs.YtfnmepnbbeijhaaDoor
open Go Go.ChangeShapes Go.WideShapes Go.ChangeAt Go.RowKit Go.Deep

section
variable {H : Type} {enc : TypeId × Value → H} {P : Program} {w : World} {base : Nat} {spare : Nat → Bool} {held : Bool}
/-- A slice of structs of one-cell fields, opened to its cells (the guide's extra page on structs, 1). -/
theorem open_slice_fields {t e : TypeId} {fs : Array Field} {fuel : Nat} {cs : List Value} {x : DataW H × List MemPlace} (ht : P.underlying t = some (.slice e)) (he : P.underlying e = some (.struct fs))
    (hone : oneCellFields P fs = true) (hC : P.cellsOf e = fs.size) (h : DataW.trod enc P w base spare held fuel t cs = some x) :
    (cs = [.slice none 0 0]) ∨
    ∃ (a : Addr) (len cap m : Nat), cs = [.slice (some a) len cap] ∧ len ≤ cap ∧ cap ≤ maxLen ∧ m = (if spare a.block then cap else len) ∧
      ∀ i, i < m → ∃ n : Nat,
        ∀ (j : Nat) (f : Field), fs[j]? = some f → ∃ (v : Value) (y : DataW H × List MemPlace), w.cell? (a.add (i * fs.size + j)) = some v ∧ DataW.trod enc P w base spare held n f.type [v] = some y := by
  rcases open_slice ht h with h0 | ⟨a, len, cap, m, n, D, Pl, hcs, hb, hl, hm, hmm, hx, hi⟩
  · exact .inl h0.1
  · refine .inr ⟨a, len, cap, m, hcs, hl, hm, hmm, fun i him => ?_⟩
    obtain ⟨cs', hc, ht'⟩ := hi i him
    rw [hC] at hc
    obtain ⟨ys, n', hn', hy, hlen, hyl, hf⟩ := DataW.trod_struct he ht'
    obtain ⟨_, hcl, hat⟩ := World.cells?_some hc
    refine ⟨n', fun j f hj => ?_⟩
    obtain ⟨ho, hk⟩ := hone_of hone j f hj
    have hjl : j < fs.size := (Array.getElem?_eq_some_iff.1 hj).1
    have hcell := hat j hjl
    have hv : cs'[j]? = some (cs'[j]'(by omega)) := List.getElem?_eq_getElem (by omega)
    have h1 := hf j f hj
    rw [ho, hk] at h1
    have hone' : (cs'.drop j).take 1 = [cs'[j]'(by omega)] := by
      rw [List.drop_eq_getElem_cons (by omega)]
      rfl
    rw [hone'] at h1
    have hys : ys[j]? = some (ys[j]'(by omega)) := List.getElem?_eq_getElem (by omega)
    refine ⟨_, _, ?_, h1.trans hys⟩
    rw [← Go.Deep.add_add, hcell, hv]

theorem addr_plain {a : Addr} {v : Value} (h0 : w.cell? (a.add 0) = some v) : ∃ b off : Nat, a = ⟨b, off, none⟩ ∧ b < w.heap.size ∧ ∀ i, a.add i = ⟨b, off + i, none⟩ := by
  obtain ⟨b, off, spot⟩ := a
  have hspot : spot = none := by simpa [Addr.add] using World.cell?_spot h0
  subst hspot
  exact ⟨b, off, rfl, by simpa [Addr.add] using World.block_lt_of_cell? w _ h0, fun i => Go.WideShapes.add_plain _ _ _⟩
end

/-- A slice of values that came in. -/
theorem open_vals {H : Type} {enc : TypeId × Value → H} {W : World} {n : Nat} {v : Value} {y : DataW H × List MemPlace}
    (h : DataW.trod enc Tryd.prog W 0 (fun _ => true) true n 41 [v] = some y) :
    ∃ (a : Option Addr) (c : Nat) (l : List Val), v = .slice a l.length c ∧ (0 < l.length → ∃ b off : Nat, a = some ⟨b, off, none⟩ ∧ ElsAt W b off l) ∧ l.length ≤ maxLen := by
  rcases open_slice_fields Tryd.underlying41 Tryd.underlying24 (by kernel_rfl) (by kernel_rfl) h with hcs | ⟨a, len, cap, m, hcs, hl, hm, hmm, hc⟩
  · simp only [List.cons.injEq, and_true] at hcs
    subst hcs
    exact ⟨none, 0, [], rfl, fun h => absurd h (Nat.not_lt_zero _), Nat.zero_le _⟩
  · simp only [List.cons.injEq, and_true] at hcs
    subst hcs
    simp only [if_true] at hmm
    subst hmm
    have each : ∀ i, i < len → ∃ x : Val, W.cell? (a.add (i * 3 + 0)) = some (.bool x.1) ∧ W.cell? (a.add (i * 3 + 1)) = some (.int .i64 x.2.1) ∧ W.cell? (a.add (i * 3 + 2)) = some (.string x.2.2) := fun i hi => by
      obtain ⟨n', hf⟩ := hc i (by omega)
      obtain ⟨v0, y0, hc0, ht0⟩ := hf 0 _ rfl
      obtain ⟨v1, y1, hc1, ht1⟩ := hf 1 _ rfl
      obtain ⟨v2, y2, hc2, ht2⟩ := hf 2 _ rfl
      obtain ⟨t, e0, _⟩ := DataW.trod_bool Tryd.underlying4 ht0
      obtain ⟨k, e1, _, _⟩ := DataW.trod_int Tryd.underlying3 ht1
      obtain ⟨s, e2, _, _⟩ := DataW.trod_string Tryd.underlying9 ht2
      simp only [List.cons.injEq, and_true] at e0 e1 e2
      subst e0 e1 e2
      exact ⟨(t, k, s), hc0, hc1, hc2⟩
    obtain ⟨F, hF⟩ := choose_lt each
    have hlen : ((List.range len).map F).length = len := by simp
    refine ⟨some a, m, (List.range len).map F, by rw [hlen], fun h0 => ?_, by rw [hlen]; omega⟩
    rw [hlen] at h0
    obtain ⟨b, off, rfl, hlt, hadd⟩ := addr_plain (by simpa using (hF 0 h0).1)
    refine ⟨b, off, rfl, fun i hi => ?_⟩
    have hi' : i < len := by rw [hlen] at hi; exact hi
    have h1 := hF i hi'
    rw [hadd, hadd, hadd] at h1
    have hg : ((List.range len).map F)[i] = F i := by simp
    rw [hg]
    exact h1
end Go.Proofs.YtfnmepnbbeijhaaDoor

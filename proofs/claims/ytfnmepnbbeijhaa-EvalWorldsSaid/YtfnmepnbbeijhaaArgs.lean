/- HOW SLICES OF STRUCTS AND OF TEXTS THAT CAME IN ARE OPENED. Conditions: none. -/
import Derived.Test.YtfnmepnbbeijhaaBase
import Derived.Test.YtfnmepnbbeijhaaWorld
import Derived.Deep.Slices
import Derived.Deep.Strs
import Derived.Deep.Fields
import Derived.ChangeSame
namespace Go.Proofs.Ytfnmepnbbeijhaa
open Go Go.ChangeShapes Go.WideShapes Go.ChangeAt Go.RowKit Go.Deep

section
variable {H : Type} {enc : TypeId × Value → H} {P : Program} {w : World} {base : Nat} {spare : Nat → Bool} {held : Bool}
/-- A slice of structs of one-cell fields, opened to its cells (the guide's extra page on structs, 1). -/
theorem open_slice_fields {t e : TypeId} {fs : Array Field} {fuel : Nat} {cs : List Value} {x : DataW H × List MemPlace} (ht : P.underlying t = some (.slice e)) (he : P.underlying e = some (.struct fs))
    (hone : oneCellFields P fs = true) (hC : P.cellsOf e = fs.size) (h : DataW.trod enc P w base spare held fuel t cs = some x) :
    (cs = [.slice none 0 0]) ∨
    ∃ (a : Addr) (len cap m : Nat), cs = [.slice (some a) len cap] ∧ len ≤ cap ∧ cap ≤ maxLen ∧ m = (if spare a.block then cap else len) ∧
      ∀ i, i < m → ∃ n : Nat,
        ∀ (j : Nat) (f : Field), fs[j]? = some f → ∃ (v : Value) (y : DataW H × List MemPlace), w.cell? (a.add (i * fs.size + j)) = some v ∧ DataW.trod enc P w base spare held n f.type [v] = some y := by
  rcases open_slice ht h with h0 | ⟨a, len, cap, m, n, D, Pl, hcs, hb, hl, hm, hmm, hx, hi⟩
  · exact .inl h0.1
  · refine .inr ⟨a, len, cap, m, hcs, hl, hm, hmm, fun i him => ?_⟩
    obtain ⟨cs', hc, ht'⟩ := hi i him
    rw [hC] at hc
    obtain ⟨ys, n', hn', hy, hlen, hyl, hf⟩ := DataW.trod_struct he ht'
    obtain ⟨_, hcl, hat⟩ := World.cells?_some hc
    refine ⟨n', fun j f hj => ?_⟩
    obtain ⟨ho, hk⟩ := hone_of hone j f hj
    have hjl : j < fs.size := (Array.getElem?_eq_some_iff.1 hj).1
    have hcell := hat j hjl
    have hv : cs'[j]? = some (cs'[j]'(by omega)) := List.getElem?_eq_getElem (by omega)
    have h1 := hf j f hj
    rw [ho, hk] at h1
    have hone' : (cs'.drop j).take 1 = [cs'[j]'(by omega)] := by
      rw [List.drop_eq_getElem_cons (by omega)]
      rfl
    rw [hone'] at h1
    have hys : ys[j]? = some (ys[j]'(by omega)) := List.getElem?_eq_getElem (by omega)
    refine ⟨_, _, ?_, h1.trans hys⟩
    rw [← Go.Deep.add_add, hcell, hv]

theorem addr_plain {a : Addr} {v : Value} (h0 : w.cell? (a.add 0) = some v) : ∃ b off : Nat, a = ⟨b, off, none⟩ ∧ b < w.heap.size ∧ ∀ i, a.add i = ⟨b, off + i, none⟩ := by
  obtain ⟨b, off, spot⟩ := a
  have hspot : spot = none := by simpa [Addr.add] using World.cell?_spot h0
  subst hspot
  exact ⟨b, off, rfl, by simpa [Addr.add] using World.block_lt_of_cell? w _ h0, fun i => Go.WideShapes.add_plain _ _ _⟩
end

/-- A slice of texts that came in. -/
theorem open_strsAt {H : Type} {enc : TypeId × Value → H} {W : World} {n : Nat} {v : Value} {y : DataW H × List MemPlace}
    (h : DataW.trod enc Try.prog W 0 (fun _ => true) true n 35 [v] = some y) :
    ∃ ss : List ByteArray, StrsAt W v ss ∧ ss.length ≤ maxLen ∧ ∀ i, i < ss.length → (ss.getD i ByteArray.empty).size ≤ maxLen := by
  rcases open_strs Try.underlying35 Try.underlying9 (by kernel_rfl) h with ⟨hcs, _⟩ | ⟨a, len, cap, m, Sx, hcs, _, hl, hm, hmm, _, hc⟩
  · simp only [List.cons.injEq, and_true] at hcs
    subst hcs
    exact ⟨[], ⟨none, 0, rfl, fun h => absurd h (Nat.not_lt_zero _)⟩, Nat.zero_le _, fun i hi => absurd hi (Nat.not_lt_zero _)⟩
  · simp only [List.cons.injEq, and_true] at hcs
    subst hcs
    simp only [if_true] at hmm
    subst hmm
    have hlen : ((List.range len).map Sx).length = len := by simp
    have hget : ∀ i, i < len → ((List.range len).map Sx).getD i ByteArray.empty = Sx i := fun i hi => by simp [List.getD_eq_getElem?_getD, hi]
    refine ⟨(List.range len).map Sx, ⟨some a, m, by rw [hlen], fun h0 => ?_⟩, by rw [hlen]; omega, fun i hi => ?_⟩
    · rw [hlen] at h0
      obtain ⟨b, off, rfl, hlt, hadd⟩ := addr_plain (hc 0 (by omega)).1
      refine ⟨b, off, rfl, hlt, fun i hi => ?_⟩
      rw [hlen] at hi
      rw [hget i hi, ← hadd]
      exact (hc i (by omega)).1
    · rw [hlen] at hi
      rw [hget i hi]
      exact (hc i (by omega)).2

/-- A slice of files that came in. -/
theorem open_files {H : Type} {enc : TypeId × Value → H} {W : World} {n : Nat} {v : Value} {y : DataW H × List MemPlace}
    (h : DataW.trod enc Try.prog W 0 (fun _ => true) true n 34 [v] = some y) :
    ∃ (a : Option Addr) (c : Nat) (fs : List FileL), v = .slice a fs.length c ∧ (0 < fs.length → ∃ b off : Nat, a = some ⟨b, off, none⟩ ∧ FilesAt W b off fs) ∧ fs.length ≤ c ∧ c ≤ maxLen ∧ (∀ j, j < fs.length → fs[j]!.2.2.length ≤ maxLen) ∧
      (∀ j, j < fs.length → ∀ i, i < fs[j]!.2.2.length → (fs[j]!.2.2.getD i ByteArray.empty).size ≤ maxLen) := by
  rcases open_slice_fields Try.underlying34 Try.underlying41 (by kernel_rfl) (by kernel_rfl) h with hcs | ⟨a, len, cap, m, hcs, hl, hm, hmm, hc⟩
  · simp only [List.cons.injEq, and_true] at hcs
    subst hcs
    exact ⟨none, 0, [], rfl, fun h => absurd h (Nat.not_lt_zero _), Nat.le_refl _, Nat.zero_le _, fun j hj => absurd hj (Nat.not_lt_zero _), fun j hj => absurd hj (Nat.not_lt_zero _)⟩
  · simp only [List.cons.injEq, and_true] at hcs
    subst hcs
    simp only [if_true] at hmm
    subst hmm
    have each : ∀ i, i < len → ∃ x : FileL, W.cell? (a.add (i * 2 + 0)) = some (.string x.1) ∧ W.cell? (a.add (i * 2 + 1)) = some x.2.1 ∧ StrsAt W x.2.1 x.2.2 ∧ x.2.2.length ≤ maxLen ∧ ∀ k, k < x.2.2.length → (x.2.2.getD k ByteArray.empty).size ≤ maxLen := fun i hi => by
      obtain ⟨n', hf⟩ := hc i (by omega)
      obtain ⟨v0, y0, hc0, ht0⟩ := hf 0 _ rfl
      obtain ⟨v1, y1, hc1, ht1⟩ := hf 1 _ rfl
      obtain ⟨nm, e0, _, _⟩ := DataW.trod_string Try.underlying9 ht0
      simp only [List.cons.injEq, and_true] at e0
      subst e0
      obtain ⟨ss, hs, hsl, hsz⟩ := open_strsAt ht1
      exact ⟨(nm, v1, ss), hc0, hc1, hs, hsl, hsz⟩
    obtain ⟨F, hF⟩ := choose_lt each
    have hlen : ((List.range len).map F).length = len := by simp
    have hget : ∀ i, i < len → ((List.range len).map F)[i]! = F i := fun i hi => by simp [hi]
    refine ⟨some a, m, (List.range len).map F, by rw [hlen], fun h0 => ?_, by rw [hlen]; exact hl, hm, fun j hj => ?_, fun j hj => ?_⟩
    · rw [hlen] at h0
      obtain ⟨b, off, rfl, hlt, hadd⟩ := addr_plain (by simpa using (hF 0 h0).1)
      refine ⟨b, off, rfl, hlt, fun j hj => ?_⟩
      rw [hlen] at hj
      rw [hget j hj]
      have h1 := hF j hj
      rw [hadd, hadd] at h1
      exact ⟨h1.1, h1.2.1, h1.2.2.1⟩
    · rw [hlen] at hj
      rw [hget j hj]
      exact (hF j hj).2.2.2.1
    · rw [hlen] at hj
      rw [hget j hj]
      exact (hF j hj).2.2.2.2
end Go.Proofs.Ytfnmepnbbeijhaa

/- CLOSED FACTS of the seat's program; what the rows' listed variables give the walks; how a value that came in is opened. Conditions: none. -/
import Derived.Test.YtfnmepnbbeijhaaDoorRows
import Derived.ProofKit
import Derived.Lib.SmallJoins
import Derived.Lib.LaidTab
import Derived.LaidSub
namespace Go.Proofs.YtfnmepnbbeijhaaDoor
open Go Go.ChangeShapes Go.WideShapes Go.ChangeAt Go.RowKit Go.Joins
open Go.ChangeMaps (open_string shut_string)

theorem Tryd.own : ownKnob Tryd.prog.godebug = none := by kernel_rfl
theorem Tryd.laidOut : laidOutB Tryd.prog = true := by kernel_rfl
theorem Tryd.cellsValue : Tryd.prog.cellsOf 24 = 3 := by kernel_rfl

/-- A value that came in: its three parts. -/
theorem open_value {H : Type} {enc : TypeId × Value → H} {W : World} {base : Nat} {v : Value} {d : DataW H} {p : List MemPlace}
    (hv : Value.okWide Tryd.prog W .any base 24 v) (h : DataW.Trod enc Tryd.prog W 0 (fun _ => true) true 24 v d p) :
    ∃ (t : Bool) (n : Int) (s : ByteArray), v = .agg #[.bool t, .int .i64 n, .string s] ∧ p = [] ∧ (Lit.int .i64 n).wf = true ∧ s.size ≤ maxLen := by
  obtain ⟨c0, c1, c2, y0, y1, y2, m, rfl, _, hp, h0, h1, h2⟩ := open_agg3 Tryd.underlying24 (by kernel_rfl) Tryd.cellsValue hv h
  obtain ⟨t, e0, rfl⟩ := DataW.trod_bool Tryd.underlying4 h0
  obtain ⟨n, e1, rfl, wn⟩ := DataW.trod_int Tryd.underlying3 h1
  obtain ⟨s, e2, rfl, ws⟩ := DataW.trod_string Tryd.underlying9 h2
  simp only [List.cons.injEq, and_true] at e0 e1 e2
  subst e0 e1 e2
  exact ⟨t, n, s, rfl, by simpa using hp, wn, ws⟩

theorem int_bd {n : Int} (h : (Lit.int .i64 n).wf = true) : -9223372036854775808 ≤ n ∧ n ≤ 9223372036854775807 := by
  simpa [Lit.wf, IntKind.min, IntKind.max, IntKind.signed, IntKind.bits] using h

/-- An array of texts that reads as these texts holds them, cell for cell. -/
theorem cells_of_texts {H : Type} {enc : TypeId × Value → H} {P : Program} {w : World} {base : Nat} {sp : Nat → Bool} {held : Bool} {fuel : Nat} {t e : TypeId} {n : Nat} {cs : List Value} {ws : List ByteArray} {p : List MemPlace}
    (ht : P.underlying t = some (.array n e)) (he : P.underlying e = some .string) (hce : P.cellsOf e = 1) (hct : P.cellsOf t = n)
    (h : DataW.trod enc P w base sp held fuel t cs = some (.agg (ws.map fun s => .lit (.string s.data.toList)), p)) : cs = ws.map Value.string := by
  obtain ⟨xs, m, rfl, hx, hl, hxl, hel⟩ := DataW.trod_array ht h
  simp only [Prod.mk.injEq, DataW.agg.injEq] at hx
  have hxs := hx.1
  have hwl : ws.length = n := by
    have := congrArg List.length hxs
    simp at this
    omega
  apply List.ext_getElem?
  intro i
  by_cases hi : i < n
  · have hf := hel i hi
    rw [hce, Nat.mul_one] at hf
    have hxi : i < xs.length := by omega
    rw [List.getElem?_eq_getElem hxi] at hf
    obtain ⟨s, hc, hxe, _⟩ := DataW.trod_string he hf
    have h1 : cs[i]? = some (.string s) := by
      have := congrArg (·[0]?) hc
      simpa [List.getElem?_take, List.getElem?_drop] using this
    have h2 := congrArg (·[i]?) hxs
    simp only [List.getElem?_map, List.getElem?_eq_getElem hxi, Option.map_some] at h2
    cases hw : ws[i]? with
    | none => rw [hw] at h2; simp at h2
    | some u =>
      rw [hw, hxe] at h2
      simp only [Option.map_some, Option.some.injEq, DataW.lit.injEq, Lit.string.injEq] at h2
      rw [h1, List.getElem?_map, hw, Option.map_some]
      obtain ⟨⟨a⟩⟩ := s
      obtain ⟨⟨b⟩⟩ := u
      have e : b = a := h2
      rw [e]
  · rw [List.getElem?_eq_none (by rw [hl, hct]; omega), List.getElem?_eq_none (by simp; omega)]

/-- One listed variable out of a row's list. -/
theorem laid_one {P : Program} {W : World} {l : List (String × DataW Unit)} {y : String × DataW Unit} (keep : String × DataW Unit → Bool) (h : laidMetH P l W)
    (hh : (l.filter fun x => x.2.handleName?.isNone) = l) (hk : l.filter keep = [y]) : laidMet P [y] W := by
  have h1 := (laidMetH_iff.1 h).1
  rw [hh] at h1
  have h2 := h1.filter keep
  rw [hk] at h2
  exact h2

theorem texts_laid {P : Program} {W : World} {name : String} {ws : List ByteArray} {g : Nat} {t e : TypeId} {n : Nat} {d : DataW Unit}
    (hg : P.globalNamed name = some g) (hty : (P.globals[g]?).map (·.type) = some t) (ht : P.underlying t = some (.array n e)) (he : P.underlying e = some .string) (hce : P.cellsOf e = 1) (hct : P.cellsOf t = n)
    (hd0 : d = .agg (ws.map fun s => .lit (.string s.data.toList))) (h : laidMet P [(name, d)] W) (j : Nat) (hj : j < ws.length) : W.cell? ⟨g, j, none⟩ = some (.string (ws.getD j ByteArray.empty)) := by
  subst hd0
  obtain ⟨ps, ⟨g', t', cs, fuel, p, q, hg', ht', hvar, hd, _, _⟩, _⟩ := h
  obtain rfl := Option.some.inj (hg.symm.trans hg')
  obtain rfl := Option.some.inj (hty.symm.trans ht')
  have hc := cells_of_texts ht he hce hct hd
  have := World.var?_cell hg hvar j
  rw [this, ← Array.getElem?_toList, hc, List.getElem?_map, List.getD_eq_getElem?_getD, List.getElem?_eq_getElem hj]
  rfl
end Go.Proofs.YtfnmepnbbeijhaaDoor

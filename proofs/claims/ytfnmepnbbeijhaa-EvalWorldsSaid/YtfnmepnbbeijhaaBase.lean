/- CLOSED FACTS of the seat's program, and how a value that came in is opened. Conditions: none. -/
import Derived.Test.YtfnmepnbbeijhaaRows
import Derived.Test.YtfnmepnbbeijhaaGlue
import Derived.Lib.SmallJoins
import Derived.JoinedOf
import Derived.JoinedAt
namespace Go.Proofs.Ytfnmepnbbeijhaa
open Go Go.ChangeShapes Go.WideShapes Go.ChangeAt Go.RowKit Go.Joins
open Go.ChangeMaps (open_string shut_string)

theorem Try.own : ownKnob Try.prog.godebug = none := by kernel_rfl
theorem Try.laidOut : laidOutB Try.prog = true := by kernel_rfl
theorem Try.cellsValue : Try.prog.cellsOf 27 = 3 := by kernel_rfl

/-- A value that came in: its three parts. -/
theorem open_value {H : Type} {enc : TypeId × Value → H} {W : World} {base : Nat} {v : Value} {d : DataW H} {p : List MemPlace}
    (hv : Value.okWide Try.prog W .any base 27 v) (h : DataW.Trod enc Try.prog W 0 (fun _ => true) true 27 v d p) :
    ∃ (t : Bool) (n : Int) (s : ByteArray), v = .agg #[.bool t, .int .i64 n, .string s] ∧ p = [] ∧ (Lit.int .i64 n).wf = true ∧ s.size ≤ maxLen := by
  obtain ⟨c0, c1, c2, y0, y1, y2, m, rfl, _, hp, h0, h1, h2⟩ := open_agg3 Try.underlying27 (by kernel_rfl) Try.cellsValue hv h
  obtain ⟨t, e0, rfl⟩ := DataW.trod_bool Try.underlying4 h0
  obtain ⟨n, e1, rfl, wn⟩ := DataW.trod_int Try.underlying3 h1
  obtain ⟨s, e2, rfl, ws⟩ := DataW.trod_string Try.underlying9 h2
  simp only [List.cons.injEq, and_true] at e0 e1 e2
  subst e0 e1 e2
  exact ⟨t, n, s, rfl, by simpa using hp, wn, ws⟩

end Go.Proofs.Ytfnmepnbbeijhaa

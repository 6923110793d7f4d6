/- THE PLAIN VALUE LAWS PROVED: value.Number, value.Text, value.True and value.Check answer what P1.1 and P1.2 say, at every argument. Conditions: none of ours. -/
import Derived.Test.YtfnmepnbbeijhaaRows
import Derived.Test.YtfnmepnbbeijhaaGlue
import Derived.Test.YtfnmepnbbeijhaaVals
import Derived.Lib.SmallJoins
import Derived.JoinedOf
import Derived.JoinedAt
namespace Go.Proofs.Ytfnmepnbbeijhaa
open Go Go.ChangeShapes Go.WideShapes Go.ChangeAt Go.RowKit Go.Joins
open Go.ChangeMaps (open_string shut_string)

theorem Try.own : ownKnob Try.prog.godebug = none := by kernel_rfl
theorem Try.laidOut : laidOutB Try.prog = true := by kernel_rfl
theorem Try.cellsValue : Try.prog.cellsOf 27 = 3 := by kernel_rfl

/-- A value that came in: its three parts. -/
theorem open_value {H : Type} {enc : TypeId × Value → H} {W : World} {base : Nat} {v : Value} {d : DataW H} {p : List MemPlace}
    (hv : Value.okWide Try.prog W .any base 27 v) (h : DataW.Trod enc Try.prog W 0 (fun _ => true) true 27 v d p) :
    ∃ (t : Bool) (n : Int) (s : ByteArray), v = .agg #[.bool t, .int .i64 n, .string s] ∧ p = [] ∧ (Lit.int .i64 n).wf = true ∧ s.size ≤ maxLen := by
  obtain ⟨c0, c1, c2, y0, y1, y2, m, rfl, _, hp, h0, h1, h2⟩ := open_agg3 Try.underlying27 (by kernel_rfl) Try.cellsValue hv h
  obtain ⟨t, e0, rfl⟩ := DataW.trod_bool Try.underlying4 h0
  obtain ⟨n, e1, rfl, wn⟩ := DataW.trod_int Try.underlying3 h1
  obtain ⟨s, e2, rfl, ws⟩ := DataW.trod_string Try.underlying9 h2
  simp only [List.cons.injEq, and_true] at e0 e1 e2
  subst e0 e1 e2
  exact ⟨t, n, s, rfl, by simpa using hp, wn, ws⟩

set_option maxRecDepth 100000 in
theorem valueNumbers_lifted (os : Os) (started : os.Started) (H : Type) (enc : TypeId × Value → H) :
    ReturnsInHanded {} Try.checked os 4 .any (Rows.valueNumbersSpec.pre6 enc Try.prog Try.f4 Rows.valueNumbersRow.domain false) (Rows.valueNumbersSpec.post enc Try.prog Try.f4 false true false false) := by
  refine glue_law (C := Try.checked) Try.own started (by kernel_rfl) Try.func4 Try.laidOut (by kernel_rfl) rfl Try.underlying4 (by kernel_rfl) (fun l hl => ?_)
    (ChangeSpec.witness6 (enc := enc) (C := Try.checked) false ⟨#[], #[.int .i64 0], []⟩ 8 (by kernel_rfl) (by kernel_rfl) (by kernel_rfl) (by kernel_rfl)) ?_
  · match l, hl with
    | [_], _ => rfl
  intro W base args ds p hval0 hA0 _ _ _
  have hval : ∀ (j : Nat) t v, Try.f4.params[j]? = some t → args[j]? = some v → Value.okWide Try.prog W .any base t v := hval0
  have hA : DataW.TrodAll enc Try.prog W 0 (fun _ => true) true Try.f4.params.toList args.toList ds p := hA0
  rw [Try.params4] at hA hval
  obtain ⟨v0, d0, rfl, rfl, h0⟩ := trodAll_one hA
  obtain ⟨n, rfl, _, _, _⟩ := open_int Try.underlying3 (hval 0 3 v0 rfl rfl) h0
  exact numbers_any n W

theorem valueNumbers_holds : Rows.ValueNumbersSaid :=
  OpenClaim.holds_of_wide 4 Try.f4 rfl rfl rfl rfl rfl rfl rfl ⟨rfl, rfl, rfl, rfl, rfl⟩ rfl rfl rfl rfl rfl (by kernel_rfl) Try.func4 (by kernel_rfl)
    (of_decide_eq_true (by kernel_rfl)) (by unfold Func.isWrapper; rw [if_neg (by decide +kernel)]; exact ⟨rfl, rfl⟩)
    (fun os started H enc _ => valueNumbers_lifted os started H enc)

set_option maxRecDepth 100000 in
theorem valueTexts_lifted (os : Os) (started : os.Started) (H : Type) (enc : TypeId × Value → H) :
    ReturnsInHanded {} Try.checked os 5 .any (Rows.valueTextsSpec.pre6 enc Try.prog Try.f5 Rows.valueTextsRow.domain false) (Rows.valueTextsSpec.post enc Try.prog Try.f5 false true false false) := by
  refine glue_law (C := Try.checked) Try.own started (by kernel_rfl) Try.func5 Try.laidOut (by kernel_rfl) rfl Try.underlying4 (by kernel_rfl) (fun l hl => ?_)
    (ChangeSpec.witness6 (enc := enc) (C := Try.checked) false ⟨#[], #[.string ⟨#[]⟩], []⟩ 8 (by kernel_rfl) (by kernel_rfl) (by kernel_rfl) (by kernel_rfl)) ?_
  · match l, hl with
    | [_], _ => rfl
  intro W base args ds p hval0 hA0 _ _ _
  have hval : ∀ (j : Nat) t v, Try.f5.params[j]? = some t → args[j]? = some v → Value.okWide Try.prog W .any base t v := hval0
  have hA : DataW.TrodAll enc Try.prog W 0 (fun _ => true) true Try.f5.params.toList args.toList ds p := hA0
  rw [Try.params5] at hA hval
  obtain ⟨v0, d0, rfl, rfl, h0⟩ := trodAll_one hA
  obtain ⟨s, rfl, _, _, _⟩ := open_string Try.underlying9 (hval 0 9 v0 rfl rfl) h0
  exact texts_any s W

theorem valueTexts_holds : Rows.ValueTextsSaid :=
  OpenClaim.holds_of_wide 5 Try.f5 rfl rfl rfl rfl rfl rfl rfl ⟨rfl, rfl, rfl, rfl, rfl⟩ rfl rfl rfl rfl rfl (by kernel_rfl) Try.func5 (by kernel_rfl)
    (of_decide_eq_true (by kernel_rfl)) (by unfold Func.isWrapper; rw [if_neg (by decide +kernel)]; exact ⟨rfl, rfl⟩)
    (fun os started H enc _ => valueTexts_lifted os started H enc)

set_option maxRecDepth 100000 in
theorem valueTrues_lifted (os : Os) (started : os.Started) (H : Type) (enc : TypeId × Value → H) :
    ReturnsInHanded {} Try.checked os 6 .any (Rows.valueTruesSpec.pre6 enc Try.prog Try.f6 Rows.valueTruesRow.domain false) (Rows.valueTruesSpec.post enc Try.prog Try.f6 false true false false) := by
  refine glue_law (C := Try.checked) Try.own started (by kernel_rfl) Try.func6 Try.laidOut (by kernel_rfl) rfl Try.underlying4 (by kernel_rfl) (fun l hl => ?_)
    (ChangeSpec.witness6 (enc := enc) (C := Try.checked) false ⟨#[], #[.agg #[.bool false, .int .i64 0, .string ⟨#[]⟩]], []⟩ 8 (by kernel_rfl) (by kernel_rfl) (by kernel_rfl) (by kernel_rfl)) ?_
  · match l, hl with
    | [_], _ => rfl
  intro W base args ds p hval0 hA0 _ _ _
  have hval : ∀ (j : Nat) t v, Try.f6.params[j]? = some t → args[j]? = some v → Value.okWide Try.prog W .any base t v := hval0
  have hA : DataW.TrodAll enc Try.prog W 0 (fun _ => true) true Try.f6.params.toList args.toList ds p := hA0
  rw [Try.params6] at hA hval
  obtain ⟨v0, d0, rfl, rfl, h0⟩ := trodAll_one hA
  obtain ⟨t, n, s, rfl, _, _, _⟩ := open_value (hval 0 27 v0 rfl rfl) h0
  exact trues_any t n s W

theorem valueTrues_holds : Rows.ValueTruesSaid :=
  OpenClaim.holds_of_wide 6 Try.f6 rfl rfl rfl rfl rfl rfl rfl ⟨rfl, rfl, rfl, rfl, rfl⟩ rfl rfl rfl rfl rfl (by kernel_rfl) Try.func6 (by kernel_rfl)
    (of_decide_eq_true (by kernel_rfl)) (by unfold Func.isWrapper; rw [if_neg (by decide +kernel)]; exact ⟨rfl, rfl⟩)
    (fun os started H enc _ => valueTrues_lifted os started H enc)

set_option maxRecDepth 100000 in
theorem valueChecks_lifted (os : Os) (started : os.Started) (H : Type) (enc : TypeId × Value → H) :
    ReturnsInHanded {} Try.checked os 7 .any (Rows.valueChecksSpec.pre6 enc Try.prog Try.f7 Rows.valueChecksRow.domain false) (Rows.valueChecksSpec.post enc Try.prog Try.f7 false true false false) := by
  refine glue_law (C := Try.checked) Try.own started (by kernel_rfl) Try.func7 Try.laidOut (by kernel_rfl) rfl Try.underlying4 (by kernel_rfl) (fun l hl => ?_)
    (ChangeSpec.witness6 (enc := enc) (C := Try.checked) false ⟨#[], #[.agg #[.bool false, .int .i64 0, .string ⟨#[]⟩]], []⟩ 8 (by kernel_rfl) (by kernel_rfl) (by kernel_rfl) (by kernel_rfl)) ?_
  · match l, hl with
    | [_], _ => rfl
  intro W base args ds p hval0 hA0 _ _ _
  have hval : ∀ (j : Nat) t v, Try.f7.params[j]? = some t → args[j]? = some v → Value.okWide Try.prog W .any base t v := hval0
  have hA : DataW.TrodAll enc Try.prog W 0 (fun _ => true) true Try.f7.params.toList args.toList ds p := hA0
  rw [Try.params7] at hA hval
  obtain ⟨v0, d0, rfl, rfl, h0⟩ := trodAll_one hA
  obtain ⟨t, n, s, rfl, _, _, _⟩ := open_value (hval 0 27 v0 rfl rfl) h0
  exact checks_any t n s W

theorem valueChecks_holds : Rows.ValueChecksSaid :=
  OpenClaim.holds_of_wide 7 Try.f7 rfl rfl rfl rfl rfl rfl rfl ⟨rfl, rfl, rfl, rfl, rfl⟩ rfl rfl rfl rfl rfl (by kernel_rfl) Try.func7 (by kernel_rfl)
    (of_decide_eq_true (by kernel_rfl)) (by unfold Func.isWrapper; rw [if_neg (by decide +kernel)]; exact ⟨rfl, rfl⟩)
    (fun os started H enc _ => valueChecks_lifted os started H enc)

#print axioms valueNumbers_holds
#print axioms valueTexts_holds
#print axioms valueTrues_holds
#print axioms valueChecks_holds
end Go.Proofs.Ytfnmepnbbeijhaa

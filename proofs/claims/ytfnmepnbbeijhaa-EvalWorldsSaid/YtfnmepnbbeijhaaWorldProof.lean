/- THE LAW EvalWorlds PROVED: eval.CheckWorld answers what P3.1 says, at every argument. Conditions: none of ours. -/
import Derived.Test.YtfnmepnbbeijhaaArgs
namespace Go.Proofs.Ytfnmepnbbeijhaa
open Go Go.ChangeShapes Go.WideShapes Go.ChangeAt Go.RowKit Go.Joins

set_option maxRecDepth 100000 in
theorem evalWorlds_lifted (os : Os) (started : os.Started) (H : Type) (enc : TypeId × Value → H) :
    ReturnsInHanded {} Try.checked os 8 .any (Rows.evalWorldsSpec.pre6 enc Try.prog Try.f8 Rows.evalWorldsRow.domain false) (Rows.evalWorldsSpec.post enc Try.prog Try.f8 false true false false) := by
  refine glue_law (C := Try.checked) Try.own started (by kernel_rfl) Try.func8 Try.laidOut (by kernel_rfl) rfl Try.underlying4 (by kernel_rfl) (fun l hl => ?_)
    (ChangeSpec.witness6 (enc := enc) (C := Try.checked) false ⟨#[], #[.slice none 0 0, .slice none 0 0], []⟩ 8 (by kernel_rfl) (by kernel_rfl) (by kernel_rfl) (by kernel_rfl)) ?_
  · match l, hl with
    | [_, _], _ => rfl
  intro W base args ds p hval0 hA0 _ _ _
  have hval : ∀ (j : Nat) t v, Try.f8.params[j]? = some t → args[j]? = some v → Value.okWide Try.prog W .any base t v := hval0
  have hA : DataW.TrodAll enc Try.prog W 0 (fun _ => true) true Try.f8.params.toList args.toList ds p := hA0
  rw [Try.params8] at hA hval
  obtain ⟨v0, v1, d0, d1, p0, p1, rfl, rfl, rfl, h0, h1⟩ := trodAll_two hA
  obtain ⟨a0, n0, c0, rfl⟩ := okWide_slice Try.underlying34 (hval 0 34 v0 rfl rfl)
  obtain ⟨a1, n1, c1, rfl⟩ := okWide_slice Try.underlying35 (hval 1 35 v1 rfl rfl)
  obtain ⟨f0, h0⟩ := h0
  obtain ⟨f1, h1⟩ := h1
  obtain ⟨a, c, fs, e, hf, hc, hcm, hm, hsz⟩ := open_files h0
  obtain ⟨lines, hl, hlm, hlz⟩ := open_strsAt h1
  rw [e]
  exact evalWorlds_any a c fs _ lines W hf hl hc hcm hlm hm hsz hlz

theorem evalWorlds_holds : Rows.EvalWorldsSaid :=
  OpenClaim.holds_of_wide 8 Try.f8 rfl rfl rfl rfl rfl rfl rfl ⟨rfl, rfl, rfl, rfl, rfl⟩ rfl rfl rfl rfl rfl (by kernel_rfl) Try.func8 (by kernel_rfl)
    (of_decide_eq_true (by kernel_rfl)) (by unfold Func.isWrapper; rw [if_neg (by decide +kernel)]; exact ⟨rfl, rfl⟩)
    (fun os started H enc _ => evalWorlds_lifted os started H enc)

#print axioms evalWorlds_holds
end Go.Proofs.Ytfnmepnbbeijhaa

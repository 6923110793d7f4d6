/- What is put together is as long as both, and both are found there. Conditions: none of ours; the listed package-level variables are tied to the program's text by the given tie. -/
import Derived.Test.YtfnmepnbbeijhaaDoorRows
import Derived.Test.YtfnmepnbbeijhaaDoorCards
import Derived.Test.YtfnmepnbbeijhaaDoorTie
import Derived.Test.YtfnmepnbbeijhaaDoorDGlue
import Derived.Test.YtfnmepnbbeijhaaDoorDBase
import Derived.Test.YtfnmepnbbeijhaaDoorDJoin
namespace Go.Proofs.YtfnmepnbbeijhaaDoor
open Go Go.ChangeShapes Go.WideShapes Go.ChangeAt Go.RowKit Go.Joins
open Go.ChangeMaps (open_string shut_string)

set_option maxRecDepth 100000 in
theorem joined_lifted (os : Os) (started : os.Started) (H : Type) (enc : TypeId × Value → H) :
    ReturnsInHanded {} Tryd.checked os 11 .any (fun w args => (Rows.joinedSpec.pre enc Tryd.prog Tryd.f11 [] false w args ∧ laidMetH Tryd.prog Rows.joinedRow.laid w) ∧ sizedMet enc Tryd.prog Tryd.f11 (OpenSpec.ofChange Rows.joinedSpec) false w args)
      (Rows.joinedSpec.post enc Tryd.prog Tryd.f11 false true false false) := by
  refine glue_law_laid (C := Tryd.checked) (laid := Rows.joinedRow.laid) Tryd.own started (by kernel_rfl) Tryd.func11 Tryd.laidOut (by kernel_rfl) rfl Tryd.underlying4 (by kernel_rfl) (fun l hl => ?_)
    (ChangeSpec.witness_shaped (enc := enc) (C := Tryd.checked) (os := os) (X := fun w _ => laidMetH Tryd.prog Rows.joinedRow.laid w) false (World.laidAll Tryd.prog os Rows.joinedRow.laid) #[.string ⟨#[]⟩, .string ⟨#[]⟩] 8 (World.laidAll_os _ _ _)
      (World.shaped_of_ZipB (by kernel_rfl) (by kernel_rfl)) (by kernel_rfl) (by kernel_rfl) (by kernel_rfl)
      (by rw [MakeChecks.laidMetH_plain _ _ _ (by kernel_rfl)]; exact laidMet_laidAll _ (by kernel_rfl) (by kernel_rfl))) ?_
  · match l, hl with
    | [_, _], _ => rfl
  intro W base args ds p hval0 hA0 hlt hz hsh hL
  have hval : ∀ (j : Nat) t v, Tryd.f11.params[j]? = some t → args[j]? = some v → Value.okWide Tryd.prog W .any base t v := hval0
  have hA : DataW.TrodAll enc Tryd.prog W 0 (fun _ => true) true Tryd.f11.params.toList args.toList ds p := hA0
  rw [Tryd.params11] at hA hval
  clear hval0 hA0
  obtain ⟨v0, v1, d0, d1, p0, p1, rfl, rfl, rfl, h0, h1⟩ := trodAll_two hA
  obtain ⟨s, rfl, _, _, _⟩ := open_string Tryd.underlying9 (hval 0 9 v0 rfl rfl) h0
  obtain ⟨t, rfl, _, _, _⟩ := open_string Tryd.underlying9 (hval 1 9 v1 rfl rfl) h1
  have ht : Pow10 W := Lib.tabIs_of_head (zs := Lib.pow10Tab) (g := 2) (by kernel_rfl) (by kernel_rfl) Tryd.underlying85 Tryd.underlying75 (by kernel_rfl) (by kernel_rfl)
    (laid_one (y := ("internal/strconv.uint64pow10", Lib.tabData .u64 Lib.pow10Tab)) (fun x => x.1 == "internal/strconv.uint64pow10") hL (by kernel_rfl) (by kernel_rfl))
  exact joined_any s t W ht hsh

theorem joined_holds : Rows.JoinedSaid :=
  OpenClaim.holds_of_wide 11 Tryd.f11 rfl rfl rfl rfl rfl rfl rfl ⟨rfl, rfl, rfl, rfl, rfl⟩ rfl rfl rfl rfl rfl (by kernel_rfl) Tryd.func11 (by kernel_rfl)
    (of_decide_eq_true (by kernel_rfl)) (by unfold Func.isWrapper; rw [if_neg (by decide +kernel)]; exact ⟨rfl, rfl⟩)
    (fun os started H enc _ => joined_lifted os started H enc)

theorem joined_card : Rows.JoinedCardSaid :=
  Claim7.holds_tied_plain_at .later [] [.data, .data, .data, .data, .pinned] true (true, "c647cdcdfd6695929bd46e162bd539d5d4d46e1dd183a17dcbbad88a801da498") false
    joined_holds (fun _ h => by cases h) (by kernel_rfl) (fun _ h => by cases h) joined_row_tie rfl ⟨rfl, rfl⟩ (by kernel_rfl) rfl
    (fun f fn hf hfn => by
      obtain rfl : f = 11 := Option.some.inj ((show Tryd.prog.funcNamed Rows.joinedRow.func = some 11 by kernel_rfl).symm.trans hf) |>.symm
      obtain rfl : fn = Tryd.f11 := (Option.some.inj (Tryd.func11.symm.trans hfn)).symm
      exact ⟨by kernel_rfl, fun j t ht => by
        rw [Tryd.params11] at ht
        have hm : t ∈ [9, 9] := by simpa using Array.mem_of_getElem? ht
        have hall : ([9, 9].all fun u => !Tryd.prog.wantsStandIn u) = true := by kernel_rfl
        exact (show Tryd.prog.wantsStandIn t = false by simpa using List.all_eq_true.1 hall t hm)⟩)
    (by kernel_rfl)

#print axioms joined_card
end Go.Proofs.YtfnmepnbbeijhaaDoor

/- InfosTimes: times that do not rise, and such as are never, are the chapter's, too. For any acts, any times. -/
import Derived.Test.YtfldoihindbdmaaG28
import Derived.Test.YtfldoihindbdmaaG25
import Derived.Test.YtfldoihindbdmaaG29
import Derived.Test.YtfldoihindbdmaaRows
namespace Go.Proofs.Ytfldoihindbdmaa
open Go.ChangeShapes Go.WideShapes Go.ChangeAt Go.RowKit Go.Deep
set_option maxRecDepth 100000
theorem ownInfosTimes : ownKnob Try.prog.godebug = none := by kernel_rfl
theorem laidOutInfosTimes : laidOutB Try.prog = true := by kernel_rfl
theorem readInfosTimes : ∀ t ∈ Try.f7.params.toList, Try.prog.readableRec t = true ∧ t < Try.prog.types.size := fun t ht => by
  have h := List.all_eq_true.1 (show (Try.f7.params.toList.all fun t => Try.prog.readableRec t && decide (t < Try.prog.types.size)) = true by kernel_rfl) t ht
  simpa using h
theorem contractInfosTimes (H : Type) (enc : TypeId × Value → H) (W : World) (base : Nat) (args : Array Value) (ds gs : List (DataW H)) (before : List MemPlace)
    (hval : ∀ (j : Nat) t v, Try.f7.params[j]? = some t → args[j]? = some v → Value.okWide Try.prog W .any base t v)
    (hW : DataW.Whole enc Try.prog Try.f7.params.toList Rows.infosTimesSpec.vars false W args.toList ds gs before) :
    Calls Try.prog 7 args W fun e W' => ∃ v, e = .returned v ∧ Rows.infosTimesSpec.post enc Try.prog Try.f7 false true false false W args v W' := by
  have hW' := hW
  obtain ⟨p, q, hA0, hV, _, _, _⟩ := hW
  have hA : DataW.TrodAll enc Try.prog W 0 (fun _ => true) true Try.f7.params.toList args.toList ds p := hA0
  rw [Try.params7] at hA hval
  obtain ⟨v0, vs0, d0, ds0, p0, q0, hargs, rfl, rfl, h0, r0⟩ := trodAll_cons hA
  obtain ⟨v1, vs1, d1, ds1, p1, q1, rfl, rfl, rfl, h1, r1⟩ := trodAll_cons r0
  obtain ⟨rfl, rfl, rfl⟩ := trodAll_nil r1
  obtain rfl : args = #[v0, v1] := by cases args; simp_all
  obtain ⟨A, l, c, rfl, hAa, hAc, hAl⟩ := open_acts (hval 0 55 v0 rfl rfl) h0
  obtain ⟨PA, ws, pc, rfl, hR, hL⟩ := open_words2 (hval 1 49 v1 rfl rfl) h1
  exact law_calls hW' rfl rfl rfl rfl rfl Try.underlying4 laidOutInfosTimes readInfosTimes (infosTimes_walk A l c PA ws pc W hAa hAl hR hL)
set_option maxRecDepth 100000 in
theorem liftedInfosTimes (os : Os) (started : os.Started) (H : Type) (enc : TypeId × Value → H) :
    ReturnsInHanded {} Try.checked os 7 .any (Rows.infosTimesSpec.pre6 enc Try.prog Try.f7 Rows.infosTimesRow.domain false) (Rows.infosTimesSpec.post enc Try.prog Try.f7 false true false false) := by
  refine returnsInHanded_of_change (C := Try.checked) ownInfosTimes started (by kernel_rfl) Try.func7
    (ChangeSpec.witness6 (enc := enc) (C := Try.checked) false ⟨#[], #[.slice none 0 0, .slice none 0 0], []⟩ 8 (by kernel_rfl) (by kernel_rfl) (by kernel_rfl) (by kernel_rfl)) ?_
  intro W base args ds gs before hval hW _ _
  exact contractInfosTimes H enc W base args ds gs before hval hW
theorem saidInfosTimes : Rows.InfosTimesSaid :=
  OpenClaim.holds_of_wide 7 Try.f7 rfl rfl rfl rfl rfl rfl rfl ⟨rfl, rfl, rfl, rfl, rfl⟩ rfl rfl rfl rfl rfl (by kernel_rfl) Try.func7 (by kernel_rfl)
    (of_decide_eq_true (by kernel_rfl)) (by unfold Func.isWrapper; first | (rw [if_pos (by decide +kernel)]; kernel_rfl) | (rw [if_neg (by decide +kernel)]; exact ⟨rfl, rfl⟩))
    (fun os started H enc _ => liftedInfosTimes os started H enc)
#print axioms saidInfosTimes
end Go.Proofs.Ytfldoihindbdmaa

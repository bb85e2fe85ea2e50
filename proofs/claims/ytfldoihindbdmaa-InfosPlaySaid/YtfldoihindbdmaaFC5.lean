/- InfosPlay: whatever comes, whatever words there are, each request, and each answer, is the chapter's. For any mac, any acts, any words. -/
import Derived.Test.YtfldoihindbdmaaG27
import Derived.Test.YtfldoihindbdmaaG25
import Derived.Test.YtfldoihindbdmaaG29
import Derived.Test.YtfldoihindbdmaaRows
namespace Go.Proofs.Ytfldoihindbdmaa
open Go.ChangeShapes Go.WideShapes Go.ChangeAt Go.RowKit Go.Deep
set_option maxRecDepth 100000
theorem ownInfosPlay : ownKnob Try.prog.godebug = none := by kernel_rfl
theorem laidOutInfosPlay : laidOutB Try.prog = true := by kernel_rfl
theorem readInfosPlay : ∀ t ∈ Try.f8.params.toList, Try.prog.readableRec t = true ∧ t < Try.prog.types.size := fun t ht => by
  have h := List.all_eq_true.1 (show (Try.f8.params.toList.all fun t => Try.prog.readableRec t && decide (t < Try.prog.types.size)) = true by kernel_rfl) t ht
  simpa using h
theorem contractInfosPlay (H : Type) (enc : TypeId × Value → H) (W : World) (base : Nat) (args : Array Value) (ds gs : List (DataW H)) (before : List MemPlace)
    (hval : ∀ (j : Nat) t v, Try.f8.params[j]? = some t → args[j]? = some v → Value.okWide Try.prog W .any base t v)
    (hW : DataW.Whole enc Try.prog Try.f8.params.toList Rows.infosPlaySpec.vars false W args.toList ds gs before) :
    Calls Try.prog 8 args W fun e W' => ∃ v, e = .returned v ∧ Rows.infosPlaySpec.post enc Try.prog Try.f8 false true false false W args v W' := by
  have hW' := hW
  obtain ⟨p, q, hA0, hV, _, _, _⟩ := hW
  have hA : DataW.TrodAll enc Try.prog W 0 (fun _ => true) true Try.f8.params.toList args.toList ds p := hA0
  rw [Try.params8] at hA hval
  obtain ⟨v0, vs0, d0, ds0, p0, q0, hargs, rfl, rfl, h0, r0⟩ := trodAll_cons hA
  obtain ⟨v1, vs1, d1, ds1, p1, q1, rfl, rfl, rfl, h1, r1⟩ := trodAll_cons r0
  obtain ⟨v2, vs2, d2, ds2, p2, q2, rfl, rfl, rfl, h2, r2⟩ := trodAll_cons r1
  obtain ⟨rfl, rfl, rfl⟩ := trodAll_nil r2
  obtain rfl : args = #[v0, v1, v2] := by cases args; simp_all
  obtain ⟨ml, hml, rfl⟩ := open_bytes Try.underlying28 Try.underlying5 (by kernel_rfl) (by kernel_rfl) (hval 0 28 v0 rfl rfl) h0
  obtain ⟨a0, a1, a2, a3, a4, a5, rfl⟩ := list_six ml hml
  obtain ⟨A, l, c, rfl, hAa, hAc, hAl⟩ := open_acts (hval 1 55 v1 rfl rfl) h1
  obtain ⟨PA, ws, pc, rfl, hR, hL⟩ := open_words2 (hval 2 49 v2 rfl rfl) h2
  exact law_calls hW' rfl rfl rfl rfl rfl Try.underlying4 laidOutInfosPlay readInfosPlay (infosPlay_walk a0 a1 a2 a3 a4 a5 A l c PA ws pc W hAa hAl hR hL)
set_option maxRecDepth 100000 in
theorem liftedInfosPlay (os : Os) (started : os.Started) (H : Type) (enc : TypeId × Value → H) :
    ReturnsInHanded {} Try.checked os 8 .any (Rows.infosPlaySpec.pre6 enc Try.prog Try.f8 Rows.infosPlayRow.domain false) (Rows.infosPlaySpec.post enc Try.prog Try.f8 false true false false) := by
  refine returnsInHanded_of_change (C := Try.checked) ownInfosPlay started (by kernel_rfl) Try.func8
    (ChangeSpec.witness6 (enc := enc) (C := Try.checked) false ⟨#[], #[.agg #[B 0, B 0, B 0, B 0, B 0, B 0], .slice none 0 0, .slice none 0 0], []⟩ 8 (by kernel_rfl) (by kernel_rfl) (by kernel_rfl) (by kernel_rfl)) ?_
  intro W base args ds gs before hval hW _ _
  exact contractInfosPlay H enc W base args ds gs before hval hW
theorem saidInfosPlay : Rows.InfosPlaySaid :=
  OpenClaim.holds_of_wide 8 Try.f8 rfl rfl rfl rfl rfl rfl rfl ⟨rfl, rfl, rfl, rfl, rfl⟩ rfl rfl rfl rfl rfl (by kernel_rfl) Try.func8 (by kernel_rfl)
    (of_decide_eq_true (by kernel_rfl)) (by unfold Func.isWrapper; first | (rw [if_pos (by decide +kernel)]; kernel_rfl) | (rw [if_neg (by decide +kernel)]; exact ⟨rfl, rfl⟩))
    (fun os started H enc _ => liftedInfosPlay os started H enc)
#print axioms saidInfosPlay
end Go.Proofs.Ytfldoihindbdmaa

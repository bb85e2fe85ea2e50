/- InfosOther: an answer of another transaction, or another kind, changes nothing; one that may be ends the asking, and it rests till it is refreshed. For any word, any other one, any time of refreshing. -/
import Derived.Test.YtfldoihindbdmaaF18
import Derived.Test.YtfldoihindbdmaaL9
import Derived.Test.YtfldoihindbdmaaRows
namespace Go.Proofs.Ytfldoihindbdmaa
open Go.ChangeShapes Go.WideShapes Go.ChangeAt Go.RowKit Go.Deep
set_option maxRecDepth 100000
theorem ownInfosOther : ownKnob Try.prog.godebug = none := by kernel_rfl
theorem laidOutInfosOther : laidOutB Try.prog = true := by kernel_rfl
theorem readInfosOther : ∀ t ∈ Try.f6.params.toList, Try.prog.readableRec t = true ∧ t < Try.prog.types.size := fun t ht => by
  have h := List.all_eq_true.1 (show (Try.f6.params.toList.all fun t => Try.prog.readableRec t && decide (t < Try.prog.types.size)) = true by kernel_rfl) t ht
  simpa using h
theorem contractInfosOther (H : Type) (enc : TypeId × Value → H) (W : World) (base : Nat) (args : Array Value) (ds gs : List (DataW H)) (before : List MemPlace)
    (hval : ∀ (j : Nat) t v, Try.f6.params[j]? = some t → args[j]? = some v → Value.okWide Try.prog W .any base t v)
    (hW : DataW.Whole enc Try.prog Try.f6.params.toList Rows.infosOtherSpec.vars false W args.toList ds gs before) :
    Calls Try.prog 6 args W fun e W' => ∃ v, e = .returned v ∧ Rows.infosOtherSpec.post enc Try.prog Try.f6 false true false false W args v W' := by
  have hW' := hW
  obtain ⟨p, q, hA0, hV, _, _, _⟩ := hW
  have hA : DataW.TrodAll enc Try.prog W 0 (fun _ => true) true Try.f6.params.toList args.toList ds p := hA0
  rw [Try.params6] at hA hval
  obtain ⟨v0, vs0, d0, ds0, p0, q0, hargs, rfl, rfl, h0, r0⟩ := trodAll_cons hA
  obtain ⟨v1, vs1, d1, ds1, p1, q1, rfl, rfl, rfl, h1, r1⟩ := trodAll_cons r0
  obtain ⟨v2, vs2, d2, ds2, p2, q2, rfl, rfl, rfl, h2, r2⟩ := trodAll_cons r1
  obtain ⟨rfl, rfl, rfl⟩ := trodAll_nil r2
  obtain rfl : args = #[v0, v1, v2] := by cases args; simp_all
  obtain ⟨word, rfl, hB0⟩ := open_u32 Try.underlying23 (hval 0 23 v0 rfl rfl) h0
  obtain ⟨other, rfl, hB1⟩ := open_u32 Try.underlying23 (hval 1 23 v1 rfl rfl) h1
  obtain ⟨refresh, rfl, hB2⟩ := open_u32 Try.underlying23 (hval 2 23 v2 rfl rfl) h2
  exact law_calls hW' rfl rfl rfl rfl rfl Try.underlying4 laidOutInfosOther readInfosOther (infosOther_walk word other refresh W hB0 hB1 hB2)
set_option maxRecDepth 100000 in
theorem liftedInfosOther (os : Os) (started : os.Started) (H : Type) (enc : TypeId × Value → H) :
    ReturnsInHanded {} Try.checked os 6 .any (Rows.infosOtherSpec.pre6 enc Try.prog Try.f6 Rows.infosOtherRow.domain false) (Rows.infosOtherSpec.post enc Try.prog Try.f6 false true false false) := by
  refine returnsInHanded_of_change (C := Try.checked) ownInfosOther started (by kernel_rfl) Try.func6
    (ChangeSpec.witness6 (enc := enc) (C := Try.checked) false ⟨#[], #[.int .u32 0, .int .u32 0, .int .u32 0], []⟩ 8 (by kernel_rfl) (by kernel_rfl) (by kernel_rfl) (by kernel_rfl)) ?_
  intro W base args ds gs before hval hW _ _
  exact contractInfosOther H enc W base args ds gs before hval hW
theorem saidInfosOther : Rows.InfosOtherSaid :=
  OpenClaim.holds_of_wide 6 Try.f6 rfl rfl rfl rfl rfl rfl rfl ⟨rfl, rfl, rfl, rfl, rfl⟩ rfl rfl rfl rfl rfl (by kernel_rfl) Try.func6 (by kernel_rfl)
    (of_decide_eq_true (by kernel_rfl)) (by unfold Func.isWrapper; first | (rw [if_pos (by decide +kernel)]; kernel_rfl) | (rw [if_neg (by decide +kernel)]; exact ⟨rfl, rfl⟩))
    (fun os started H enc _ => liftedInfosOther os started H enc)
#print axioms saidInfosOther
end Go.Proofs.Ytfldoihindbdmaa

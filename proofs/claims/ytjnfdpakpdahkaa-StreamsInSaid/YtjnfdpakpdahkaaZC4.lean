/- StreamsIn: whatever comes, in whatever order, and is read, each answer is the chapter's; bytes stay, nothing is shared. For any first place and any acts. -/
import Derived.Test.YtjnfdpakpdahkaaZ26
import Derived.Test.YtjnfdpakpdahkaaZ27
import Derived.Test.YtjnfdpakpdahkaaRows
namespace Go.Proofs.Ytjnfdpakpdahkaa
open Go.ChangeShapes Go.WideShapes Go.ChangeAt Go.RowKit
theorem ownStreamsIn : ownKnob Try.prog.godebug = none := by kernel_rfl
theorem laidOutStreamsIn : laidOutB Try.prog = true := by kernel_rfl
theorem readStreamsIn : ∀ t ∈ Try.f6.params.toList, Try.prog.readableRec t = true ∧ t < Try.prog.types.size := fun t ht => by
  have h := List.all_eq_true.1 (show (Try.f6.params.toList.all fun t => Try.prog.readableRec t && decide (t < Try.prog.types.size)) = true by kernel_rfl) t ht
  simpa using h
theorem contractStreamsIn (H : Type) (enc : TypeId × Value → H) (W : World) (base : Nat) (args : Array Value) (ds gs : List (DataW H)) (before : List MemPlace)
    (hval : ∀ (j : Nat) t v, Try.f6.params[j]? = some t → args[j]? = some v → Value.okWide Try.prog W .any base t v)
    (hW : DataW.Whole enc Try.prog Try.f6.params.toList Rows.streamsInSpec.vars false W args.toList ds gs before)
    (hsz : (DataW.weightsEach Try.prog (Try.f6.params.toList ++ Rows.streamsInSpec.plain.varTypes Try.prog) (ds ++ gs)).all (· ≤ reachBytes) = true) :
    Calls Try.prog 6 args W fun e W' => ∃ v, e = .returned v ∧ Rows.streamsInSpec.post enc Try.prog Try.f6 false true false false W args v W' := by
  have hW' := hW
  obtain ⟨p, q, hA0, hV, _, _, _⟩ := hW
  have hA : DataW.TrodAll enc Try.prog W 0 (fun _ => true) true Try.f6.params.toList args.toList ds p := hA0
  rw [Try.params6] at hA hval hsz
  obtain ⟨v0, vs0, d0, ds0, p0, q0, hargs, rfl, rfl, h0, r0⟩ := trodAll_cons hA
  obtain ⟨v1, vs1, d1, ds1, p1, q1, rfl, rfl, rfl, h1, r1⟩ := trodAll_cons r0
  obtain ⟨rfl, rfl, rfl⟩ := trodAll_nil r1
  obtain rfl : args = #[v0, v1] := by cases args; simp_all
  obtain ⟨p', rfl, hB0⟩ := open_u32 Try.underlying22 (hval 0 22 v0 rfl rfl) h0
  obtain ⟨A2, acts, c2, rfl, hs2, hle2, hlt2, hsm⟩ := open_acts_w (hval 1 31 v1 rfl rfl) h1 (fun m hm => by
    have h9 := List.all_eq_true.1 hsz m (DataW.weights_mem_each (j := 1) (t := 31) (d := d1) rfl rfl m hm)
    simpa using h9)
  exact law_calls hW' rfl rfl rfl rfl rfl Try.underlying4 laidOutStreamsIn readStreamsIn (streamsIn_walk p' A2 acts c2 W hB0 hs2 hlt2 (fun x hx => by have := hsm x hx; unfold reachBytes at this; omega))
set_option maxRecDepth 100000 in
theorem liftedStreamsIn (os : Os) (started : os.Started) (H : Type) (enc : TypeId × Value → H) :
    ReturnsInHanded {} Try.checked os 6 .any (Rows.streamsInSpec.pre6 enc Try.prog Try.f6 Rows.streamsInRow.domain false) (Rows.streamsInSpec.post enc Try.prog Try.f6 false true false false) := by
  refine returnsInHanded_of_change_sized (C := Try.checked) ownStreamsIn started (by kernel_rfl) Try.func6
    (ChangeSpec.witness6 (enc := enc) (C := Try.checked) false ⟨#[], #[.int .u32 0, .slice none 0 0], []⟩ 8 (by kernel_rfl) (by kernel_rfl) (by kernel_rfl) (by kernel_rfl)) ?_
  intro W base args ds gs before hval hW _ hsz _
  exact contractStreamsIn H enc W base args ds gs before hval hW hsz
theorem saidStreamsIn : Rows.StreamsInSaid :=
  OpenClaim.holds_of_wide 6 Try.f6 rfl rfl rfl rfl rfl rfl rfl ⟨rfl, rfl, rfl, rfl, rfl⟩ rfl rfl rfl rfl rfl (by kernel_rfl) Try.func6 (by kernel_rfl)
    (of_decide_eq_true (by kernel_rfl)) (by unfold Func.isWrapper; first | (rw [if_pos (by decide +kernel)]; kernel_rfl) | (rw [if_neg (by decide +kernel)]; exact ⟨rfl, rfl⟩))
    (fun os started H enc _ => liftedStreamsIn os started H enc)
#print axioms saidStreamsIn
end Go.Proofs.Ytjnfdpakpdahkaa

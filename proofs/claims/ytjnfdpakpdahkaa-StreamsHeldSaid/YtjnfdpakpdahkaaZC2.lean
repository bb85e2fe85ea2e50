/- StreamsHeld: what was written is cut again and again the same, till it is acknowledged; the first place moves by what is; no more is held than there is room for. For any first place, any text and any acts. -/
import Derived.Test.YtjnfdpakpdahkaaZ17
import Derived.Test.YtjnfdpakpdahkaaZ18
import Derived.Test.YtjnfdpakpdahkaaRows
namespace Go.Proofs.Ytjnfdpakpdahkaa
open Go.ChangeShapes Go.WideShapes Go.ChangeAt Go.RowKit
theorem ownStreamsHeld : ownKnob Try.prog.godebug = none := by kernel_rfl
theorem laidOutStreamsHeld : laidOutB Try.prog = true := by kernel_rfl
theorem readStreamsHeld : ∀ t ∈ Try.f5.params.toList, Try.prog.readableRec t = true ∧ t < Try.prog.types.size := fun t ht => by
  have h := List.all_eq_true.1 (show (Try.f5.params.toList.all fun t => Try.prog.readableRec t && decide (t < Try.prog.types.size)) = true by kernel_rfl) t ht
  simpa using h
theorem contractStreamsHeld (H : Type) (enc : TypeId × Value → H) (W : World) (base : Nat) (args : Array Value) (ds gs : List (DataW H)) (before : List MemPlace)
    (hval : ∀ (j : Nat) t v, Try.f5.params[j]? = some t → args[j]? = some v → Value.okWide Try.prog W .any base t v)
    (hW : DataW.Whole enc Try.prog Try.f5.params.toList Rows.streamsHeldSpec.vars false W args.toList ds gs before) :
    Calls Try.prog 5 args W fun e W' => ∃ v, e = .returned v ∧ Rows.streamsHeldSpec.post enc Try.prog Try.f5 false true false false W args v W' := by
  have hW' := hW
  obtain ⟨p, q, hA0, hV, _, _, _⟩ := hW
  have hA : DataW.TrodAll enc Try.prog W 0 (fun _ => true) true Try.f5.params.toList args.toList ds p := hA0
  rw [Try.params5] at hA hval
  obtain ⟨v0, vs0, d0, ds0, p0, q0, hargs, rfl, rfl, h0, r0⟩ := trodAll_cons hA
  obtain ⟨v1, vs1, d1, ds1, p1, q1, rfl, rfl, rfl, h1, r1⟩ := trodAll_cons r0
  obtain ⟨v2, vs2, d2, ds2, p2, q2, rfl, rfl, rfl, h2, r2⟩ := trodAll_cons r1
  obtain ⟨rfl, rfl, rfl⟩ := trodAll_nil r2
  obtain rfl : args = #[v0, v1, v2] := by cases args; simp_all
  obtain ⟨p, rfl, hB0⟩ := open_u32 Try.underlying22 (hval 0 22 v0 rfl rfl) h0
  obtain ⟨A, l, c, rfl, hR1, hN1, hC1, hL1⟩ := open_bsl Try.underlying23 Try.underlying5 (by kernel_rfl) (hval 1 23 v1 rfl rfl) h1
  obtain ⟨A2, acts, c2, rfl, hs2, hle2, hlt2⟩ := open_acts (hval 2 31 v2 rfl rfl) h2
  exact law_calls hW' rfl rfl rfl rfl rfl Try.underlying4 laidOutStreamsHeld readStreamsHeld (streamsHeld_walk p A A2 l acts c c2 W hB0 hR1 hN1 hC1 hL1 hs2 hlt2)
set_option maxRecDepth 100000 in
theorem liftedStreamsHeld (os : Os) (started : os.Started) (H : Type) (enc : TypeId × Value → H) :
    ReturnsInHanded {} Try.checked os 5 .any (Rows.streamsHeldSpec.pre6 enc Try.prog Try.f5 Rows.streamsHeldRow.domain false) (Rows.streamsHeldSpec.post enc Try.prog Try.f5 false true false false) := by
  refine returnsInHanded_of_change (C := Try.checked) ownStreamsHeld started (by kernel_rfl) Try.func5
    (ChangeSpec.witness6 (enc := enc) (C := Try.checked) false ⟨#[], #[.int .u32 0, .slice none 0 0, .slice none 0 0], []⟩ 8 (by kernel_rfl) (by kernel_rfl) (by kernel_rfl) (by kernel_rfl)) ?_
  intro W base args ds gs before hval hW _ _
  exact contractStreamsHeld H enc W base args ds gs before hval hW
theorem saidStreamsHeld : Rows.StreamsHeldSaid :=
  OpenClaim.holds_of_wide 5 Try.f5 rfl rfl rfl rfl rfl rfl rfl ⟨rfl, rfl, rfl, rfl, rfl⟩ rfl rfl rfl rfl rfl (by kernel_rfl) Try.func5 (by kernel_rfl)
    (of_decide_eq_true (by kernel_rfl)) (by unfold Func.isWrapper; first | (rw [if_pos (by decide +kernel)]; kernel_rfl) | (rw [if_neg (by decide +kernel)]; exact ⟨rfl, rfl⟩))
    (fun os started H enc _ => liftedStreamsHeld os started H enc)
#print axioms saidStreamsHeld
end Go.Proofs.Ytjnfdpakpdahkaa

/- StreamsTrue: parts of one text, in whatever order, as often as one likes, from whatever place on: what is read is a beginning of it, each byte once, in order; when all of it came, and its end, all is read, and it is over. For any first place, any text and any acts. -/
import Derived.Test.YtjnfdpakpdahkaaZ17
import Derived.Test.YtjnfdpakpdahkaaZ20
import Derived.Test.YtjnfdpakpdahkaaRows
namespace Go.Proofs.Ytjnfdpakpdahkaa
open Go.ChangeShapes Go.WideShapes Go.ChangeAt Go.RowKit
theorem ownStreamsTrue : ownKnob Try.prog.godebug = none := by kernel_rfl
theorem laidOutStreamsTrue : laidOutB Try.prog = true := by kernel_rfl
theorem readStreamsTrue : ∀ t ∈ Try.f4.params.toList, Try.prog.readableRec t = true ∧ t < Try.prog.types.size := fun t ht => by
  have h := List.all_eq_true.1 (show (Try.f4.params.toList.all fun t => Try.prog.readableRec t && decide (t < Try.prog.types.size)) = true by kernel_rfl) t ht
  simpa using h
theorem contractStreamsTrue (H : Type) (enc : TypeId × Value → H) (W : World) (base : Nat) (args : Array Value) (ds gs : List (DataW H)) (before : List MemPlace)
    (hval : ∀ (j : Nat) t v, Try.f4.params[j]? = some t → args[j]? = some v → Value.okWide Try.prog W .any base t v)
    (hW : DataW.Whole enc Try.prog Try.f4.params.toList Rows.streamsTrueSpec.vars false W args.toList ds gs before) :
    Calls Try.prog 4 args W fun e W' => ∃ v, e = .returned v ∧ Rows.streamsTrueSpec.post enc Try.prog Try.f4 false true false false W args v W' := by
  have hW' := hW
  obtain ⟨p, q, hA0, hV, _, _, _⟩ := hW
  have hA : DataW.TrodAll enc Try.prog W 0 (fun _ => true) true Try.f4.params.toList args.toList ds p := hA0
  rw [Try.params4] at hA hval
  obtain ⟨v0, vs0, d0, ds0, p0, q0, hargs, rfl, rfl, h0, r0⟩ := trodAll_cons hA
  obtain ⟨v1, vs1, d1, ds1, p1, q1, rfl, rfl, rfl, h1, r1⟩ := trodAll_cons r0
  obtain ⟨v2, vs2, d2, ds2, p2, q2, rfl, rfl, rfl, h2, r2⟩ := trodAll_cons r1
  obtain ⟨rfl, rfl, rfl⟩ := trodAll_nil r2
  obtain rfl : args = #[v0, v1, v2] := by cases args; simp_all
  obtain ⟨p, rfl, hB0⟩ := open_u32 Try.underlying22 (hval 0 22 v0 rfl rfl) h0
  obtain ⟨A, l, c, rfl, hR1, hN1, hC1, hL1⟩ := open_bsl Try.underlying23 Try.underlying5 (by kernel_rfl) (hval 1 23 v1 rfl rfl) h1
  obtain ⟨A2, acts, c2, rfl, hs2, hle2, hlt2⟩ := open_acts (hval 2 31 v2 rfl rfl) h2
  exact law_calls hW' rfl rfl rfl rfl rfl Try.underlying4 laidOutStreamsTrue readStreamsTrue ((by by_cases hl : l.length ≤ 8000; exact streamsTrue_walk p A A2 l acts c c2 W hB0 hR1 hN1 hC1 hl hs2 hlt2; exact streamsTrue_long p A A2 l.length c acts c2 W (by omega) hL1 hs2 hlt2))
set_option maxRecDepth 100000 in
theorem liftedStreamsTrue (os : Os) (started : os.Started) (H : Type) (enc : TypeId × Value → H) :
    ReturnsInHanded {} Try.checked os 4 .any (Rows.streamsTrueSpec.pre6 enc Try.prog Try.f4 Rows.streamsTrueRow.domain false) (Rows.streamsTrueSpec.post enc Try.prog Try.f4 false true false false) := by
  refine returnsInHanded_of_change (C := Try.checked) ownStreamsTrue started (by kernel_rfl) Try.func4
    (ChangeSpec.witness6 (enc := enc) (C := Try.checked) false ⟨#[], #[.int .u32 0, .slice none 0 0, .slice none 0 0], []⟩ 8 (by kernel_rfl) (by kernel_rfl) (by kernel_rfl) (by kernel_rfl)) ?_
  intro W base args ds gs before hval hW _ _
  exact contractStreamsTrue H enc W base args ds gs before hval hW
theorem saidStreamsTrue : Rows.StreamsTrueSaid :=
  OpenClaim.holds_of_wide 4 Try.f4 rfl rfl rfl rfl rfl rfl rfl ⟨rfl, rfl, rfl, rfl, rfl⟩ rfl rfl rfl rfl rfl (by kernel_rfl) Try.func4 (by kernel_rfl)
    (of_decide_eq_true (by kernel_rfl)) (by unfold Func.isWrapper; first | (rw [if_pos (by decide +kernel)]; kernel_rfl) | (rw [if_neg (by decide +kernel)]; exact ⟨rfl, rfl⟩))
    (fun os started H enc _ => liftedStreamsTrue os started H enc)
#print axioms saidStreamsTrue
end Go.Proofs.Ytjnfdpakpdahkaa

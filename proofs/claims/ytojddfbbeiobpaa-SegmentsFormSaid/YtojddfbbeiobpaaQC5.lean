/- SegmentsForm: a segment that tells fewer than 20 bytes, or more than there are, ahead of its data is none; nor one with an option of fewer than two bytes, or of more than there are. -/
import Derived.Test.YtojddfbbeiobpaaQ18
import Derived.Test.YtojddfbbeiobpaaMgA
import Derived.Test.YtojddfbbeiobpaaRows
namespace Go.Proofs.Ytojddfbbeiobpaa
open Go.ChangeShapes Go.WideShapes Go.ChangeAt Go.RowKit
theorem ownSegmentsForm : ownKnob Try.prog.godebug = none := by kernel_rfl
theorem laidOutSegmentsForm : laidOutB Try.prog = true := by kernel_rfl
theorem readSegmentsForm : ∀ t ∈ Try.f7.params.toList, Try.prog.readableRec t = true ∧ t < Try.prog.types.size := fun t ht => by
  have h := List.all_eq_true.1 (show (Try.f7.params.toList.all fun t => Try.prog.readableRec t && decide (t < Try.prog.types.size)) = true by kernel_rfl) t ht
  simpa using h
theorem contractSegmentsForm (H : Type) (enc : TypeId × Value → H) (W : World) (base : Nat) (args : Array Value) (ds gs : List (DataW H)) (before : List MemPlace)
    (hval : ∀ (j : Nat) t v, Try.f7.params[j]? = some t → args[j]? = some v → Value.okWide Try.prog W .any base t v)
    (hW : DataW.Whole enc Try.prog Try.f7.params.toList Rows.segmentsFormSpec.vars false W args.toList ds gs before) :
    Calls Try.prog 7 args W fun e W' => ∃ v, e = .returned v ∧ Rows.segmentsFormSpec.post enc Try.prog Try.f7 false true false false W args v W' := by
  have hW' := hW
  obtain ⟨p, q, hA0, hV, _, _, _⟩ := hW
  have hA : DataW.TrodAll enc Try.prog W 0 (fun _ => true) true Try.f7.params.toList args.toList ds p := hA0
  rw [Try.params7] at hA hval
  obtain ⟨v0, vs0, d0, ds0, p0, q0, hargs, rfl, rfl, h0, r0⟩ := trodAll_cons hA
  obtain ⟨v1, vs1, d1, ds1, p1, q1, rfl, rfl, rfl, h1, r1⟩ := trodAll_cons r0
  obtain ⟨v2, vs2, d2, ds2, p2, q2, rfl, rfl, rfl, h2, r2⟩ := trodAll_cons r1
  obtain ⟨rfl, rfl, rfl⟩ := trodAll_nil r2
  obtain rfl : args = #[v0, v1, v2] := by cases args; simp_all
  obtain ⟨src, dst, rfl, hs, hd⟩ := open_ends (hval 0 25 v0 rfl rfl) h0
  obtain ⟨s, A, l, c, rfl, hs0, hR, hN, hC, hL⟩ := open_segment (hval 1 30 v1 rfl rfl) h1
  obtain ⟨zk, zl, zm, rfl, _⟩ := open_other (hval 2 50 v2 rfl rfl) h2
  exact law_calls hW' rfl rfl rfl rfl rfl Try.underlying4 laidOutSegmentsForm readSegmentsForm ((by by_cases hl : l.length ≤ 1000; exact segmentsForm_walk src dst s A l c zk zl zm W hs hd hs0 hR hN hl; exact segmentsForm_long src dst s A l.length c zk zl zm W hs hd (by omega)))
set_option maxRecDepth 100000 in
theorem liftedSegmentsForm (os : Os) (started : os.Started) (H : Type) (enc : TypeId × Value → H) :
    ReturnsInHanded {} Try.checked os 7 .any (Rows.segmentsFormSpec.pre6 enc Try.prog Try.f7 Rows.segmentsFormRow.domain false) (Rows.segmentsFormSpec.post enc Try.prog Try.f7 false true false false) := by
  refine returnsInHanded_of_change (C := Try.checked) ownSegmentsForm started (by kernel_rfl) Try.func7
    (ChangeSpec.witness6 (enc := enc) (C := Try.checked) false ⟨#[], #[.agg #[Value.int IntKind.u8 0, Value.int IntKind.u8 0, Value.int IntKind.u8 0, Value.int IntKind.u8 0, Value.int IntKind.u8 0, Value.int IntKind.u8 0, Value.int IntKind.u8 0, Value.int IntKind.u8 0, Value.int IntKind.u8 0, Value.int IntKind.u8 0, Value.int IntKind.u8 0, Value.int IntKind.u8 0, Value.int IntKind.u8 0, Value.int IntKind.u8 0, Value.int IntKind.u8 0, Value.int IntKind.u8 0, Value.int IntKind.u8 0, Value.int IntKind.u8 0, Value.int IntKind.u8 0, Value.int IntKind.u8 0, Value.int IntKind.u8 0, Value.int IntKind.u8 0, Value.int IntKind.u8 0, Value.int IntKind.u8 0, Value.int IntKind.u8 0, Value.int IntKind.u8 0, Value.int IntKind.u8 0, Value.int IntKind.u8 0, Value.int IntKind.u8 0, Value.int IntKind.u8 0, Value.int IntKind.u8 0, Value.int IntKind.u8 0], .agg (sgc Sg.zero none 0 0), .agg (otc 0 0 0)], []⟩ 8 (by kernel_rfl) (by kernel_rfl) (by kernel_rfl) (by kernel_rfl)) ?_
  intro W base args ds gs before hval hW _ _
  exact contractSegmentsForm H enc W base args ds gs before hval hW
theorem saidSegmentsForm : Rows.SegmentsFormSaid :=
  OpenClaim.holds_of_wide 7 Try.f7 rfl rfl rfl rfl rfl rfl rfl ⟨rfl, rfl, rfl, rfl, rfl⟩ rfl rfl rfl rfl rfl (by kernel_rfl) Try.func7 (by kernel_rfl)
    (of_decide_eq_true (by kernel_rfl)) (by unfold Func.isWrapper; first | (rw [if_pos (by decide +kernel)]; kernel_rfl) | (rw [if_neg (by decide +kernel)]; exact ⟨rfl, rfl⟩))
    (fun os started H enc _ => liftedSegmentsForm os started H enc)
#print axioms saidSegmentsForm
end Go.Proofs.Ytojddfbbeiobpaa

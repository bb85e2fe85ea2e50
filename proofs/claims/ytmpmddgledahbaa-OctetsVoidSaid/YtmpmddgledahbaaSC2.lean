/- OctetsVoid: a cutter that is not there, or that no call made, is spoilt, and has nothing. For every ask. -/
import Derived.Test.YtmpmddgledahbaaS17
import Derived.Test.YtmpmddgledahbaaL5
import Derived.Test.YtmpmddgledahbaaRows
namespace Go.Proofs.Ytmpmddgledahbaa
open Go.ChangeShapes Go.WideShapes Go.ChangeAt Go.RowKit Go.Joins
theorem ownOctetsVoid : ownKnob Try.prog.godebug = none := by kernel_rfl
theorem laidOutOctetsVoid : laidOutB Try.prog = true := by kernel_rfl
theorem readOctetsVoid : ∀ t ∈ Try.f5.params.toList, Try.prog.readableRec t = true ∧ t < Try.prog.types.size := fun t ht => by
  have h := List.all_eq_true.1 (show (Try.f5.params.toList.all fun t => Try.prog.readableRec t && decide (t < Try.prog.types.size)) = true by kernel_rfl) t ht
  simpa using h
theorem contractOctetsVoid (H : Type) (enc : TypeId × Value → H) (W : World) (base : Nat) (args : Array Value) (ds gs : List (DataW H)) (before : List MemPlace)
    (hval : ∀ (j : Nat) t v, Try.f5.params[j]? = some t → args[j]? = some v → Value.okWide Try.prog W .any base t v)
    (hW : DataW.Whole enc Try.prog Try.f5.params.toList Rows.octetsVoidSpec.vars false W args.toList ds gs before) :
    Calls Try.prog 5 args W fun e W' => ∃ v, e = .returned v ∧ Rows.octetsVoidSpec.post enc Try.prog Try.f5 false true false false W args v W' := by
  have hW' := hW
  obtain ⟨p, q, hA0, hV, _, _, _⟩ := hW
  have hA : DataW.TrodAll enc Try.prog W 0 (fun _ => true) true Try.f5.params.toList args.toList ds p := hA0
  rw [Try.params5] at hA hval
  obtain ⟨v0, vs0, d0, ds0, p0, q0, hargs, rfl, rfl, h0, r0⟩ := trodAll_cons hA
  obtain ⟨rfl, rfl, rfl⟩ := trodAll_nil r0
  obtain rfl : args = #[v0] := by cases args; simp_all
  obtain ⟨x0, x1, y0, y1, n', rfl, _, _, hy0, hy1⟩ := open_agg2 Try.underlying35 (by kernel_rfl) (by kernel_rfl) (hval 0 35 v0 rfl rfl) h0
  obtain ⟨x, rfl⟩ := trod_u8 Try.underlying5 hy0
  obtain ⟨n, rfl, _, _⟩ := trod_i64 Try.underlying3 hy1
  exact law_calls hW' rfl rfl rfl rfl rfl Try.underlying4 laidOutOctetsVoid readOctetsVoid (octetsVoid_walk x n W)
set_option maxRecDepth 100000 in
theorem liftedOctetsVoid (os : Os) (started : os.Started) (H : Type) (enc : TypeId × Value → H) :
    ReturnsInHanded {} Try.checked os 5 .any (Rows.octetsVoidSpec.pre6 enc Try.prog Try.f5 Rows.octetsVoidRow.domain false) (Rows.octetsVoidSpec.post enc Try.prog Try.f5 false true false false) := by
  refine returnsInHanded_of_change (C := Try.checked) ownOctetsVoid started (by kernel_rfl) Try.func5
    (ChangeSpec.witness6 (enc := enc) (C := Try.checked) false ⟨#[], #[.agg #[.int .u8 0, .int .i64 0]], []⟩ 8 (by kernel_rfl) (by kernel_rfl) (by kernel_rfl) (by kernel_rfl)) ?_
  intro W base args ds gs before hval hW _ _
  exact contractOctetsVoid H enc W base args ds gs before hval hW
theorem saidOctetsVoid : Rows.OctetsVoidSaid :=
  OpenClaim.holds_of_wide 5 Try.f5 rfl rfl rfl rfl rfl rfl rfl ⟨rfl, rfl, rfl, rfl, rfl⟩ rfl rfl rfl rfl rfl (by kernel_rfl) Try.func5 (by kernel_rfl)
    (of_decide_eq_true (by kernel_rfl)) (by unfold Func.isWrapper; first | (rw [if_pos (by decide +kernel)]; kernel_rfl) | (rw [if_neg (by decide +kernel)]; exact ⟨rfl, rfl⟩))
    (fun os started H enc _ => liftedOctetsVoid os started H enc)
#print axioms saidOctetsVoid
end Go.Proofs.Ytmpmddgledahbaa

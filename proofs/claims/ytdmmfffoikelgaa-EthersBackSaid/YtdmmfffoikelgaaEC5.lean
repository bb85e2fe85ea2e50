/- EthersBack: a frame that is put is got, if its body has at most 1500 bytes, and is too long else; cut anywhere ahead of its body it is too short. For every frame, wherever it is cut. -/
import Derived.Test.YtdmmfffoikelgaaE11
import Derived.Test.YtdmmfffoikelgaaE5
import Derived.Test.YtdmmfffoikelgaaRows
namespace Go.Proofs.Ytdmmfffoikelgaa
open Go.ChangeShapes Go.WideShapes Go.ChangeAt Go.RowKit
theorem ownEthersBack : ownKnob Try.prog.godebug = none := by kernel_rfl
theorem laidOutEthersBack : laidOutB Try.prog = true := by kernel_rfl
theorem readEthersBack : ∀ t ∈ Try.f6.params.toList, Try.prog.readableRec t = true ∧ t < Try.prog.types.size := fun t ht => by
  have h := List.all_eq_true.1 (show (Try.f6.params.toList.all fun t => Try.prog.readableRec t && decide (t < Try.prog.types.size)) = true by kernel_rfl) t ht
  simpa using h
theorem contractEthersBack (H : Type) (enc : TypeId × Value → H) (W : World) (base : Nat) (args : Array Value) (ds gs : List (DataW H)) (before : List MemPlace)
    (hval : ∀ (j : Nat) t v, Try.f6.params[j]? = some t → args[j]? = some v → Value.okWide Try.prog W .any base t v)
    (hW : DataW.Whole enc Try.prog Try.f6.params.toList Rows.ethersBackSpec.vars false W args.toList ds gs before) :
    Calls Try.prog 6 args W fun e W' => ∃ v, e = .returned v ∧ Rows.ethersBackSpec.post enc Try.prog Try.f6 false true false false W args v W' := by
  have hW' := hW
  obtain ⟨p, q, hA0, hV, _, _, _⟩ := hW
  have hA : DataW.TrodAll enc Try.prog W 0 (fun _ => true) true Try.f6.params.toList args.toList ds p := hA0
  rw [Try.params6] at hA hval
  obtain ⟨v0, vs0, d0, ds0, p0, q0, hargs, rfl, rfl, h0, r0⟩ := trodAll_cons hA
  obtain ⟨v1, vs1, d1, ds1, p1, q1, rfl, rfl, rfl, h1, r1⟩ := trodAll_cons r0
  obtain ⟨rfl, rfl, rfl⟩ := trodAll_nil r1
  obtain rfl : args = #[v0, v1] := by cases args; simp_all
  obtain ⟨d, s, k, A, l, c, rfl, hd, hs, hk, hR, hN, hC, hL⟩ := open_frame (hval 0 27 v0 rfl rfl) h0
  obtain ⟨x, rfl⟩ := open_u8 Try.underlying5 (hval 1 5 v1 rfl rfl) h1
  exact law_calls hW' rfl rfl rfl rfl rfl Try.underlying4 laidOutEthersBack readEthersBack ((by by_cases hl : l.length ≤ 5000; exact ethersBack_walk d s k A l c x W hd hs hk hR hN hl; exact ethersBack_long d s k A l.length c x W hd hs (by omega) hL))
set_option maxRecDepth 100000 in
theorem liftedEthersBack (os : Os) (started : os.Started) (H : Type) (enc : TypeId × Value → H) :
    ReturnsInHanded {} Try.checked os 6 .any (Rows.ethersBackSpec.pre6 enc Try.prog Try.f6 Rows.ethersBackRow.domain false) (Rows.ethersBackSpec.post enc Try.prog Try.f6 false true false false) := by
  refine returnsInHanded_of_change (C := Try.checked) ownEthersBack started (by kernel_rfl) Try.func6
    (ChangeSpec.witness6 (enc := enc) (C := Try.checked) false ⟨#[], #[.agg (frc (List.replicate 6 0) (List.replicate 6 0) 0 none 0 0), .int .u8 0], []⟩ 8 (by kernel_rfl) (by kernel_rfl) (by kernel_rfl) (by kernel_rfl)) ?_
  intro W base args ds gs before hval hW _ _
  exact contractEthersBack H enc W base args ds gs before hval hW
theorem saidEthersBack : Rows.EthersBackSaid :=
  OpenClaim.holds_of_wide 6 Try.f6 rfl rfl rfl rfl rfl rfl rfl ⟨rfl, rfl, rfl, rfl, rfl⟩ rfl rfl rfl rfl rfl (by kernel_rfl) Try.func6 (by kernel_rfl)
    (of_decide_eq_true (by kernel_rfl)) (by unfold Func.isWrapper; first | (rw [if_pos (by decide +kernel)]; kernel_rfl) | (rw [if_neg (by decide +kernel)]; exact ⟨rfl, rfl⟩))
    (fun os started H enc _ => liftedEthersBack os started H enc)
#print axioms saidEthersBack
end Go.Proofs.Ytdmmfffoikelgaa

/- HeadersBack: a packet that is put is got, whatever stands behind its bytes; cut anywhere they are too short. For any packet of 2000 bytes at most, any bytes behind, wherever it is cut. -/
import Derived.Test.YtbfiakikhkiefaaH29
import Derived.Test.YtbfiakikhkiefaaH13
import Derived.Test.YtbfiakikhkiefaaMgA
import Derived.Test.YtbfiakikhkiefaaRows
namespace Go.Proofs.Ytbfiakikhkiefaa
open Go.ChangeShapes Go.WideShapes Go.ChangeAt Go.RowKit
theorem ownHeadersBack : ownKnob Try.prog.godebug = none := by kernel_rfl
theorem laidOutHeadersBack : laidOutB Try.prog = true := by kernel_rfl
theorem readHeadersBack : ∀ t ∈ Try.f8.params.toList, Try.prog.readableRec t = true ∧ t < Try.prog.types.size := fun t ht => by
  have h := List.all_eq_true.1 (show (Try.f8.params.toList.all fun t => Try.prog.readableRec t && decide (t < Try.prog.types.size)) = true by kernel_rfl) t ht
  simpa using h
theorem contractHeadersBack (H : Type) (enc : TypeId × Value → H) (W : World) (base : Nat) (args : Array Value) (ds gs : List (DataW H)) (before : List MemPlace)
    (hval : ∀ (j : Nat) t v, Try.f8.params[j]? = some t → args[j]? = some v → Value.okWide Try.prog W .any base t v)
    (hW : DataW.Whole enc Try.prog Try.f8.params.toList Rows.headersBackSpec.vars false W args.toList ds gs before) :
    Calls Try.prog 8 args W fun e W' => ∃ v, e = .returned v ∧ Rows.headersBackSpec.post enc Try.prog Try.f8 false true false false W args v W' := by
  have hW' := hW
  obtain ⟨p, q, hA0, hV, _, _, _⟩ := hW
  have hA : DataW.TrodAll enc Try.prog W 0 (fun _ => true) true Try.f8.params.toList args.toList ds p := hA0
  rw [Try.params8] at hA hval
  obtain ⟨v0, vs0, d0, ds0, p0, q0, hargs, rfl, rfl, h0, r0⟩ := trodAll_cons hA
  obtain ⟨v1, vs1, d1, ds1, p1, q1, rfl, rfl, rfl, h1, r1⟩ := trodAll_cons r0
  obtain ⟨v2, vs2, d2, ds2, p2, q2, rfl, rfl, rfl, h2, r2⟩ := trodAll_cons r1
  obtain ⟨rfl, rfl, rfl⟩ := trodAll_nil r2
  obtain rfl : args = #[v0, v1, v2] := by cases args; simp_all
  obtain ⟨p, A, l, c, rfl, hR, hN, hC, hL⟩ := open_packet (hval 0 30 v0 rfl rfl) h0
  obtain ⟨Ab, bh, cb, rfl, hR1, hN1, hC1, hL1⟩ := open_bsl Try.underlying28 Try.underlying5 (by kernel_rfl) (hval 1 28 v1 rfl rfl) h1
  obtain ⟨cut, rfl, hcut⟩ := open_u16 Try.underlying25 (hval 2 25 v2 rfl rfl) h2
  exact law_calls hW' rfl rfl rfl rfl rfl Try.underlying4 laidOutHeadersBack readHeadersBack (headersBack_any p A l c Ab bh cb cut W hR hN hL hR1 hN1 hL1 hcut)
set_option maxRecDepth 100000 in
theorem liftedHeadersBack (os : Os) (started : os.Started) (H : Type) (enc : TypeId × Value → H) :
    ReturnsInHanded {} Try.checked os 8 .any (Rows.headersBackSpec.pre6 enc Try.prog Try.f8 Rows.headersBackRow.domain false) (Rows.headersBackSpec.post enc Try.prog Try.f8 false true false false) := by
  refine returnsInHanded_of_change (C := Try.checked) ownHeadersBack started (by kernel_rfl) Try.func8
    (ChangeSpec.witness6 (enc := enc) (C := Try.checked) false ⟨#[], #[.agg (pkC pk58 none 0 0), .slice none 0 0, .int .u16 0], []⟩ 8 (by kernel_rfl) (by kernel_rfl) (by kernel_rfl) (by kernel_rfl)) ?_
  intro W base args ds gs before hval hW _ _
  exact contractHeadersBack H enc W base args ds gs before hval hW
theorem saidHeadersBack : Rows.HeadersBackSaid :=
  OpenClaim.holds_of_wide 8 Try.f8 rfl rfl rfl rfl rfl rfl rfl ⟨rfl, rfl, rfl, rfl, rfl⟩ rfl rfl rfl rfl rfl (by kernel_rfl) Try.func8 (by kernel_rfl)
    (of_decide_eq_true (by kernel_rfl)) (by unfold Func.isWrapper; first | (rw [if_pos (by decide +kernel)]; kernel_rfl) | (rw [if_neg (by decide +kernel)]; exact ⟨rfl, rfl⟩))
    (fun os started H enc _ => liftedHeadersBack os started H enc)
#print axioms saidHeadersBack
end Go.Proofs.Ytbfiakikhkiefaa

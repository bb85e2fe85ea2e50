/- HeadersGet: whatever bytes there are, their packet, or what is wrong, and where, is the chapter's; they stay, and nothing is shared. For any bytes. -/
import Derived.Test.YtbfiakikhkiefaaMgI
import Derived.Test.YtbfiakikhkiefaaH13
import Derived.Test.YtbfiakikhkiefaaRows
namespace Go.Proofs.Ytbfiakikhkiefaa
open Go.ChangeShapes Go.WideShapes Go.ChangeAt Go.RowKit
theorem ownHeadersGet : ownKnob Try.prog.godebug = none := by kernel_rfl
theorem laidOutHeadersGet : laidOutB Try.prog = true := by kernel_rfl
theorem readHeadersGet : ∀ t ∈ Try.f7.params.toList, Try.prog.readableRec t = true ∧ t < Try.prog.types.size := fun t ht => by
  have h := List.all_eq_true.1 (show (Try.f7.params.toList.all fun t => Try.prog.readableRec t && decide (t < Try.prog.types.size)) = true by kernel_rfl) t ht
  simpa using h
theorem contractHeadersGet (H : Type) (enc : TypeId × Value → H) (W : World) (base : Nat) (args : Array Value) (ds gs : List (DataW H)) (before : List MemPlace)
    (hval : ∀ (j : Nat) t v, Try.f7.params[j]? = some t → args[j]? = some v → Value.okWide Try.prog W .any base t v)
    (hW : DataW.Whole enc Try.prog Try.f7.params.toList Rows.headersGetSpec.vars false W args.toList ds gs before) :
    Calls Try.prog 7 args W fun e W' => ∃ v, e = .returned v ∧ Rows.headersGetSpec.post enc Try.prog Try.f7 false true false false W args v W' := by
  have hW' := hW
  obtain ⟨p, q, hA0, hV, _, _, _⟩ := hW
  have hA : DataW.TrodAll enc Try.prog W 0 (fun _ => true) true Try.f7.params.toList args.toList ds p := hA0
  rw [Try.params7] at hA hval
  obtain ⟨v0, vs0, d0, ds0, p0, q0, hargs, rfl, rfl, h0, r0⟩ := trodAll_cons hA
  obtain ⟨rfl, rfl, rfl⟩ := trodAll_nil r0
  obtain rfl : args = #[v0] := by cases args; simp_all
  obtain ⟨A, l, c, rfl, hR0, hN0, hC0, hL0⟩ := open_bsl Try.underlying28 Try.underlying5 (by kernel_rfl) (hval 0 28 v0 rfl rfl) h0
  exact law_calls hW' rfl rfl rfl rfl rfl Try.underlying4 laidOutHeadersGet readHeadersGet ((by by_cases hl : l.length ≤ 5000; exact headersGet_walk A l c W hR0 hC0 hl; exact headersGet_long A l.length c W (by omega) hL0))
set_option maxRecDepth 100000 in
theorem liftedHeadersGet (os : Os) (started : os.Started) (H : Type) (enc : TypeId × Value → H) :
    ReturnsInHanded {} Try.checked os 7 .any (Rows.headersGetSpec.pre6 enc Try.prog Try.f7 Rows.headersGetRow.domain false) (Rows.headersGetSpec.post enc Try.prog Try.f7 false true false false) := by
  refine returnsInHanded_of_change (C := Try.checked) ownHeadersGet started (by kernel_rfl) Try.func7
    (ChangeSpec.witness6 (enc := enc) (C := Try.checked) false ⟨#[], #[.slice none 0 0], []⟩ 8 (by kernel_rfl) (by kernel_rfl) (by kernel_rfl) (by kernel_rfl)) ?_
  intro W base args ds gs before hval hW _ _
  exact contractHeadersGet H enc W base args ds gs before hval hW
theorem saidHeadersGet : Rows.HeadersGetSaid :=
  OpenClaim.holds_of_wide 7 Try.f7 rfl rfl rfl rfl rfl rfl rfl ⟨rfl, rfl, rfl, rfl, rfl⟩ rfl rfl rfl rfl rfl (by kernel_rfl) Try.func7 (by kernel_rfl)
    (of_decide_eq_true (by kernel_rfl)) (by unfold Func.isWrapper; first | (rw [if_pos (by decide +kernel)]; kernel_rfl) | (rw [if_neg (by decide +kernel)]; exact ⟨rfl, rfl⟩))
    (fun os started H enc _ => liftedHeadersGet os started H enc)
#print axioms saidHeadersGet
end Go.Proofs.Ytbfiakikhkiefaa

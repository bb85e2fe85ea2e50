/- HeadersPut: whatever packet it is, its bytes, or that it is too long, is the chapter's; it stays, and nothing is shared. For any packet. -/
import Derived.Test.YtbfiakikhkiefaaH12
import Derived.Test.YtbfiakikhkiefaaH13
import Derived.Test.YtbfiakikhkiefaaRows
namespace Go.Proofs.Ytbfiakikhkiefaa
open Go.ChangeShapes Go.WideShapes Go.ChangeAt Go.RowKit
theorem ownHeadersPut : ownKnob Try.prog.godebug = none := by kernel_rfl
theorem laidOutHeadersPut : laidOutB Try.prog = true := by kernel_rfl
theorem readHeadersPut : ∀ t ∈ Try.f3.params.toList, Try.prog.readableRec t = true ∧ t < Try.prog.types.size := fun t ht => by
  have h := List.all_eq_true.1 (show (Try.f3.params.toList.all fun t => Try.prog.readableRec t && decide (t < Try.prog.types.size)) = true by kernel_rfl) t ht
  simpa using h
theorem contractHeadersPut (H : Type) (enc : TypeId × Value → H) (W : World) (base : Nat) (args : Array Value) (ds gs : List (DataW H)) (before : List MemPlace)
    (hval : ∀ (j : Nat) t v, Try.f3.params[j]? = some t → args[j]? = some v → Value.okWide Try.prog W .any base t v)
    (hW : DataW.Whole enc Try.prog Try.f3.params.toList Rows.headersPutSpec.vars false W args.toList ds gs before) :
    Calls Try.prog 3 args W fun e W' => ∃ v, e = .returned v ∧ Rows.headersPutSpec.post enc Try.prog Try.f3 false true false false W args v W' := by
  have hW' := hW
  obtain ⟨p, q, hA0, hV, _, _, _⟩ := hW
  have hA : DataW.TrodAll enc Try.prog W 0 (fun _ => true) true Try.f3.params.toList args.toList ds p := hA0
  rw [Try.params3] at hA hval
  obtain ⟨v0, vs0, d0, ds0, p0, q0, hargs, rfl, rfl, h0, r0⟩ := trodAll_cons hA
  obtain ⟨rfl, rfl, rfl⟩ := trodAll_nil r0
  obtain rfl : args = #[v0] := by cases args; simp_all
  obtain ⟨p, A, l, c, rfl, hR, hN, hC, hL⟩ := open_packet (hval 0 30 v0 rfl rfl) h0
  exact law_calls hW' rfl rfl rfl rfl rfl Try.underlying4 laidOutHeadersPut readHeadersPut ((by by_cases hl : l.length ≤ 3000; exact headersPut_walk p A l c W hR hN hl; exact headersPut_long p A l.length c W (by omega) hL))
set_option maxRecDepth 100000 in
theorem liftedHeadersPut (os : Os) (started : os.Started) (H : Type) (enc : TypeId × Value → H) :
    ReturnsInHanded {} Try.checked os 3 .any (Rows.headersPutSpec.pre6 enc Try.prog Try.f3 Rows.headersPutRow.domain false) (Rows.headersPutSpec.post enc Try.prog Try.f3 false true false false) := by
  refine returnsInHanded_of_change (C := Try.checked) ownHeadersPut started (by kernel_rfl) Try.func3
    (ChangeSpec.witness6 (enc := enc) (C := Try.checked) false ⟨#[], #[.agg (pkC pk58 none 0 0)], []⟩ 8 (by kernel_rfl) (by kernel_rfl) (by kernel_rfl) (by kernel_rfl)) ?_
  intro W base args ds gs before hval hW _ _
  exact contractHeadersPut H enc W base args ds gs before hval hW
theorem saidHeadersPut : Rows.HeadersPutSaid :=
  OpenClaim.holds_of_wide 3 Try.f3 rfl rfl rfl rfl rfl rfl rfl ⟨rfl, rfl, rfl, rfl, rfl⟩ rfl rfl rfl rfl rfl (by kernel_rfl) Try.func3 (by kernel_rfl)
    (of_decide_eq_true (by kernel_rfl)) (by unfold Func.isWrapper; first | (rw [if_pos (by decide +kernel)]; kernel_rfl) | (rw [if_neg (by decide +kernel)]; exact ⟨rfl, rfl⟩))
    (fun os started H enc _ => liftedHeadersPut os started H enc)
#print axioms saidHeadersPut
end Go.Proofs.Ytbfiakikhkiefaa

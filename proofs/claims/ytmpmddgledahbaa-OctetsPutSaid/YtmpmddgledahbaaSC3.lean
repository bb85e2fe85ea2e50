/- OctetsPut: behind any bytes any number, of however many bytes, is put as the chapter says; the bytes stay, and nothing is shared. For every slice of bytes, every number and every width. -/
import Derived.Test.YtmpmddgledahbaaS19
import Derived.Test.YtmpmddgledahbaaL4
import Derived.Test.YtmpmddgledahbaaRows
namespace Go.Proofs.Ytmpmddgledahbaa
open Go.ChangeShapes Go.WideShapes Go.ChangeAt Go.RowKit
theorem ownOctetsPut : ownKnob Try.prog.godebug = none := by kernel_rfl
theorem laidOutOctetsPut : laidOutB Try.prog = true := by kernel_rfl
theorem readOctetsPut : ∀ t ∈ Try.f4.params.toList, Try.prog.readableRec t = true ∧ t < Try.prog.types.size := fun t ht => by
  have h := List.all_eq_true.1 (show (Try.f4.params.toList.all fun t => Try.prog.readableRec t && decide (t < Try.prog.types.size)) = true by kernel_rfl) t ht
  simpa using h
theorem contractOctetsPut (H : Type) (enc : TypeId × Value → H) (W : World) (base : Nat) (args : Array Value) (ds gs : List (DataW H)) (before : List MemPlace)
    (hval : ∀ (j : Nat) t v, Try.f4.params[j]? = some t → args[j]? = some v → Value.okWide Try.prog W .any base t v)
    (hW : DataW.Whole enc Try.prog Try.f4.params.toList Rows.octetsPutSpec.vars false W args.toList ds gs before) :
    Calls Try.prog 4 args W fun e W' => ∃ v, e = .returned v ∧ Rows.octetsPutSpec.post enc Try.prog Try.f4 false true false false W args v W' := by
  have hW' := hW
  obtain ⟨p, q, hA0, hV, _, _, _⟩ := hW
  have hA : DataW.TrodAll enc Try.prog W 0 (fun _ => true) true Try.f4.params.toList args.toList ds p := hA0
  rw [Try.params4] at hA hval
  obtain ⟨v0, vs0, d0, ds0, p0, q0, hargs, rfl, rfl, h0, r0⟩ := trodAll_cons hA
  obtain ⟨v1, vs1, d1, ds1, p1, q1, rfl, rfl, rfl, h1, r1⟩ := trodAll_cons r0
  obtain ⟨v2, vs2, d2, ds2, p2, q2, rfl, rfl, rfl, h2, r2⟩ := trodAll_cons r1
  obtain ⟨rfl, rfl, rfl⟩ := trodAll_nil r2
  obtain rfl : args = #[v0, v1, v2] := by cases args; simp_all
  obtain ⟨A, l, c, rfl, hR0, hN0, hC0, hL0⟩ := open_bsl Try.underlying22 Try.underlying5 (by kernel_rfl) (hval 0 22 v0 rfl rfl) h0
  obtain ⟨n, rfl, hB1⟩ := open_u64 Try.underlying44 (hval 1 44 v1 rfl rfl) h1
  obtain ⟨m, rfl, hB2⟩ := open_i64 Try.underlying3 (hval 2 3 v2 rfl rfl) h2
  exact law_calls hW' rfl rfl rfl rfl rfl Try.underlying4 laidOutOctetsPut readOctetsPut ((by by_cases hl : l.length ≤ 5000; exact octetsPut_walk A l c n m W hR0 hN0 hl hB1 hB2; exact octetsPut_long A l c n m W (by omega) hL0))
set_option maxRecDepth 100000 in
theorem liftedOctetsPut (os : Os) (started : os.Started) (H : Type) (enc : TypeId × Value → H) :
    ReturnsInHanded {} Try.checked os 4 .any (Rows.octetsPutSpec.pre6 enc Try.prog Try.f4 Rows.octetsPutRow.domain false) (Rows.octetsPutSpec.post enc Try.prog Try.f4 false true false false) := by
  refine returnsInHanded_of_change (C := Try.checked) ownOctetsPut started (by kernel_rfl) Try.func4
    (ChangeSpec.witness6 (enc := enc) (C := Try.checked) false ⟨#[], #[.slice none 0 0, .int .u64 0, .int .i64 0], []⟩ 8 (by kernel_rfl) (by kernel_rfl) (by kernel_rfl) (by kernel_rfl)) ?_
  intro W base args ds gs before hval hW _ _
  exact contractOctetsPut H enc W base args ds gs before hval hW
theorem saidOctetsPut : Rows.OctetsPutSaid :=
  OpenClaim.holds_of_wide 4 Try.f4 rfl rfl rfl rfl rfl rfl rfl ⟨rfl, rfl, rfl, rfl, rfl⟩ rfl rfl rfl rfl rfl (by kernel_rfl) Try.func4 (by kernel_rfl)
    (of_decide_eq_true (by kernel_rfl)) (by unfold Func.isWrapper; first | (rw [if_pos (by decide +kernel)]; kernel_rfl) | (rw [if_neg (by decide +kernel)]; exact ⟨rfl, rfl⟩))
    (fun os started H enc _ => liftedOctetsPut os started H enc)
#print axioms saidOctetsPut
end Go.Proofs.Ytmpmddgledahbaa

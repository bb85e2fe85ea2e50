/- DatagramsSum: where two bytes of Data make the sum 0, 65535 is put; it is good, and got; a checksum of 0 never is. For any ends and any datagram. -/
import Derived.Test.YteeiihfbnkgcaaaD11
import Derived.Test.YteeiihfbnkgcaaaD6
import Derived.Test.YteeiihfbnkgcaaaRows
namespace Go.Proofs.Yteeiihfbnkgcaaa
open Go.ChangeShapes Go.WideShapes Go.ChangeAt Go.RowKit
theorem ownDatagramsSum : ownKnob Try.prog.godebug = none := by kernel_rfl
theorem laidOutDatagramsSum : laidOutB Try.prog = true := by kernel_rfl
theorem readDatagramsSum : ∀ t ∈ Try.f6.params.toList, Try.prog.readableRec t = true ∧ t < Try.prog.types.size := fun t ht => by
  have h := List.all_eq_true.1 (show (Try.f6.params.toList.all fun t => Try.prog.readableRec t && decide (t < Try.prog.types.size)) = true by kernel_rfl) t ht
  simpa using h
theorem contractDatagramsSum (H : Type) (enc : TypeId × Value → H) (W : World) (base : Nat) (args : Array Value) (ds gs : List (DataW H)) (before : List MemPlace)
    (hval : ∀ (j : Nat) t v, Try.f6.params[j]? = some t → args[j]? = some v → Value.okWide Try.prog W .any base t v)
    (hW : DataW.Whole enc Try.prog Try.f6.params.toList Rows.datagramsSumSpec.vars false W args.toList ds gs before) :
    Calls Try.prog 6 args W fun e W' => ∃ v, e = .returned v ∧ Rows.datagramsSumSpec.post enc Try.prog Try.f6 false true false false W args v W' := by
  have hW' := hW
  obtain ⟨p, q, hA0, hV, _, _, _⟩ := hW
  have hA : DataW.TrodAll enc Try.prog W 0 (fun _ => true) true Try.f6.params.toList args.toList ds p := hA0
  rw [Try.params6] at hA hval
  obtain ⟨v0, vs0, d0, ds0, p0, q0, hargs, rfl, rfl, h0, r0⟩ := trodAll_cons hA
  obtain ⟨v1, vs1, d1, ds1, p1, q1, rfl, rfl, rfl, h1, r1⟩ := trodAll_cons r0
  obtain ⟨rfl, rfl, rfl⟩ := trodAll_nil r1
  obtain rfl : args = #[v0, v1] := by cases args; simp_all
  obtain ⟨src, dst, rfl, hs, hd⟩ := open_ends (hval 0 25 v0 rfl rfl) h0
  obtain ⟨f, t, A, l, c, rfl, hf, ht, hR, hN, hC, hL⟩ := open_datagram (hval 1 29 v1 rfl rfl) h1
  exact law_calls hW' rfl rfl rfl rfl rfl Try.underlying4 laidOutDatagramsSum readDatagramsSum ((by by_cases hl : l.length ≤ 3000; exact datagramsSum_walk src dst f t A l c W hs hd hf ht hR hN hC hl; exact datagramsSum_long src dst f t A l.length c W hs hd (by omega)))
set_option maxRecDepth 100000 in
theorem liftedDatagramsSum (os : Os) (started : os.Started) (H : Type) (enc : TypeId × Value → H) :
    ReturnsInHanded {} Try.checked os 6 .any (Rows.datagramsSumSpec.pre6 enc Try.prog Try.f6 Rows.datagramsSumRow.domain false) (Rows.datagramsSumSpec.post enc Try.prog Try.f6 false true false false) := by
  refine returnsInHanded_of_change (C := Try.checked) ownDatagramsSum started (by kernel_rfl) Try.func6
    (ChangeSpec.witness6 (enc := enc) (C := Try.checked) false ⟨#[], #[.agg #[Value.int IntKind.u8 0, Value.int IntKind.u8 0, Value.int IntKind.u8 0, Value.int IntKind.u8 0, Value.int IntKind.u8 0, Value.int IntKind.u8 0, Value.int IntKind.u8 0, Value.int IntKind.u8 0, Value.int IntKind.u8 0, Value.int IntKind.u8 0, Value.int IntKind.u8 0, Value.int IntKind.u8 0, Value.int IntKind.u8 0, Value.int IntKind.u8 0, Value.int IntKind.u8 0, Value.int IntKind.u8 0, Value.int IntKind.u8 0, Value.int IntKind.u8 0, Value.int IntKind.u8 0, Value.int IntKind.u8 0, Value.int IntKind.u8 0, Value.int IntKind.u8 0, Value.int IntKind.u8 0, Value.int IntKind.u8 0, Value.int IntKind.u8 0, Value.int IntKind.u8 0, Value.int IntKind.u8 0, Value.int IntKind.u8 0, Value.int IntKind.u8 0, Value.int IntKind.u8 0, Value.int IntKind.u8 0, Value.int IntKind.u8 0], .agg (dgc 0 0 none 0 0)], []⟩ 8 (by kernel_rfl) (by kernel_rfl) (by kernel_rfl) (by kernel_rfl)) ?_
  intro W base args ds gs before hval hW _ _
  exact contractDatagramsSum H enc W base args ds gs before hval hW
theorem saidDatagramsSum : Rows.DatagramsSumSaid :=
  OpenClaim.holds_of_wide 6 Try.f6 rfl rfl rfl rfl rfl rfl rfl ⟨rfl, rfl, rfl, rfl, rfl⟩ rfl rfl rfl rfl rfl (by kernel_rfl) Try.func6 (by kernel_rfl)
    (of_decide_eq_true (by kernel_rfl)) (by unfold Func.isWrapper; first | (rw [if_pos (by decide +kernel)]; kernel_rfl) | (rw [if_neg (by decide +kernel)]; exact ⟨rfl, rfl⟩))
    (fun os started H enc _ => liftedDatagramsSum os started H enc)
#print axioms saidDatagramsSum
end Go.Proofs.Yteeiihfbnkgcaaa

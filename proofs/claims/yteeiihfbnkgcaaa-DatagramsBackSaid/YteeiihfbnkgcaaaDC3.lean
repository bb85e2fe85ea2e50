/- DatagramsBack: what is put is got, whatever stands behind it; cut anywhere it is too short, or of another form; with any bit turned it is not good, nor between ends whose sum is another one. For any ends, any datagram, any bytes behind, any bit. -/
import Derived.Test.YteeiihfbnkgcaaaD10
import Derived.Test.YteeiihfbnkgcaaaD6
import Derived.Test.YteeiihfbnkgcaaaRows
namespace Go.Proofs.Yteeiihfbnkgcaaa
open Go.ChangeShapes Go.WideShapes Go.ChangeAt Go.RowKit
theorem open_spoil {H : Type} {enc : TypeId × Value → H} {w : World} {base b0 : Nat} {r : Go.Reach} {held : Bool} {v : Value} {d : DataW H} {ps : List MemPlace}
    (hval : Value.okWide Try.prog w r b0 47 v) (hd : DataW.Trod enc Try.prog w base (fun _ => true) held 47 v d ps) :
    ∃ (A : Option Addr) (l : List UInt8) (c a : Nat), v = .agg (spc A l.length c a) ∧ a < 65536 ∧ Rd w w.heap.size A l ∧ (A = none → l = [] ∧ c = 0) ∧ l.length ≤ c ∧ l.length < 2 ^ 63 := by
  obtain ⟨m, cs, rfl, p0, q0, y0, rfl, h0, p1, q1, y1, rfl, h1, rfl⟩ := open_parts Try.underlying47 (by kernel_rfl) hval hd
  obtain ⟨A, l, c, rfl, hR, hN, hC, hL⟩ := open_bsl_in Try.underlying27 Try.underlying5 (by kernel_rfl) h0
  obtain ⟨a, rfl, ha⟩ := part_u16 Try.underlying26 h1
  exact ⟨A, l, c, a, rfl, ha, hR, hN, hC, hL⟩
theorem ownDatagramsBack : ownKnob Try.prog.godebug = none := by kernel_rfl
theorem laidOutDatagramsBack : laidOutB Try.prog = true := by kernel_rfl
theorem readDatagramsBack : ∀ t ∈ Try.f5.params.toList, Try.prog.readableRec t = true ∧ t < Try.prog.types.size := fun t ht => by
  have h := List.all_eq_true.1 (show (Try.f5.params.toList.all fun t => Try.prog.readableRec t && decide (t < Try.prog.types.size)) = true by kernel_rfl) t ht
  simpa using h
theorem contractDatagramsBack (H : Type) (enc : TypeId × Value → H) (W : World) (base : Nat) (args : Array Value) (ds gs : List (DataW H)) (before : List MemPlace)
    (hval : ∀ (j : Nat) t v, Try.f5.params[j]? = some t → args[j]? = some v → Value.okWide Try.prog W .any base t v)
    (hW : DataW.Whole enc Try.prog Try.f5.params.toList Rows.datagramsBackSpec.vars false W args.toList ds gs before) :
    Calls Try.prog 5 args W fun e W' => ∃ v, e = .returned v ∧ Rows.datagramsBackSpec.post enc Try.prog Try.f5 false true false false W args v W' := by
  have hW' := hW
  obtain ⟨p, q, hA0, hV, _, _, _⟩ := hW
  have hA : DataW.TrodAll enc Try.prog W 0 (fun _ => true) true Try.f5.params.toList args.toList ds p := hA0
  rw [Try.params5] at hA hval
  obtain ⟨v0, vs0, d0, ds0, p0, q0, hargs, rfl, rfl, h0, r0⟩ := trodAll_cons hA
  obtain ⟨v1, vs1, d1, ds1, p1, q1, rfl, rfl, rfl, h1, r1⟩ := trodAll_cons r0
  obtain ⟨v2, vs2, d2, ds2, p2, q2, rfl, rfl, rfl, h2, r2⟩ := trodAll_cons r1
  obtain ⟨rfl, rfl, rfl⟩ := trodAll_nil r2
  obtain rfl : args = #[v0, v1, v2] := by cases args; simp_all
  obtain ⟨src, dst, rfl, hs, hd⟩ := open_ends (hval 0 25 v0 rfl rfl) h0
  obtain ⟨f, t, A, l, c, rfl, hf, ht, hR, hN, hC, hL⟩ := open_datagram (hval 1 29 v1 rfl rfl) h1
  obtain ⟨Z, z, zc, a, rfl, ha, hzR, hzN, hzC, hzL⟩ := open_spoil (hval 2 47 v2 rfl rfl) h2
  exact law_calls hW' rfl rfl rfl rfl rfl Try.underlying4 laidOutDatagramsBack readDatagramsBack ((by by_cases hl : l.length ≤ 3000 ∧ z.length ≤ 500; exact datagramsBack_walk src dst f t A l c Z z zc a W hs hd hf ht hR hN hl.1 hzR hzN hl.2 ha; exact datagramsBack_long src dst f t A l.length c Z z.length zc a W hs hd (by omega)))
set_option maxRecDepth 100000 in
theorem liftedDatagramsBack (os : Os) (started : os.Started) (H : Type) (enc : TypeId × Value → H) :
    ReturnsInHanded {} Try.checked os 5 .any (Rows.datagramsBackSpec.pre6 enc Try.prog Try.f5 Rows.datagramsBackRow.domain false) (Rows.datagramsBackSpec.post enc Try.prog Try.f5 false true false false) := by
  refine returnsInHanded_of_change (C := Try.checked) ownDatagramsBack started (by kernel_rfl) Try.func5
    (ChangeSpec.witness6 (enc := enc) (C := Try.checked) false ⟨#[], #[.agg #[Value.int IntKind.u8 0, Value.int IntKind.u8 0, Value.int IntKind.u8 0, Value.int IntKind.u8 0, Value.int IntKind.u8 0, Value.int IntKind.u8 0, Value.int IntKind.u8 0, Value.int IntKind.u8 0, Value.int IntKind.u8 0, Value.int IntKind.u8 0, Value.int IntKind.u8 0, Value.int IntKind.u8 0, Value.int IntKind.u8 0, Value.int IntKind.u8 0, Value.int IntKind.u8 0, Value.int IntKind.u8 0, Value.int IntKind.u8 0, Value.int IntKind.u8 0, Value.int IntKind.u8 0, Value.int IntKind.u8 0, Value.int IntKind.u8 0, Value.int IntKind.u8 0, Value.int IntKind.u8 0, Value.int IntKind.u8 0, Value.int IntKind.u8 0, Value.int IntKind.u8 0, Value.int IntKind.u8 0, Value.int IntKind.u8 0, Value.int IntKind.u8 0, Value.int IntKind.u8 0, Value.int IntKind.u8 0, Value.int IntKind.u8 0], .agg (dgc 0 0 none 0 0), .agg (spc none 0 0 0)], []⟩ 8 (by kernel_rfl) (by kernel_rfl) (by kernel_rfl) (by kernel_rfl)) ?_
  intro W base args ds gs before hval hW _ _
  exact contractDatagramsBack H enc W base args ds gs before hval hW
theorem saidDatagramsBack : Rows.DatagramsBackSaid :=
  OpenClaim.holds_of_wide 5 Try.f5 rfl rfl rfl rfl rfl rfl rfl ⟨rfl, rfl, rfl, rfl, rfl⟩ rfl rfl rfl rfl rfl (by kernel_rfl) Try.func5 (by kernel_rfl)
    (of_decide_eq_true (by kernel_rfl)) (by unfold Func.isWrapper; first | (rw [if_pos (by decide +kernel)]; kernel_rfl) | (rw [if_neg (by decide +kernel)]; exact ⟨rfl, rfl⟩))
    (fun os started H enc _ => liftedDatagramsBack os started H enc)
#print axioms saidDatagramsBack
end Go.Proofs.Yteeiihfbnkgcaaa

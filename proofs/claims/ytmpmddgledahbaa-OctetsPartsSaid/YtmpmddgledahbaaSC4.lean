/- OctetsParts: bytes that are cut in parts are, together, the bytes; a part more than there is spoils, and whatever is asked behind that is nothing. For every slice of bytes, every list of lengths and every ask. -/
import Derived.Test.YtmpmddgledahbaaS20
import Derived.Test.YtmpmddgledahbaaL5
import Derived.Test.YtmpmddgledahbaaRows
namespace Go.Proofs.Ytmpmddgledahbaa
open Go.ChangeShapes Go.WideShapes Go.ChangeAt Go.RowKit Go.Joins
theorem ownOctetsParts : ownKnob Try.prog.godebug = none := by kernel_rfl
theorem laidOutOctetsParts : laidOutB Try.prog = true := by kernel_rfl
theorem readOctetsParts : ∀ t ∈ Try.f7.params.toList, Try.prog.readableRec t = true ∧ t < Try.prog.types.size := fun t ht => by
  have h := List.all_eq_true.1 (show (Try.f7.params.toList.all fun t => Try.prog.readableRec t && decide (t < Try.prog.types.size)) = true by kernel_rfl) t ht
  simpa using h
theorem contractOctetsParts (H : Type) (enc : TypeId × Value → H) (W : World) (base : Nat) (args : Array Value) (ds gs : List (DataW H)) (before : List MemPlace)
    (hval : ∀ (j : Nat) t v, Try.f7.params[j]? = some t → args[j]? = some v → Value.okWide Try.prog W .any base t v)
    (hW : DataW.Whole enc Try.prog Try.f7.params.toList Rows.octetsPartsSpec.vars false W args.toList ds gs before) :
    Calls Try.prog 7 args W fun e W' => ∃ v, e = .returned v ∧ Rows.octetsPartsSpec.post enc Try.prog Try.f7 false true false false W args v W' := by
  have hW' := hW
  obtain ⟨p, q, hA0, hV, _, _, _⟩ := hW
  have hA : DataW.TrodAll enc Try.prog W 0 (fun _ => true) true Try.f7.params.toList args.toList ds p := hA0
  rw [Try.params7] at hA hval
  obtain ⟨v0, vs0, d0, ds0, p0, q0, hargs, rfl, rfl, h0, r0⟩ := trodAll_cons hA
  obtain ⟨v1, vs1, d1, ds1, p1, q1, rfl, rfl, rfl, h1, r1⟩ := trodAll_cons r0
  obtain ⟨v2, vs2, d2, ds2, p2, q2, rfl, rfl, rfl, h2, r2⟩ := trodAll_cons r1
  obtain ⟨rfl, rfl, rfl⟩ := trodAll_nil r2
  obtain rfl : args = #[v0, v1, v2] := by cases args; simp_all
  obtain ⟨A, l, c, rfl, hR0, hN0, hC0, hL0⟩ := open_bsl Try.underlying22 Try.underlying5 (by kernel_rfl) (hval 0 22 v0 rfl rfl) h0
  obtain ⟨A2, l2, c2, rfl, hR1, hN1, hC1, hL1⟩ := open_bsl Try.underlying22 Try.underlying5 (by kernel_rfl) (hval 1 22 v1 rfl rfl) h1
  obtain ⟨x0, x1, y0, y1, n', rfl, _, _, hy0, hy1⟩ := open_agg2 Try.underlying35 (by kernel_rfl) (by kernel_rfl) (hval 2 35 v2 rfl rfl) h2
  obtain ⟨x, rfl⟩ := trod_u8 Try.underlying5 hy0
  obtain ⟨n, rfl, hn1, hn2⟩ := trod_i64 Try.underlying3 hy1
  exact law_calls hW' rfl rfl rfl rfl rfl Try.underlying4 laidOutOctetsParts readOctetsParts ((by by_cases hl : l.length ≤ 2000 ∧ l2.length ≤ 300; exact octetsParts_walk A A2 l l2 c c2 x n W hR0 hN0 hC0 hR1 hl.1 hl.2 ⟨hn1, hn2⟩; exact octetsParts_long A A2 l l2 c c2 x n W (by omega) hL0 hL1))
set_option maxRecDepth 100000 in
theorem liftedOctetsParts (os : Os) (started : os.Started) (H : Type) (enc : TypeId × Value → H) :
    ReturnsInHanded {} Try.checked os 7 .any (Rows.octetsPartsSpec.pre6 enc Try.prog Try.f7 Rows.octetsPartsRow.domain false) (Rows.octetsPartsSpec.post enc Try.prog Try.f7 false true false false) := by
  refine returnsInHanded_of_change (C := Try.checked) ownOctetsParts started (by kernel_rfl) Try.func7
    (ChangeSpec.witness6 (enc := enc) (C := Try.checked) false ⟨#[], #[.slice none 0 0, .slice none 0 0, .agg #[.int .u8 0, .int .i64 0]], []⟩ 8 (by kernel_rfl) (by kernel_rfl) (by kernel_rfl) (by kernel_rfl)) ?_
  intro W base args ds gs before hval hW _ _
  exact contractOctetsParts H enc W base args ds gs before hval hW
theorem saidOctetsParts : Rows.OctetsPartsSaid :=
  OpenClaim.holds_of_wide 7 Try.f7 rfl rfl rfl rfl rfl rfl rfl ⟨rfl, rfl, rfl, rfl, rfl⟩ rfl rfl rfl rfl rfl (by kernel_rfl) Try.func7 (by kernel_rfl)
    (of_decide_eq_true (by kernel_rfl)) (by unfold Func.isWrapper; first | (rw [if_pos (by decide +kernel)]; kernel_rfl) | (rw [if_neg (by decide +kernel)]; exact ⟨rfl, rfl⟩))
    (fun os started H enc _ => liftedOctetsParts os started H enc)
#print axioms saidOctetsParts
end Go.Proofs.Ytmpmddgledahbaa

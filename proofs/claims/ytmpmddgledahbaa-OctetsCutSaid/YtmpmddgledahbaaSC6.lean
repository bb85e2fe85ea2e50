/- OctetsCut: whatever is asked of a cutter of any bytes, in whatever order, each answer, how many are left, and whether it is spoilt, is the chapter's; the bytes stay, and nothing is shared. For every slice of bytes and every list of asks. -/
import Derived.Test.YtmpmddgledahbaaS28
import Derived.Test.YtmpmddgledahbaaL5
import Derived.Test.YtmpmddgledahbaaRows
namespace Go.Proofs.Ytmpmddgledahbaa
open Go.ChangeShapes Go.WideShapes Go.ChangeAt Go.RowKit Go.Joins
theorem ownOctetsCut : ownKnob Try.prog.godebug = none := by kernel_rfl
theorem laidOutOctetsCut : laidOutB Try.prog = true := by kernel_rfl
theorem readOctetsCut : ∀ t ∈ Try.f3.params.toList, Try.prog.readableRec t = true ∧ t < Try.prog.types.size := fun t ht => by
  have h := List.all_eq_true.1 (show (Try.f3.params.toList.all fun t => Try.prog.readableRec t && decide (t < Try.prog.types.size)) = true by kernel_rfl) t ht
  simpa using h
theorem contractOctetsCut (H : Type) (enc : TypeId × Value → H) (W : World) (base : Nat) (args : Array Value) (ds gs : List (DataW H)) (before : List MemPlace)
    (hval : ∀ (j : Nat) t v, Try.f3.params[j]? = some t → args[j]? = some v → Value.okWide Try.prog W .any base t v)
    (hW : DataW.Whole enc Try.prog Try.f3.params.toList Rows.octetsCutSpec.vars false W args.toList ds gs before) :
    Calls Try.prog 3 args W fun e W' => ∃ v, e = .returned v ∧ Rows.octetsCutSpec.post enc Try.prog Try.f3 false true false false W args v W' := by
  have hW' := hW
  obtain ⟨p, q, hA0, hV, _, _, _⟩ := hW
  have hA : DataW.TrodAll enc Try.prog W 0 (fun _ => true) true Try.f3.params.toList args.toList ds p := hA0
  rw [Try.params3] at hA hval
  obtain ⟨v0, vs0, d0, ds0, p0, q0, hargs, rfl, rfl, h0, r0⟩ := trodAll_cons hA
  obtain ⟨v1, vs1, d1, ds1, p1, q1, rfl, rfl, rfl, h1, r1⟩ := trodAll_cons r0
  obtain ⟨rfl, rfl, rfl⟩ := trodAll_nil r1
  obtain rfl : args = #[v0, v1] := by cases args; simp_all
  obtain ⟨A, l, c, rfl, hR0, hN0, hC0, hL0⟩ := open_bsl Try.underlying22 Try.underlying5 (by kernel_rfl) (hval 0 22 v0 rfl rfl) h0
  obtain ⟨A2, n, c2, rfl, _, _, hn63, hel⟩ := open_sl Try.underlying23 (C := 2) (by kernel_rfl) (by omega) (hval 1 23 v1 rfl rfl) h1
  have hel2 : ∀ i, i < n → ∃ y : UInt8 × Int, ∃ b o, A2 = some ⟨b, o, none⟩ ∧ b < W.heap.size ∧ W.cell? ⟨b, o + i * 2, none⟩ = some (B y.1) ∧ W.cell? ⟨b, o + i * 2 + 1, none⟩ = some (.int .i64 y.2) := fun i hi => by
    obtain ⟨cs, b, o, f, x, hl, ht, e, hb, hc⟩ := hel i hi
    obtain ⟨u0, u1, y0, y1, f', rfl, hy0, hy1⟩ := open_two Try.underlying35 (by kernel_rfl) hl ht
    obtain ⟨k, rfl⟩ := trod_u8 Try.underlying5 hy0
    obtain ⟨m, rfl, _, _⟩ := trod_i64 Try.underlying3 hy1
    exact ⟨(k, m), b, o, e, hb, hc 0 (by omega), hc 1 (by omega)⟩
  obtain ⟨al, rfl, hal⟩ := list_of hel2
  have hQ : Asks W W.heap.size A2 al := fun k hk => hal k hk
  exact law_calls hW' rfl rfl rfl rfl rfl Try.underlying4 laidOutOctetsCut readOctetsCut ((by by_cases hs : l.length ≤ 5000 ∧ al.length ≤ 100; exact octetsCut_walk A A2 l al c c2 W hR0 hN0 hQ hs.1 hs.2; exact octetsCut_long A A2 l al.length c c2 W (by omega) hL0 hn63))
set_option maxRecDepth 100000 in
theorem liftedOctetsCut (os : Os) (started : os.Started) (H : Type) (enc : TypeId × Value → H) :
    ReturnsInHanded {} Try.checked os 3 .any (Rows.octetsCutSpec.pre6 enc Try.prog Try.f3 Rows.octetsCutRow.domain false) (Rows.octetsCutSpec.post enc Try.prog Try.f3 false true false false) := by
  refine returnsInHanded_of_change (C := Try.checked) ownOctetsCut started (by kernel_rfl) Try.func3
    (ChangeSpec.witness6 (enc := enc) (C := Try.checked) false ⟨#[], #[.slice none 0 0, .slice none 0 0], []⟩ 8 (by kernel_rfl) (by kernel_rfl) (by kernel_rfl) (by kernel_rfl)) ?_
  intro W base args ds gs before hval hW _ _
  exact contractOctetsCut H enc W base args ds gs before hval hW
theorem saidOctetsCut : Rows.OctetsCutSaid :=
  OpenClaim.holds_of_wide 3 Try.f3 rfl rfl rfl rfl rfl rfl rfl ⟨rfl, rfl, rfl, rfl, rfl⟩ rfl rfl rfl rfl rfl (by kernel_rfl) Try.func3 (by kernel_rfl)
    (of_decide_eq_true (by kernel_rfl)) (by unfold Func.isWrapper; first | (rw [if_pos (by decide +kernel)]; kernel_rfl) | (rw [if_neg (by decide +kernel)]; exact ⟨rfl, rfl⟩))
    (fun os started H enc _ => liftedOctetsCut os started H enc)
#print axioms saidOctetsCut
end Go.Proofs.Ytmpmddgledahbaa

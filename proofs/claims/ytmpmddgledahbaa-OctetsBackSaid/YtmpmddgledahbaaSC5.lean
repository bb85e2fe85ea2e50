/- OctetsBack: numbers that are put one behind the other are cut again, in order, as far as they fit; then the bytes that stand behind them are left. For every list of numbers and every slice of bytes behind. -/
import Derived.Test.YtmpmddgledahbaaS21
import Derived.Test.YtmpmddgledahbaaL5
import Derived.Test.YtmpmddgledahbaaRows
namespace Go.Proofs.Ytmpmddgledahbaa
open Go.ChangeShapes Go.WideShapes Go.ChangeAt Go.RowKit Go.Joins
theorem ownOctetsBack : ownKnob Try.prog.godebug = none := by kernel_rfl
theorem laidOutOctetsBack : laidOutB Try.prog = true := by kernel_rfl
theorem readOctetsBack : ∀ t ∈ Try.f6.params.toList, Try.prog.readableRec t = true ∧ t < Try.prog.types.size := fun t ht => by
  have h := List.all_eq_true.1 (show (Try.f6.params.toList.all fun t => Try.prog.readableRec t && decide (t < Try.prog.types.size)) = true by kernel_rfl) t ht
  simpa using h
theorem contractOctetsBack (H : Type) (enc : TypeId × Value → H) (W : World) (base : Nat) (args : Array Value) (ds gs : List (DataW H)) (before : List MemPlace)
    (hval : ∀ (j : Nat) t v, Try.f6.params[j]? = some t → args[j]? = some v → Value.okWide Try.prog W .any base t v)
    (hW : DataW.Whole enc Try.prog Try.f6.params.toList Rows.octetsBackSpec.vars false W args.toList ds gs before) :
    Calls Try.prog 6 args W fun e W' => ∃ v, e = .returned v ∧ Rows.octetsBackSpec.post enc Try.prog Try.f6 false true false false W args v W' := by
  have hW' := hW
  obtain ⟨p, q, hA0, hV, _, _, _⟩ := hW
  have hA : DataW.TrodAll enc Try.prog W 0 (fun _ => true) true Try.f6.params.toList args.toList ds p := hA0
  rw [Try.params6] at hA hval
  obtain ⟨v0, vs0, d0, ds0, p0, q0, hargs, rfl, rfl, h0, r0⟩ := trodAll_cons hA
  obtain ⟨v1, vs1, d1, ds1, p1, q1, rfl, rfl, rfl, h1, r1⟩ := trodAll_cons r0
  obtain ⟨rfl, rfl, rfl⟩ := trodAll_nil r1
  obtain rfl : args = #[v0, v1] := by cases args; simp_all
  obtain ⟨A, n, c, rfl, _, _, hn63, hel⟩ := open_sl Try.underlying53 (C := 2) (by kernel_rfl) (by omega) (hval 0 53 v0 rfl rfl) h0
  have hel2 : ∀ i, i < n → ∃ y : Nat × UInt8, y.1 < 2 ^ 64 ∧ ∃ b o, A = some ⟨b, o, none⟩ ∧ b < W.heap.size ∧ W.cell? ⟨b, o + i * 2, none⟩ = some (.int .u64 y.1) ∧ W.cell? ⟨b, o + i * 2 + 1, none⟩ = some (B y.2) := fun i hi => by
    obtain ⟨cs, b, o, f, x, hl, ht, e, hb, hc⟩ := hel i hi
    obtain ⟨u0, u1, y0, y1, f', rfl, hy0, hy1⟩ := open_two Try.underlying55 (by kernel_rfl) hl ht
    obtain ⟨m, rfl, hm⟩ := trod_u64 Try.underlying44 hy0
    obtain ⟨k, rfl⟩ := trod_u8 Try.underlying5 hy1
    exact ⟨(m, k), hm, b, o, e, hb, hc 0 (by omega), hc 1 (by omega)⟩
  obtain ⟨l, rfl, hl⟩ := list_of hel2
  have hN : Nums W W.heap.size A l := fun k hk => by
    obtain ⟨h64, b, o, e, hb, hc0, hc1⟩ := hl k hk
    exact ⟨b, o, e, hb, hc0, hc1, h64⟩
  obtain ⟨A2, l2, c2, rfl, hR1, hN1, hC1, hL1⟩ := open_bsl Try.underlying22 Try.underlying5 (by kernel_rfl) (hval 1 22 v1 rfl rfl) h1
  exact law_calls hW' rfl rfl rfl rfl rfl Try.underlying4 laidOutOctetsBack readOctetsBack ((by by_cases hs : l.length ≤ 100 ∧ l2.length ≤ 1000; exact octetsBack_walk A A2 l l2 c c2 W hN hR1 hN1 hs.1 hs.2; exact octetsBack_long A A2 l.length l2 c c2 W (by omega) hn63 hL1))
set_option maxRecDepth 100000 in
theorem liftedOctetsBack (os : Os) (started : os.Started) (H : Type) (enc : TypeId × Value → H) :
    ReturnsInHanded {} Try.checked os 6 .any (Rows.octetsBackSpec.pre6 enc Try.prog Try.f6 Rows.octetsBackRow.domain false) (Rows.octetsBackSpec.post enc Try.prog Try.f6 false true false false) := by
  refine returnsInHanded_of_change (C := Try.checked) ownOctetsBack started (by kernel_rfl) Try.func6
    (ChangeSpec.witness6 (enc := enc) (C := Try.checked) false ⟨#[], #[.slice none 0 0, .slice none 0 0], []⟩ 8 (by kernel_rfl) (by kernel_rfl) (by kernel_rfl) (by kernel_rfl)) ?_
  intro W base args ds gs before hval hW _ _
  exact contractOctetsBack H enc W base args ds gs before hval hW
theorem saidOctetsBack : Rows.OctetsBackSaid :=
  OpenClaim.holds_of_wide 6 Try.f6 rfl rfl rfl rfl rfl rfl rfl ⟨rfl, rfl, rfl, rfl, rfl⟩ rfl rfl rfl rfl rfl (by kernel_rfl) Try.func6 (by kernel_rfl)
    (of_decide_eq_true (by kernel_rfl)) (by unfold Func.isWrapper; first | (rw [if_pos (by decide +kernel)]; kernel_rfl) | (rw [if_neg (by decide +kernel)]; exact ⟨rfl, rfl⟩))
    (fun os started H enc _ => liftedOctetsBack os started H enc)
#print axioms saidOctetsBack
end Go.Proofs.Ytmpmddgledahbaa

/- InfosAgain: while it asks it is asked again and again, each time of the same transaction, within 3960000; how long it asks already never falls. For any words of chance, however many requests. -/
import Derived.Test.YtfldoihindbdmaaF16
import Derived.Test.YtfldoihindbdmaaL9
import Derived.Test.YtfldoihindbdmaaRows
namespace Go.Proofs.Ytfldoihindbdmaa
open Go.ChangeShapes Go.WideShapes Go.ChangeAt Go.RowKit Go.Deep
set_option maxRecDepth 100000
theorem open_words {H : Type} {enc : TypeId × Value → H} {w : World} {base b0 : Nat} {r : Reach} {held : Bool} {v : Value} {d : DataW H} {ps : List MemPlace}
    (hval : Value.okWide Try.prog w r b0 49 v) (hd : DataW.Trod enc Try.prog w base (fun _ => true) held 49 v d ps) :
    ∃ (A : Option Addr) (l : List Nat) (c : Nat), v = .slice A l.length c ∧ RU w A l ∧ l.length < 2 ^ 63 := by
  obtain ⟨fuel, hf⟩ := hd
  obtain ⟨a', n', c', rfl⟩ := okWide_slice Try.underlying49 hval
  rcases open_ints Try.underlying49 Try.underlying23 (by kernel_rfl) hf with ⟨hcs, _⟩ | ⟨a, len, cap, zs, hcs, _, hl, hm, hz, _, hcell, hw⟩
  · have e : (Value.slice a' n' c') = .slice none 0 0 := by simpa [Value.cells] using hcs
    exact ⟨none, [], 0, e, fun k hk => absurd hk (by simp), by simp⟩
  · have e : (Value.slice a' n' c') = .slice (some a) len cap := by simpa [Value.cells] using hcs
    simp only [if_true] at hz
    have hbz : ∀ z ∈ zs, ((z.toNat : Nat) : Int) = z ∧ z.toNat < 4294967296 := fun z hzm => by
      have hb : 0 ≤ z ∧ z ≤ 4294967295 := by simpa [Lit.wf, IntKind.min, IntKind.max, IntKind.signed, IntKind.bits] using hw z hzm
      omega
    have hll : ((zs.take len).map Int.toNat).length = len := by simp; omega
    refine ⟨some a, (zs.take len).map Int.toNat, cap, by rw [hll]; exact e, fun k hk => ?_, by rw [hll]; unfold maxLen at hm; omega⟩
    rw [hll] at hk
    have c0 := hcell 0 (by omega)
    have ha0 : a.add 0 = a := by simp [Addr.add]
    rw [ha0] at c0
    obtain ⟨hb0, hs0⟩ := cell_lt c0
    obtain ⟨b, o, sp⟩ := a
    simp only at hs0 hb0
    subst hs0
    have cj := hcell k (by omega)
    have haj : (Addr.mk b o none).add k = ⟨b, o + k, none⟩ := by
      unfold Addr.add; split
      · rename_i h; subst h; rfl
      · rfl
    rw [haj] at cj
    have hzj : zs.getD k 0 = zs[k]'(by omega) := by simp [List.getD, List.getElem?_eq_getElem (show k < zs.length by omega)]
    rw [hzj] at cj
    obtain ⟨h1, h2⟩ := hbz (zs[k]'(by omega)) (List.getElem_mem _)
    refine ⟨b, o, rfl, hb0, ?_, ?_⟩
    · rw [cj]
      simp only [List.getElem_map, List.getElem_take]
      rw [h1]
    · simp only [List.getElem_map, List.getElem_take]
      exact h2
theorem ownInfosAgain : ownKnob Try.prog.godebug = none := by kernel_rfl
theorem laidOutInfosAgain : laidOutB Try.prog = true := by kernel_rfl
theorem readInfosAgain : ∀ t ∈ Try.f5.params.toList, Try.prog.readableRec t = true ∧ t < Try.prog.types.size := fun t ht => by
  have h := List.all_eq_true.1 (show (Try.f5.params.toList.all fun t => Try.prog.readableRec t && decide (t < Try.prog.types.size)) = true by kernel_rfl) t ht
  simpa using h
theorem contractInfosAgain (H : Type) (enc : TypeId × Value → H) (W : World) (base : Nat) (args : Array Value) (ds gs : List (DataW H)) (before : List MemPlace)
    (hval : ∀ (j : Nat) t v, Try.f5.params[j]? = some t → args[j]? = some v → Value.okWide Try.prog W .any base t v)
    (hW : DataW.Whole enc Try.prog Try.f5.params.toList Rows.infosAgainSpec.vars false W args.toList ds gs before) :
    Calls Try.prog 5 args W fun e W' => ∃ v, e = .returned v ∧ Rows.infosAgainSpec.post enc Try.prog Try.f5 false true false false W args v W' := by
  have hW' := hW
  obtain ⟨p, q, hA0, hV, _, _, _⟩ := hW
  have hA : DataW.TrodAll enc Try.prog W 0 (fun _ => true) true Try.f5.params.toList args.toList ds p := hA0
  rw [Try.params5] at hA hval
  obtain ⟨v0, vs0, d0, ds0, p0, q0, hargs, rfl, rfl, h0, r0⟩ := trodAll_cons hA
  obtain ⟨v1, vs1, d1, ds1, p1, q1, rfl, rfl, rfl, h1, r1⟩ := trodAll_cons r0
  obtain ⟨rfl, rfl, rfl⟩ := trodAll_nil r1
  obtain rfl : args = #[v0, v1] := by cases args; simp_all
  obtain ⟨A, ws, c, rfl, hR, hL⟩ := open_words (hval 0 49 v0 rfl rfl) h0
  obtain ⟨m, rfl⟩ := open_u8 Try.underlying5 (hval 1 5 v1 rfl rfl) h1
  exact law_calls hW' rfl rfl rfl rfl rfl Try.underlying4 laidOutInfosAgain readInfosAgain ((by by_cases hl : 256 < ws.length; exact infosAgain_long A ws.length c m W hl hL; exact infosAgain_walk A ws c m W hR (by omega)))
set_option maxRecDepth 100000 in
theorem liftedInfosAgain (os : Os) (started : os.Started) (H : Type) (enc : TypeId × Value → H) :
    ReturnsInHanded {} Try.checked os 5 .any (Rows.infosAgainSpec.pre6 enc Try.prog Try.f5 Rows.infosAgainRow.domain false) (Rows.infosAgainSpec.post enc Try.prog Try.f5 false true false false) := by
  refine returnsInHanded_of_change (C := Try.checked) ownInfosAgain started (by kernel_rfl) Try.func5
    (ChangeSpec.witness6 (enc := enc) (C := Try.checked) false ⟨#[], #[.slice none 0 0, B 0], []⟩ 8 (by kernel_rfl) (by kernel_rfl) (by kernel_rfl) (by kernel_rfl)) ?_
  intro W base args ds gs before hval hW _ _
  exact contractInfosAgain H enc W base args ds gs before hval hW
theorem saidInfosAgain : Rows.InfosAgainSaid :=
  OpenClaim.holds_of_wide 5 Try.f5 rfl rfl rfl rfl rfl rfl rfl ⟨rfl, rfl, rfl, rfl, rfl⟩ rfl rfl rfl rfl rfl (by kernel_rfl) Try.func5 (by kernel_rfl)
    (of_decide_eq_true (by kernel_rfl)) (by unfold Func.isWrapper; first | (rw [if_pos (by decide +kernel)]; kernel_rfl) | (rw [if_neg (by decide +kernel)]; exact ⟨rfl, rfl⟩))
    (fun os started H enc _ => liftedInfosAgain os started H enc)
#print axioms saidInfosAgain
end Go.Proofs.Ytfldoihindbdmaa

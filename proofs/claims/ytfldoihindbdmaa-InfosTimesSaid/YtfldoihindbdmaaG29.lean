/- Words that came in, opened; six bytes, too. -/
import Derived.Test.YtfldoihindbdmaaMgI
import Derived.Test.YtfldoihindbdmaaMgJ
namespace Go.Proofs.Ytfldoihindbdmaa
open Go.ChangeShapes Go.WideShapes Go.ChangeAt Go.RowKit Go.Deep
set_option maxRecDepth 100000
theorem open_words2 {H : Type} {enc : TypeId × Value → H} {w : World} {base b0 : Nat} {r : Reach} {held : Bool} {v : Value} {d : DataW H} {ps : List MemPlace}
    (hval : Value.okWide Try.prog w r b0 49 v) (hd : DataW.Trod enc Try.prog w base (fun _ => true) held 49 v d ps) :
    ∃ (A : Option Addr) (l : List Nat) (c : Nat), v = .slice A l.length c ∧ RU w A l ∧ l.length < 2 ^ 63 := by
  obtain ⟨fuel, hf⟩ := hd
  obtain ⟨a', n', c', rfl⟩ := okWide_slice Try.underlying49 hval
  rcases open_ints Try.underlying49 Try.underlying23 (by kernel_rfl) hf with ⟨hcs, _⟩ | ⟨a, len, cap, zs, hcs, _, hl, hm, hz, _, hcell, hw⟩
  · have e : (Value.slice a' n' c') = .slice none 0 0 := by simpa [Value.cells] using hcs
    exact ⟨none, [], 0, e, fun k hk => absurd hk (by simp), by simp⟩
  · have e : (Value.slice a' n' c') = .slice (some a) len cap := by simpa [Value.cells] using hcs
    simp only [if_true] at hz
    have hbz : ∀ z ∈ zs, ((z.toNat : Nat) : Int) = z ∧ z.toNat < 4294967296 := fun z hzm => by
      have hb : 0 ≤ z ∧ z ≤ 4294967295 := by simpa [Lit.wf, IntKind.min, IntKind.max, IntKind.signed, IntKind.bits] using hw z hzm
      omega
    have hll : ((zs.take len).map Int.toNat).length = len := by simp; omega
    refine ⟨some a, (zs.take len).map Int.toNat, cap, by rw [hll]; exact e, fun k hk => ?_, by rw [hll]; unfold maxLen at hm; omega⟩
    rw [hll] at hk
    have c0 := hcell 0 (by omega)
    have ha0 : a.add 0 = a := by simp [Addr.add]
    rw [ha0] at c0
    obtain ⟨hb0, hs0⟩ := cell_lt c0
    obtain ⟨b, o, sp⟩ := a
    simp only at hs0 hb0
    subst hs0
    have cj := hcell k (by omega)
    have haj : (Addr.mk b o none).add k = ⟨b, o + k, none⟩ := by
      unfold Addr.add; split
      · rename_i h; subst h; rfl
      · rfl
    rw [haj] at cj
    have hzj : zs.getD k 0 = zs[k]'(by omega) := by simp [List.getD, List.getElem?_eq_getElem (show k < zs.length by omega)]
    rw [hzj] at cj
    obtain ⟨h1, h2⟩ := hbz (zs[k]'(by omega)) (List.getElem_mem _)
    refine ⟨b, o, rfl, hb0, ?_, ?_⟩
    · rw [cj]
      simp only [List.getElem_map, List.getElem_take]
      rw [h1]
    · simp only [List.getElem_map, List.getElem_take]
      exact h2
theorem list_six : ∀ l : List UInt8, l.length = 6 → ∃ a0 a1 a2 a3 a4 a5, l = [a0, a1, a2, a3, a4, a5]
  | [a0, a1, a2, a3, a4, a5], _ => ⟨a0, a1, a2, a3, a4, a5, rfl⟩
  | [], h => by cases h
  | [_], h => by cases h
  | [_, _], h => by cases h
  | [_, _, _], h => by cases h
  | [_, _, _, _], h => by cases h
  | [_, _, _, _, _], h => by cases h
  | _ :: _ :: _ :: _ :: _ :: _ :: _ :: _, h => by simp at h
end Go.Proofs.Ytfldoihindbdmaa

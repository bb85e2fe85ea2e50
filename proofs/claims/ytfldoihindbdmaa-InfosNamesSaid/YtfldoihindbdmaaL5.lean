/- Slices of structs that came in, opened. -/
import Derived.Test.YtfldoihindbdmaaL4
import Derived.Deep.Slices
import Derived.Lib.SmallJoins
namespace Go.Proofs.Ytfldoihindbdmaa
open Go.ChangeShapes Go.WideShapes Go.ChangeAt Go.RowKit Go.Deep
theorem list_of {β : Type} {n : Nat} {p : Nat → β → Prop} (h : ∀ i, i < n → ∃ y, p i y) : ∃ l : List β, l.length = n ∧ ∀ i (hi : i < l.length), p i l[i] := by
  refine ⟨(List.range n).attach.map fun i => Classical.choose (h i.1 (List.mem_range.1 i.2)), by simp, fun i hi => ?_⟩
  have hi' : i < n := by simpa using hi
  have := Classical.choose_spec (h i hi')
  simpa using this
section
variable {H : Type} {enc : TypeId × Value → H} {P : Program}
/-- A slice whatever its elements are: of each the cells, which read. -/
theorem open_sl {w : World} {base b0 C : Nat} {r : Reach} {held : Bool} {t e : TypeId} {v : Value} {d : DataW H} {ps : List MemPlace}
    (ht : P.underlying t = some (.slice e)) (hC : P.cellsOf e = C) (h0 : 0 < C)
    (hval : Value.okWide P w r b0 t v) (hd : DataW.Trod enc P w base (fun _ => true) held t v d ps) :
    ∃ (A : Option Addr) (n c : Nat), v = .slice A n c ∧ (A = none → n = 0 ∧ c = 0) ∧ n ≤ c ∧ n < 2 ^ 63 ∧
      ∀ i, i < n → ∃ (cs : List Value) (b o fuel : Nat) (x : DataW H × List MemPlace), cs.length = C ∧ DataW.trod enc P w base (fun _ => true) held fuel e cs = some x ∧ A = some ⟨b, o, none⟩ ∧ b < w.heap.size ∧ ∀ j, j < C → w.cell? ⟨b, o + i * C + j, none⟩ = cs[j]? := by
  obtain ⟨fuel, hf⟩ := hd
  obtain ⟨a', n', c', rfl⟩ := okWide_slice ht hval
  rcases Go.Deep.open_slice ht hf with ⟨hcs, _⟩ | ⟨a, len, cap, m, n, D, Pl, hcs, _, hl, hm, hmm, _, hi⟩
  · simp only [Value.cells] at hcs
    have : (Value.slice a' n' c') = .slice none 0 0 := by simpa using hcs
    cases this
    exact ⟨none, 0, 0, rfl, fun _ => ⟨rfl, rfl⟩, Nat.le_refl _, by simp, fun i hi => absurd hi (by omega)⟩
  · simp only [Value.cells] at hcs
    have : (Value.slice a' n' c') = .slice (some a) len cap := by simpa using hcs
    cases this
    simp only [if_true] at hmm
    subst hmm
    refine ⟨some a, n', m, rfl, (fun h => by cases h), hl, by unfold maxLen at hm; omega, fun i hin => ?_⟩
    obtain ⟨cs, hcl, htr⟩ := hi i (by omega)
    rw [hC] at hcl
    obtain ⟨_, hlen, hat⟩ := World.cells?_some hcl
    have cellAt : ∀ (i : Nat) (cs : List Value), w.cells? base (a.add (i * C)) C = some cs → ∀ j, j < C → w.cell? (a.add (i * C + j)) = cs[j]? := fun i cs hcl j hj => by
      obtain ⟨_, _, hat⟩ := World.cells?_some hcl
      rw [← hat j hj, Go.Deep.add_add]
    obtain ⟨cs0, hcl0, _⟩ := hi 0 (by omega)
    rw [hC] at hcl0
    have c0 := cellAt 0 cs0 hcl0 0 h0
    obtain ⟨_, hlen0, _⟩ := World.cells?_some hcl0
    have ha0 : a.add (0 * C + 0) = a := by simp [Addr.add]
    rw [ha0, List.getElem?_eq_getElem (by omega)] at c0
    obtain ⟨hb0, hs0⟩ := cell_lt c0
    obtain ⟨b, o, sp⟩ := a
    simp only at hs0 hb0
    subst hs0
    refine ⟨cs, b, o, _, _, hlen, htr, rfl, hb0, fun j hj => ?_⟩
    have := cellAt i cs hcl j hj
    have haj : (Addr.mk b o none).add (i * C + j) = ⟨b, o + i * C + j, none⟩ := by
      unfold Addr.add; split
      · rename_i h
        rw [Nat.add_assoc, h]
        rfl
      · rw [Nat.add_assoc]
    rw [haj] at this
    exact this
/-- A struct of two fields of one cell each, out of its cells. -/
theorem open_two {w : World} {base fuel : Nat} {sp : Nat → Bool} {held : Bool} {t : TypeId} {f0 f1 : Field} {cs : List Value} {x : DataW H × List MemPlace}
    (hs : P.underlying t = some (.struct #[f0, f1])) (hone : oneCellFields P #[f0, f1] = true) (hl : cs.length = 2) (h : DataW.trod enc P w base sp held fuel t cs = some x) :
    ∃ (v0 v1 : Value) (y0 y1 : DataW H × List MemPlace) (n : Nat), cs = [v0, v1] ∧ DataW.trod enc P w base sp held n f0.type [v0] = some y0 ∧ DataW.trod enc P w base sp held n f1.type [v1] = some y1 := by
  match cs, hl with
  | [v0, v1], _ =>
    obtain ⟨xs, n, _, hx, _, hlen, hg⟩ := DataW.trod_struct hs h
    obtain ⟨o0, k0⟩ := Go.Deep.hone_of hone 0 f0 rfl
    obtain ⟨o1, k1⟩ := Go.Deep.hone_of hone 1 f1 rfl
    match xs, hlen with
    | [y0, y1], _ => exact ⟨v0, v1, y0, y1, n, rfl, by simpa [o0, k0] using hg 0 f0 rfl, by simpa [o1, k1] using hg 1 f1 rfl⟩
theorem trod_u8 {w : World} {base fuel : Nat} {sp : Nat → Bool} {held : Bool} {t : TypeId} {v : Value} {x : DataW H × List MemPlace} (ht : P.underlying t = some (.int .u8)) (h : DataW.trod enc P w base sp held fuel t [v] = some x) : ∃ b : UInt8, v = B b := by
  obtain ⟨n, hn, _, hw⟩ := DataW.trod_int ht h
  obtain ⟨b, hb⟩ := u8_of_wf hw
  have : v = .int .u8 n := by simpa using hn
  exact ⟨b, by rw [this, B, hb]⟩
theorem trod_i64 {w : World} {base fuel : Nat} {sp : Nat → Bool} {held : Bool} {t : TypeId} {v : Value} {x : DataW H × List MemPlace} (ht : P.underlying t = some (.int .i64)) (h : DataW.trod enc P w base sp held fuel t [v] = some x) : ∃ n : Int, v = .int .i64 n ∧ -2 ^ 63 ≤ n ∧ n < 2 ^ 63 := by
  obtain ⟨n, hn, _, hw⟩ := DataW.trod_int ht h
  have hb : -9223372036854775808 ≤ n ∧ n ≤ 9223372036854775807 := by simpa [Lit.wf, IntKind.min, IntKind.max, IntKind.signed, IntKind.bits] using hw
  exact ⟨n, by simpa using hn, by omega, by omega⟩
theorem trod_u64 {w : World} {base fuel : Nat} {sp : Nat → Bool} {held : Bool} {t : TypeId} {v : Value} {x : DataW H × List MemPlace} (ht : P.underlying t = some (.int .u64)) (h : DataW.trod enc P w base sp held fuel t [v] = some x) : ∃ n : Nat, v = .int .u64 n ∧ n < 2 ^ 64 := by
  obtain ⟨n, hn, _, hw⟩ := DataW.trod_int ht h
  have hb : 0 ≤ n ∧ n ≤ 18446744073709551615 := by simpa [Lit.wf, IntKind.min, IntKind.max, IntKind.signed, IntKind.bits] using hw
  obtain ⟨m, rfl⟩ := Int.eq_ofNat_of_zero_le hb.1
  exact ⟨m, by simpa using hn, by omega⟩
end
end Go.Proofs.Ytfldoihindbdmaa

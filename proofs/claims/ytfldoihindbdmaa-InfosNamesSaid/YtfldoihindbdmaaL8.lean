/- Arguments that are structs, opened part by part. -/
import Derived.Test.YtfldoihindbdmaaL5
namespace Go.Proofs.Ytfldoihindbdmaa
open Go.ChangeShapes Go.WideShapes Go.ChangeAt Go.RowKit Go.Deep
section
variable {H : Type} {enc : TypeId × Value → H} {P : Program}
def contigB (P : Program) : Nat → List Field → Bool
  | _, [] => true
  | off, f :: fs => decide (f.offset = off) && contigB P (off + P.cellsOf f.type) fs
def widthB (P : Program) : List Field → Nat
  | [] => 0
  | f :: fs => P.cellsOf f.type + widthB P fs
/-- A struct's cells, field by field. -/
def Parts (enc : TypeId × Value → H) (P : Program) (w : World) (base : Nat) (held : Bool) (m : Nat) : List Field → List Value → Prop
  | [], cs => cs = []
  | f :: fs, cs => ∃ p q y, cs = p ++ q ∧ DataW.trod enc P w base (fun _ => true) held m f.type p = some y ∧ Parts enc P w base held m fs q
theorem parts_go {w : World} {base : Nat} {held : Bool} {m : Nat} {cs : List Value} {xs : List (DataW H × List MemPlace)} : ∀ (fs : List Field) (i off : Nat), contigB P off fs = true → off + widthB P fs = cs.length → xs.length = i + fs.length →
    (∀ k f, fs[k]? = some f → DataW.trod enc P w base (fun _ => true) held m f.type ((cs.drop f.offset).take (P.cellsOf f.type)) = xs[i + k]?) → Parts enc P w base held m fs (cs.drop off)
  | [], i, off, _, hw, _, _ => by simp only [widthB] at hw; show _ = _; rw [List.drop_of_length_le (by omega)]
  | f :: fs, i, off, hc, hw, hx, h => by
    simp only [contigB, Bool.and_eq_true, decide_eq_true_eq] at hc
    simp only [widthB] at hw
    simp only [List.length_cons] at hx
    have h0 := h 0 f rfl
    rw [hc.1, Nat.add_zero] at h0
    obtain ⟨y, hy⟩ : ∃ y, xs[i]? = some y := ⟨xs[i]'(by omega), List.getElem?_eq_getElem (by omega)⟩
    rw [hy] at h0
    refine ⟨_, _, _, (List.take_append_drop (P.cellsOf f.type) (cs.drop off)).symm, h0, ?_⟩
    rw [List.drop_drop]
    exact parts_go (xs := xs) fs (i + 1) (off + P.cellsOf f.type) hc.2 (by omega) (by omega) fun k g hk => by
      have := h (k + 1) g (by simpa using hk)
      rw [show i + 1 + k = i + (k + 1) by omega]; exact this
theorem open_parts {w : World} {base b0 : Nat} {r : Reach} {held : Bool} {t : TypeId} {v : Value} {d : DataW H} {ps : List MemPlace} {fs : Array Field}
    (ht : P.underlying t = some (.struct fs)) (hc : (contigB P 0 fs.toList && (widthB P fs.toList == P.cellsOf t)) = true)
    (hval : Value.okWide P w r b0 t v) (hd : DataW.Trod enc P w base (fun _ => true) held t v d ps) : ∃ (m : Nat) (cs : List Value), v = .agg cs.toArray ∧ Parts enc P w base held m fs.toList cs := by
  obtain ⟨fuel, hf⟩ := hd
  unfold Value.okWide at hval
  rw [ht] at hval
  obtain ⟨cs, rfl, _⟩ := hval
  simp only [Value.cells] at hf
  obtain ⟨xs, m, rfl, hx, hlen, hxl, hff⟩ := DataW.trod_struct ht hf
  simp only [Bool.and_eq_true, beq_iff_eq] at hc
  refine ⟨m, cs.toList, by simp, ?_⟩
  have := parts_go (enc := enc) (P := P) (w := w) (base := base) (held := held) (m := m) (cs := cs.toList) (xs := xs) fs.toList 0 0 hc.1 (by rw [Nat.zero_add, hc.2, hlen]) (by rw [hxl]; simp) (fun k f hk => by rw [Nat.zero_add]; exact hff k f (by simpa using hk))
  simpa using this
/-- .. of a struct in a struct. -/
theorem parts_in {w : World} {base fuel : Nat} {held : Bool} {t : TypeId} {cs : List Value} {x : DataW H × List MemPlace} {fs : Array Field}
    (ht : P.underlying t = some (.struct fs)) (hc : (contigB P 0 fs.toList && (widthB P fs.toList == P.cellsOf t)) = true) (hf : DataW.trod enc P w base (fun _ => true) held fuel t cs = some x) : ∃ m : Nat, Parts enc P w base held m fs.toList cs := by
  obtain ⟨xs, m, rfl, hx, hlen, hxl, hff⟩ := DataW.trod_struct ht hf
  simp only [Bool.and_eq_true, beq_iff_eq] at hc
  refine ⟨m, ?_⟩
  have := parts_go (enc := enc) (P := P) (w := w) (base := base) (held := held) (m := m) (cs := cs) (xs := xs) fs.toList 0 0 hc.1 (by rw [Nat.zero_add, hc.2, hlen]) (by rw [hxl]; simp) (fun k f hk => by rw [Nat.zero_add]; exact hff k f (by simpa using hk))
  simpa using this
theorem part_u16 {w : World} {base fuel : Nat} {sp : Nat → Bool} {held : Bool} {t : TypeId} {cs : List Value} {x : DataW H × List MemPlace} (ht : P.underlying t = some (.int .u16)) (h : DataW.trod enc P w base sp held fuel t cs = some x) : ∃ n : Nat, cs = [.int .u16 n] ∧ n < 65536 := by
  obtain ⟨n, hn, _, hw⟩ := DataW.trod_int ht h
  have hb : 0 ≤ n ∧ n ≤ 65535 := by simpa [Lit.wf, IntKind.min, IntKind.max, IntKind.signed, IntKind.bits] using hw
  obtain ⟨m, rfl⟩ := Int.eq_ofNat_of_zero_le hb.1
  exact ⟨m, hn, by omega⟩
theorem part_u32 {w : World} {base fuel : Nat} {sp : Nat → Bool} {held : Bool} {t : TypeId} {cs : List Value} {x : DataW H × List MemPlace} (ht : P.underlying t = some (.int .u32)) (h : DataW.trod enc P w base sp held fuel t cs = some x) : ∃ n : Nat, cs = [.int .u32 n] ∧ n < 4294967296 := by
  obtain ⟨n, hn, _, hw⟩ := DataW.trod_int ht h
  have hb : 0 ≤ n ∧ n ≤ 4294967295 := by simpa [Lit.wf, IntKind.min, IntKind.max, IntKind.signed, IntKind.bits] using hw
  obtain ⟨m, rfl⟩ := Int.eq_ofNat_of_zero_le hb.1
  exact ⟨m, hn, by omega⟩
theorem part_u8 {w : World} {base fuel : Nat} {sp : Nat → Bool} {held : Bool} {t : TypeId} {cs : List Value} {x : DataW H × List MemPlace} (ht : P.underlying t = some (.int .u8)) (h : DataW.trod enc P w base sp held fuel t cs = some x) : ∃ b : UInt8, cs = [B b] := by
  obtain ⟨n, hn, _, hw⟩ := DataW.trod_int ht h
  obtain ⟨b, hb⟩ := u8_of_wf hw
  exact ⟨b, by rw [hn, B, hb]⟩
end
end Go.Proofs.Ytfldoihindbdmaa

/- Candidates that came in, opened. -/
import Derived.Test.YtcoonncedlbbkaaDoorL8
import Derived.Test.YtcoonncedlbbkaaDoorX17
namespace Go.Proofs.YtcoonncedlbbkaaDoor
open Go.ChangeShapes Go.WideShapes Go.ChangeAt Go.RowKit Go.Deep Ad
section
variable {H : Type} {enc : TypeId × Value → H}
theorem candidate_in {w : World} {base fuel : Nat} {held : Bool} {cs : List Value} {x : DataW H × List MemPlace} (h : DataW.trod enc Tryd.prog w base (fun _ => true) held fuel 33 cs = some x) : ∃ c : Cd, cs = c.row.toList := by
  obtain ⟨m, p0, q0, y0, rfl, h0, p1, q1, y1, rfl, h1, p2, q2, y2, rfl, h2, rfl⟩ := parts_in Tryd.underlying33 (by kernel_rfl) h
  obtain ⟨a, ha, rfl, _⟩ := open_bytes_in Tryd.underlying23 Tryd.underlying5 (by kernel_rfl) (by kernel_rfl) h0
  obtain ⟨d, rfl, _⟩ := DataW.trod_bool Tryd.underlying4 h1
  obtain ⟨t, rfl, _⟩ := DataW.trod_bool Tryd.underlying4 h2
  exact ⟨⟨a, d, t, ha⟩, by rw [Cd.row_cat]; simp⟩
theorem open_candidate {w : World} {base b0 : Nat} {r : Go.Reach} {held : Bool} {v : Value} {d : DataW H} {ps : List MemPlace}
    (hval : Value.okWide Tryd.prog w r b0 33 v) (hd : DataW.Trod enc Tryd.prog w base (fun _ => true) held 33 v d ps) : ∃ c : Cd, v = .agg c.row := by
  obtain ⟨fuel, hf⟩ := hd
  unfold Value.okWide at hval
  rw [Tryd.underlying33] at hval
  obtain ⟨cs, rfl, _⟩ := hval
  simp only [Value.cells] at hf
  obtain ⟨c, hc⟩ := candidate_in hf
  exact ⟨c, by congr 1; exact Array.toList_inj.1 hc⟩
theorem open_three {w : World} {base b0 : Nat} {r : Go.Reach} {held : Bool} {v : Value} {d : DataW H} {ps : List MemPlace}
    (hval : Value.okWide Tryd.prog w r b0 38 v) (hd : DataW.Trod enc Tryd.prog w base (fun _ => true) held 38 v d ps) : ∃ x y z : Cd, v = .agg (rows3 x y z) := by
  obtain ⟨fuel, hf⟩ := hd
  unfold Value.okWide at hval
  rw [Tryd.underlying38] at hval
  obtain ⟨cs, rfl, _⟩ := hval
  simp only [Value.cells] at hf
  obtain ⟨xs, m, rfl, _, hlen, hxl, hff⟩ := DataW.trod_array Tryd.underlying38 hf
  have hC : Tryd.prog.cellsOf 33 = 18 := by kernel_rfl
  have hC3 : Tryd.prog.cellsOf 38 = 54 := by kernel_rfl
  rw [hC3] at hlen
  have key : ∀ i, i < 3 → ∃ c : Cd, (cs.toList.drop (i * 18)).take 18 = c.row.toList := fun i hi => by
    have h := hff i hi
    rw [hC] at h
    obtain ⟨y, hy⟩ : ∃ y, xs[i]? = some y := ⟨xs[i]'(by omega), List.getElem?_eq_getElem (by omega)⟩
    rw [hy] at h
    exact candidate_in h
  obtain ⟨x, hx⟩ := key 0 (by omega)
  obtain ⟨y, hy⟩ := key 1 (by omega)
  obtain ⟨z, hz⟩ := key 2 (by omega)
  refine ⟨x, y, z, ?_⟩
  congr 1
  apply Array.toList_inj.1
  unfold rows3
  rw [← hx, ← hy, ← hz]
  generalize cs.toList = L at *
  simp only [Nat.zero_mul, List.drop_zero, Nat.one_mul]
  have e2 : (L.drop (2 * 18)).take 18 = L.drop 36 := List.take_of_length_le (by simp [hlen])
  rw [e2]
  have e1 : (L.drop 18).take 18 ++ L.drop 36 = L.drop 18 := by
    have := List.take_append_drop 18 (L.drop 18)
    rw [List.drop_drop] at this
    exact this
  rw [List.append_assoc, e1, List.take_append_drop]
theorem open_candidates {w : World} {base b0 : Nat} {r : Go.Reach} {held : Bool} {v : Value} {d : DataW H} {ps : List MemPlace}
    (hval : Value.okWide Tryd.prog w r b0 24 v) (hd : DataW.Trod enc Tryd.prog w base (fun _ => true) held 24 v d ps) :
    ∃ (A : Option Addr) (l : List Cd) (c : Nat), v = .slice A l.length c ∧ Cs w w.heap.size A l ∧ l.length ≤ c := by
  obtain ⟨A, n, c, rfl, hN, hle, _, hel⟩ := open_sl (C := 18) Tryd.underlying24 (by kernel_rfl) (by omega) hval hd
  have key : ∀ i, i < n → ∃ cd : Cd, ∃ b o, A = some ⟨b, o, none⟩ ∧ b < w.heap.size ∧ ∀ j, j < 18 → w.cell? ⟨b, o + i * 18 + j, none⟩ = cd.row[j]? := fun i hi => by
    obtain ⟨cs, b, o, fuel, x, hl, ht, e, hb, hc⟩ := hel i hi
    obtain ⟨cd, rfl⟩ := candidate_in ht
    exact ⟨cd, b, o, e, hb, fun j hj => by rw [hc j hj]; simp⟩
  obtain ⟨l, hl, hi⟩ := list_of key
  subst hl
  refine ⟨A, l, c, rfl, fun h0 => ?_, hle⟩
  have h00 : 0 < l.length := List.length_pos_iff.2 h0
  obtain ⟨b, o, rfl, hb, hc0⟩ := hi 0 h00
  have hx := hc0 0 (by omega)
  rw [Array.getElem?_eq_getElem (by simp [Cd.row_size])] at hx
  obtain ⟨cc, t, fr, hbk⟩ : ∃ cc t fr, bk w b = some (.cells cc t fr) := by
    unfold World.cell? at hx
    split at hx
    · rename_i c t f hb
      exact ⟨c, t, f, hb⟩
    · cases hx
  refine ⟨b, o, cc, t, fr, rfl, hb, hbk, fun j hj => ?_⟩
  obtain ⟨b', o', e, _, hc⟩ := hi j hj
  cases e
  have hat : ∀ i, i < 18 → cc[o + j * 18 + i]? = l[j].row[i]? := fun i h => by rw [← hc i h, bk_cell hbk]
  have hsz : o + j * 18 + 18 ≤ cc.size := by
    have h := hat 17 (by omega)
    rw [Array.getElem?_eq_getElem (show 17 < l[j].row.size by rw [Cd.row_size]; omega)] at h
    have := (Array.getElem?_eq_some_iff.1 h).1
    omega
  refine ⟨hsz, Array.ext_getElem? fun i => ?_⟩
  unfold xt
  rw [Array.getElem?_extract]
  by_cases h : i < 18
  · rw [if_pos (by omega), hat i h]
  · rw [if_neg (by omega), Array.getElem?_eq_none (by rw [Cd.row_size]; omega)]
end
end Go.Proofs.YtcoonncedlbbkaaDoor

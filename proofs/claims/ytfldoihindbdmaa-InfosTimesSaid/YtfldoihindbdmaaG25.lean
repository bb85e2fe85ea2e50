/- InfosPlay: acts that came in, opened. -/
import Derived.Test.YtfldoihindbdmaaMgJ
import Derived.Test.YtfldoihindbdmaaMgI
namespace Go.Proofs.Ytfldoihindbdmaa
set_option maxRecDepth 100000
open Go.ChangeShapes Go.WideShapes Go.ChangeAt Go.RowKit Go.Deep
section
variable {H : Type} {enc : TypeId × Value → H}
theorem act_in {w : World} {base fuel : Nat} {held : Bool} {cs : List Value} {x : DataW H × List MemPlace} (h : DataW.trod enc Try.prog w base (fun _ => true) held fuel 25 cs = some x) : ∃ c : Ai, cs = c.row.toList ∧ AiOk w w.heap.size c := by
  obtain ⟨m, p0, q0, y0, rfl, h0, p1, q1, y1, rfl, h1, p2, q2, y2, rfl, h2, p3, q3, y3, rfl, h3, rfl⟩ := parts_in Try.underlying25 (by kernel_rfl) h
  obtain ⟨k, rfl⟩ := part_u8 Try.underlying5 h0
  obtain ⟨A, l, c, rfl, hR, hN, hC, hL⟩ := open_bsl_in Try.underlying22 Try.underlying5 (by kernel_rfl) h1
  obtain ⟨f, rfl, _⟩ := DataW.trod_bool Try.underlying4 h2
  obtain ⟨a, rfl, ha⟩ := part_u32 Try.underlying23 h3
  exact ⟨⟨k, A, l, c, f, a⟩, rfl, hR, hN, hC, hL, Nat.lt_of_lt_of_eq ha (by first | rfl | decide)⟩
theorem open_acts {w : World} {base b0 : Nat} {r : Go.Reach} {held : Bool} {v : Value} {d : DataW H} {ps : List MemPlace}
    (hval : Value.okWide Try.prog w r b0 55 v) (hd : DataW.Trod enc Try.prog w base (fun _ => true) held 55 v d ps) :
    ∃ (A : Option Addr) (l : List Ai) (c : Nat), v = .slice A l.length c ∧ Ais w w.heap.size A l ∧ l.length ≤ c ∧ l.length < 2 ^ 63 := by
  obtain ⟨A, n, c, rfl, hN, hle, hlt, hel⟩ := open_sl (C := 4) Try.underlying55 (by kernel_rfl) (by omega) hval hd
  have key : ∀ i, i < n → ∃ cd : Ai, AiOk w w.heap.size cd ∧ ∃ b o, A = some ⟨b, o, none⟩ ∧ b < w.heap.size ∧ ∀ j, j < 4 → w.cell? ⟨b, o + i * 4 + j, none⟩ = cd.row[j]? := fun i hi => by
    obtain ⟨cs, b, o, fuel, x, hl, ht, e, hb, hc⟩ := hel i hi
    obtain ⟨cd, rfl, hok⟩ := act_in ht
    exact ⟨cd, hok, b, o, e, hb, fun j hj => by rw [hc j hj]; simp⟩
  obtain ⟨l, hl, hi⟩ := list_of key
  subst hl
  refine ⟨A, l, c, rfl, ⟨fun h0 => ?_, fun x hx => ?_⟩, hle, hlt⟩
  · have h00 : 0 < l.length := List.length_pos_iff.2 h0
    obtain ⟨_, b, o, rfl, hb, hc0⟩ := hi 0 h00
    have hx := hc0 0 (by omega)
    rw [Array.getElem?_eq_getElem (by simp [Ai.row])] at hx
    obtain ⟨cc, t, fr, hbk⟩ : ∃ cc t fr, bk w b = some (.cells cc t fr) := by
      unfold World.cell? at hx
      split at hx
      · rename_i c t f hb
        exact ⟨c, t, f, hb⟩
      · cases hx
    refine ⟨b, o, cc, t, fr, rfl, hb, hbk, fun j hj => ?_⟩
    obtain ⟨_, b', o', e, _, hc⟩ := hi j hj
    cases e
    have hat : ∀ i, i < 4 → cc[o + j * 4 + i]? = l[j].row[i]? := fun i h => by rw [← hc i h, bk_cell hbk]
    have hsz : o + j * 4 + 4 ≤ cc.size := by
      have h := hat 3 (by omega)
      rw [Array.getElem?_eq_getElem (show 3 < l[j].row.size by simp [Ai.row])] at h
      have := (Array.getElem?_eq_some_iff.1 h).1
      omega
    refine ⟨hsz, Array.ext_getElem? fun i => ?_⟩
    unfold xt
    rw [Array.getElem?_extract]
    by_cases h : i < 4
    · rw [if_pos (by omega), hat i h]
    · rw [if_neg (by omega), Array.getElem?_eq_none (by simp [Ai.row]; omega)]
  · obtain ⟨i, h, rfl⟩ := List.getElem_of_mem hx
    exact (hi i h).1
end
end Go.Proofs.Ytfldoihindbdmaa

/- Streams: acts that came in, opened. -/
import Derived.Test.YtjnfdpakpdahkaaL8
import Derived.Test.YtjnfdpakpdahkaaL9
import Derived.Test.YtjnfdpakpdahkaaZ16
namespace Go.Proofs.Ytjnfdpakpdahkaa
open Go.ChangeShapes Go.WideShapes Go.ChangeAt Go.RowKit Go.Deep
section
variable {H : Type} {enc : TypeId × Value → H}
theorem act_in {w : World} {base fuel : Nat} {held : Bool} {cs : List Value} {x : DataW H × List MemPlace} (h : DataW.trod enc Try.prog w base (fun _ => true) held fuel 34 cs = some x) : ∃ c : Ac, cs = c.row.toList ∧ AcOk w w.heap.size c := by
  obtain ⟨m, p0, q0, y0, rfl, h0, p1, q1, y1, rfl, h1, p2, q2, y2, rfl, h2, p3, q3, y3, rfl, h3, p4, q4, y4, rfl, h4, rfl⟩ := parts_in Try.underlying34 (by kernel_rfl) h
  obtain ⟨k, rfl⟩ := part_u8 Try.underlying5 h0
  obtain ⟨a, rfl, ha⟩ := part_u32 Try.underlying22 h1
  obtain ⟨A, l, c, rfl, hR, hN, hC, hL⟩ := open_bsl_in Try.underlying23 Try.underlying5 (by kernel_rfl) h2
  obtain ⟨f, rfl, _⟩ := DataW.trod_bool Try.underlying4 h3
  obtain ⟨z, hz, _, hw⟩ := DataW.trod_int Try.underlying3 h4
  have hb : -9223372036854775808 ≤ z ∧ z ≤ 9223372036854775807 := by simpa [Lit.wf, IntKind.min, IntKind.max, IntKind.signed, IntKind.bits] using hw
  subst hz
  exact ⟨⟨k, a, A, l, c, f, z⟩, rfl, hR, hN, hC, hL, ha, by show -2 ^ 63 ≤ z; omega, by show z < 2 ^ 63; omega⟩
theorem open_acts {w : World} {base b0 : Nat} {r : Go.Reach} {held : Bool} {v : Value} {d : DataW H} {ps : List MemPlace}
    (hval : Value.okWide Try.prog w r b0 31 v) (hd : DataW.Trod enc Try.prog w base (fun _ => true) held 31 v d ps) :
    ∃ (A : Option Addr) (l : List Ac) (c : Nat), v = .slice A l.length c ∧ As w w.heap.size A l ∧ l.length ≤ c ∧ l.length < 2 ^ 63 := by
  obtain ⟨A, n, c, rfl, hN, hle, hlt, hel⟩ := open_sl (C := 5) Try.underlying31 (by kernel_rfl) (by omega) hval hd
  have key : ∀ i, i < n → ∃ cd : Ac, AcOk w w.heap.size cd ∧ ∃ b o, A = some ⟨b, o, none⟩ ∧ b < w.heap.size ∧ ∀ j, j < 5 → w.cell? ⟨b, o + i * 5 + j, none⟩ = cd.row[j]? := fun i hi => by
    obtain ⟨cs, b, o, fuel, x, hl, ht, e, hb, hc⟩ := hel i hi
    obtain ⟨cd, rfl, hok⟩ := act_in ht
    exact ⟨cd, hok, b, o, e, hb, fun j hj => by rw [hc j hj]; simp⟩
  obtain ⟨l, hl, hi⟩ := list_of key
  subst hl
  refine ⟨A, l, c, rfl, ⟨fun h0 => ?_, fun x hx => ?_⟩, hle, hlt⟩
  · have h00 : 0 < l.length := List.length_pos_iff.2 h0
    obtain ⟨_, b, o, rfl, hb, hc0⟩ := hi 0 h00
    have hx := hc0 0 (by omega)
    rw [Array.getElem?_eq_getElem (by simp [Ac.row])] at hx
    obtain ⟨cc, t, fr, hbk⟩ : ∃ cc t fr, bk w b = some (.cells cc t fr) := by
      unfold World.cell? at hx
      split at hx
      · rename_i c t f hb
        exact ⟨c, t, f, hb⟩
      · cases hx
    refine ⟨b, o, cc, t, fr, rfl, hb, hbk, fun j hj => ?_⟩
    obtain ⟨_, b', o', e, _, hc⟩ := hi j hj
    cases e
    have hat : ∀ i, i < 5 → cc[o + j * 5 + i]? = l[j].row[i]? := fun i h => by rw [← hc i h, bk_cell hbk]
    have hsz : o + j * 5 + 5 ≤ cc.size := by
      have h := hat 4 (by omega)
      rw [Array.getElem?_eq_getElem (show 4 < l[j].row.size by simp [Ac.row])] at h
      have := (Array.getElem?_eq_some_iff.1 h).1
      omega
    refine ⟨hsz, Array.ext_getElem? fun i => ?_⟩
    unfold xt
    rw [Array.getElem?_extract]
    by_cases h : i < 5
    · rw [if_pos (by omega), hat i h]
    · rw [if_neg (by omega), Array.getElem?_eq_none (by simp [Ac.row]; omega)]
  · obtain ⟨i, h, rfl⟩ := List.getElem_of_mem hx
    exact (hi i h).1
end
end Go.Proofs.Ytjnfdpakpdahkaa

/- Streams: acts that came in, opened, with how long their bytes are. -/
import Derived.Test.YtjnfdpakpdahkaaZ17
import Derived.SizedLaws
namespace Go.Proofs.Ytjnfdpakpdahkaa
open Go.ChangeShapes Go.WideShapes Go.ChangeAt Go.RowKit Go.Deep
section
variable {H : Type} {enc : TypeId × Value → H}
theorem weights_mem_all {P : Program} {e : TypeId} : ∀ {l : List (DataW H)} {d : DataW H}, d ∈ l → ∀ n ∈ d.weights P e, n ∈ DataW.weightsAll P e l
  | x :: l, d, h, n, hn => by
    simp only [DataW.weightsAll, List.mem_append]
    rcases List.mem_cons.1 h with rfl | h
    · exact .inl hn
    · exact .inr (weights_mem_all h n hn)
theorem open_sl_w {P : Program} {w : World} {base b0 C : Nat} {r : Go.Reach} {held : Bool} {t e : TypeId} {v : Value} {d : DataW H} {ps : List MemPlace}
    (ht : P.underlying t = some (.slice e)) (hC : P.cellsOf e = C) (h0 : 0 < C)
    (hval : Value.okWide P w r b0 t v) (hd : DataW.Trod enc P w base (fun _ => true) held t v d ps) :
    ∃ (A : Option Addr) (n c : Nat), v = .slice A n c ∧ (A = none → n = 0 ∧ c = 0) ∧ n ≤ c ∧ n < 2 ^ 63 ∧
      ∀ i, i < n → ∃ (cs : List Value) (b o fuel : Nat) (x : DataW H × List MemPlace), cs.length = C ∧ DataW.trod enc P w base (fun _ => true) held fuel e cs = some x ∧ A = some ⟨b, o, none⟩ ∧ b < w.heap.size ∧ (∀ j, j < C → w.cell? ⟨b, o + i * C + j, none⟩ = cs[j]?) ∧ ∀ n ∈ x.1.weights P e, n ∈ d.weights P t := by
  obtain ⟨fuel, hf⟩ := hd
  obtain ⟨a', n', c', rfl⟩ := okWide_slice ht hval
  rcases Go.Deep.open_slice ht hf with ⟨hcs, _⟩ | ⟨a, len, cap, m, n, D, Pl, hcs, _, hl, hm, hmm, hx, hi⟩
  · simp only [Value.cells] at hcs
    have : (Value.slice a' n' c') = .slice none 0 0 := by simpa using hcs
    cases this
    exact ⟨none, 0, 0, rfl, fun _ => ⟨rfl, rfl⟩, Nat.le_refl _, by simp, fun i hi => absurd hi (by omega)⟩
  · simp only [Value.cells] at hcs
    have : (Value.slice a' n' c') = .slice (some a) len cap := by simpa using hcs
    cases this
    simp only [if_true] at hmm
    subst hmm
    have hd1 : d = .slice ((List.range n').map D) ((List.range (m - n')).map fun j => D (n' + j)) := congrArg Prod.fst hx
    refine ⟨some a, n', m, rfl, (fun h => by cases h), hl, by unfold maxLen at hm; omega, fun i hin => ?_⟩
    obtain ⟨cs, hcl, htr⟩ := hi i (by omega)
    rw [hC] at hcl
    obtain ⟨_, hlen, hat⟩ := World.cells?_some hcl
    have cellAt : ∀ (i : Nat) (cs : List Value), w.cells? base (a.add (i * C)) C = some cs → ∀ j, j < C → w.cell? (a.add (i * C + j)) = cs[j]? := fun i cs hcl j hj => by
      obtain ⟨_, _, hat⟩ := World.cells?_some hcl
      rw [← hat j hj, Go.Deep.add_add]
    obtain ⟨cs0, hcl0, _⟩ := hi 0 (by omega)
    rw [hC] at hcl0
    have c0 := cellAt 0 cs0 hcl0 0 h0
    obtain ⟨_, hlen0, _⟩ := World.cells?_some hcl0
    have ha0 : a.add (0 * C + 0) = a := by simp [Addr.add]
    rw [ha0, List.getElem?_eq_getElem (by omega)] at c0
    obtain ⟨hb0, hs0⟩ := cell_lt c0
    obtain ⟨b, o, sp⟩ := a
    simp only at hs0 hb0
    subst hs0
    refine ⟨cs, b, o, _, _, hlen, htr, rfl, hb0, fun j hj => ?_, fun k hk => ?_⟩
    · have := cellAt i cs hcl j hj
      have haj : (Addr.mk b o none).add (i * C + j) = ⟨b, o + i * C + j, none⟩ := by
        unfold Addr.add; split
        · rename_i h
          rw [Nat.add_assoc, h]
          rfl
        · rw [Nat.add_assoc]
      rw [haj] at this
      exact this
    · rw [hd1]
      simp only [DataW.weights, ht, List.mem_cons, List.mem_append]
      exact .inr (.inl (weights_mem_all (List.mem_map.2 ⟨i, List.mem_range.2 hin, rfl⟩) k hk))
theorem act_in_w {w : World} {base fuel : Nat} {held : Bool} {cs : List Value} {x : DataW H × List MemPlace} (h : DataW.trod enc Try.prog w base (fun _ => true) held fuel 34 cs = some x) : ∃ c : Ac, cs = c.row.toList ∧ AcOk w w.heap.size c ∧ ((∀ m ∈ x.1.weights Try.prog 34, m ≤ reachBytes) → c.l.length ≤ reachBytes) := by
  obtain ⟨c, hc, hok⟩ := act_in h
  refine ⟨c, hc, hok, fun hz => ?_⟩
  obtain ⟨xs, m, _, hx, _, hlen, hf⟩ := DataW.trod_struct Try.underlying34 h
  have h2 := hf 2 _ rfl
  have hcell : Try.prog.cellsOf 23 = 1 := by kernel_rfl
  have hb1 : Try.prog.bytesOf 5 = 1 := by kernel_rfl
  have hl2 : 2 < xs.length := by rw [hlen]; decide
  rw [List.getElem?_eq_getElem hl2] at h2
  obtain ⟨y, hy⟩ : ∃ y, y = xs[2] := ⟨_, rfl⟩
  rw [← hy] at h2
  have h3 : DataW.trod enc Try.prog w base (fun _ => true) held m 23 [.slice c.A c.l.length c.c] = some y := by
    rw [← h2, hc]
    show _ = DataW.trod _ _ _ _ _ _ _ _ ((c.row.toList.drop 2).take (Try.prog.cellsOf 23))
    rw [hcell]
    rfl
  have hmem : ∀ k ∈ y.1.weights Try.prog 23, k ≤ reachBytes := fun k hk => by
    refine hz k ?_
    rw [hx]
    simp only [DataW.weights, Try.underlying34]
    exact DataW.weights_mem_each (j := 2) (t := 23) (d := y.1) rfl (by rw [List.getElem?_map, List.getElem?_eq_getElem hl2, ← hy]; rfl) k hk
  rcases open_ints Try.underlying23 Try.underlying5 (by kernel_rfl) h3 with ⟨h4, _⟩ | ⟨a, len, cap, zs, h4, _, h5, _, h6, h7, _⟩
  · have h8 : c.l.length = 0 := by simp at h4; rw [h4.2.1]; rfl
    omega
  · have h8 : c.l.length = len := by simp at h4; exact h4.2.1
    simp only [if_true] at h6
    have h9 := hmem ((lits (H := H) .u8 (zs.take len)).length + (lits (H := H) .u8 (zs.drop len)).length) (by
      rw [h7]
      simp only [DataW.weights, Try.underlying23, hb1, Nat.mul_one, List.mem_cons, true_or])
    unfold lits at h9
    rw [List.length_map, List.length_map, List.length_take, List.length_drop] at h9
    omega
theorem open_acts_w {w : World} {base b0 : Nat} {r : Go.Reach} {held : Bool} {v : Value} {d : DataW H} {ps : List MemPlace}
    (hval : Value.okWide Try.prog w r b0 31 v) (hd : DataW.Trod enc Try.prog w base (fun _ => true) held 31 v d ps) (hz : ∀ m ∈ d.weights Try.prog 31, m ≤ reachBytes) :
    ∃ (A : Option Addr) (l : List Ac) (c : Nat), v = .slice A l.length c ∧ As w w.heap.size A l ∧ l.length ≤ c ∧ l.length < 2 ^ 63 ∧ ∀ x ∈ l, x.l.length ≤ reachBytes := by
  obtain ⟨A, n, c, rfl, hN, hle, hlt, hel⟩ := open_sl_w (C := 5) Try.underlying31 (by kernel_rfl) (by omega) hval hd
  have key : ∀ i, i < n → ∃ cd : Ac, (AcOk w w.heap.size cd ∧ cd.l.length ≤ reachBytes) ∧ ∃ b o, A = some ⟨b, o, none⟩ ∧ b < w.heap.size ∧ ∀ j, j < 5 → w.cell? ⟨b, o + i * 5 + j, none⟩ = cd.row[j]? := fun i hi => by
    obtain ⟨cs, b, o, fuel, x, hl, ht, e, hb, hc, hw⟩ := hel i hi
    obtain ⟨cd, rfl, hok, hs⟩ := act_in_w ht
    exact ⟨cd, ⟨hok, hs fun m hm => hz m (hw m hm)⟩, b, o, e, hb, fun j hj => by rw [hc j hj]; simp⟩
  obtain ⟨l, hl, hi⟩ := list_of key
  subst hl
  refine ⟨A, l, c, rfl, ⟨fun h0 => ?_, fun x hx => ?_⟩, hle, hlt, fun x hx => ?_⟩
  · have h00 : 0 < l.length := List.length_pos_iff.2 h0
    obtain ⟨_, b, o, rfl, hb, hc0⟩ := hi 0 h00
    have hx := hc0 0 (by omega)
    rw [Array.getElem?_eq_getElem (by simp [Ac.row])] at hx
    obtain ⟨cc, t, fr, hbk⟩ : ∃ cc t fr, bk w b = some (.cells cc t fr) := by
      unfold World.cell? at hx
      split at hx
      · rename_i c t f hb
        exact ⟨c, t, f, hb⟩
      · cases hx
    refine ⟨b, o, cc, t, fr, rfl, hb, hbk, fun j hj => ?_⟩
    obtain ⟨_, b', o', e, _, hc⟩ := hi j hj
    cases e
    have hat : ∀ i, i < 5 → cc[o + j * 5 + i]? = l[j].row[i]? := fun i h => by rw [← hc i h, bk_cell hbk]
    have hsz : o + j * 5 + 5 ≤ cc.size := by
      have h := hat 4 (by omega)
      rw [Array.getElem?_eq_getElem (show 4 < l[j].row.size by simp [Ac.row])] at h
      have := (Array.getElem?_eq_some_iff.1 h).1
      omega
    refine ⟨hsz, Array.ext_getElem? fun i => ?_⟩
    unfold xt
    rw [Array.getElem?_extract]
    by_cases h : i < 5
    · rw [if_pos (by omega), hat i h]
    · rw [if_neg (by omega), Array.getElem?_eq_none (by simp [Ac.row]; omega)]
  · obtain ⟨i, h, rfl⟩ := List.getElem_of_mem hx
    exact (hi i h).1.1
  · obtain ⟨i, h, rfl⟩ := List.getElem_of_mem hx
    exact (hi i h).1.2
end
end Go.Proofs.Ytjnfdpakpdahkaa

import Derived.Test.YtjimmfbjhkoekaaMgE
import Derived.Test.YtjimmfbjhkoekaaMgS
import Derived.SizedLaws
/- Icmps: a message that came in, opened, with how long its lists are. -/
namespace Go.Proofs.Ytjimmfbjhkoekaa
open Go.ChangeShapes Go.WideShapes Go.ChangeAt Go.RowKit Go.Deep
set_option maxRecDepth 100000
section
variable {H : Type} {enc : TypeId × Value → H} {P : Program}
/-- Nothing in it takes more than a process has. -/
def Light (P : Program) (t : TypeId) (d : DataW H) : Prop := ∀ n ∈ d.weights P t, n ≤ reachBytes
/-- A struct's cells, field by field, each light. -/
def PartsW (enc : TypeId × Value → H) (P : Program) (w : World) (base : Nat) (held : Bool) (m : Nat) : List Field → List Value → Prop
  | [], cs => cs = []
  | f :: fs, cs => ∃ p q y, cs = p ++ q ∧ (DataW.trod enc P w base (fun _ => true) held m f.type p = some y ∧ Light P f.type y.1) ∧ PartsW enc P w base held m fs q
theorem partsW_go {w : World} {base : Nat} {held : Bool} {m : Nat} {cs : List Value} {xs : List (DataW H × List MemPlace)} : ∀ (fs : List Field) (i off : Nat), contigB P off fs = true → off + widthB P fs = cs.length → xs.length = i + fs.length →
    (∀ k f, fs[k]? = some f → DataW.trod enc P w base (fun _ => true) held m f.type ((cs.drop f.offset).take (P.cellsOf f.type)) = xs[i + k]?) → (∀ k f y, fs[k]? = some f → xs[i + k]? = some y → Light P f.type y.1) → PartsW enc P w base held m fs (cs.drop off)
  | [], i, off, _, hw, _, _, _ => by simp only [widthB] at hw; show _ = _; rw [List.drop_of_length_le (by omega)]
  | f :: fs, i, off, hc, hw, hx, h, hy => by
    simp only [contigB, Bool.and_eq_true, decide_eq_true_eq] at hc
    simp only [widthB] at hw
    simp only [List.length_cons] at hx
    have h0 := h 0 f rfl
    rw [hc.1, Nat.add_zero] at h0
    obtain ⟨y, hy0⟩ : ∃ y, xs[i]? = some y := ⟨xs[i]'(by omega), List.getElem?_eq_getElem (by omega)⟩
    rw [hy0] at h0
    refine ⟨_, _, _, (List.take_append_drop (P.cellsOf f.type) (cs.drop off)).symm, ⟨h0, hy 0 f y rfl hy0⟩, ?_⟩
    rw [List.drop_drop]
    exact partsW_go (xs := xs) fs (i + 1) (off + P.cellsOf f.type) hc.2 (by omega) (by omega) (fun k g hk => by
      have := h (k + 1) g (by simpa using hk)
      rw [show i + 1 + k = i + (k + 1) by omega]; exact this) (fun k g y hk hxk => hy (k + 1) g y (by simpa using hk) (by rw [show i + (k + 1) = i + 1 + k by omega]; exact hxk))
theorem parts_in_w {w : World} {base fuel : Nat} {held : Bool} {t : TypeId} {cs : List Value} {x : DataW H × List MemPlace} {fs : Array Field}
    (ht : P.underlying t = some (.struct fs)) (hc : (contigB P 0 fs.toList && (widthB P fs.toList == P.cellsOf t)) = true) (hf : DataW.trod enc P w base (fun _ => true) held fuel t cs = some x) (hL : Light P t x.1) : ∃ m : Nat, PartsW enc P w base held m fs.toList cs := by
  obtain ⟨xs, m, rfl, hx, hlen, hxl, hff⟩ := DataW.trod_struct ht hf
  simp only [Bool.and_eq_true, beq_iff_eq] at hc
  refine ⟨m, ?_⟩
  have := partsW_go (enc := enc) (P := P) (w := w) (base := base) (held := held) (m := m) (cs := cs) (xs := xs) fs.toList 0 0 hc.1 (by rw [Nat.zero_add, hc.2, hlen]) (by rw [hxl]; simp) (fun k f hk => by rw [Nat.zero_add]; exact hff k f (by simpa using hk)) (fun k f y hk hy n hn => by
    rw [Nat.zero_add] at hy
    refine hL n ?_
    rw [hx]
    simp only [DataW.weights, ht]
    exact DataW.weights_mem_each (j := k) (t := f.type) (d := y.1) (by rw [List.getElem?_map, hk]; rfl) (by rw [List.getElem?_map, hy]; rfl) n hn)
  simpa using this
theorem weightsAll_in {e : TypeId} : ∀ {l : List (DataW H)} {d : DataW H}, d ∈ l → ∀ n ∈ d.weights P e, n ∈ DataW.weightsAll P e l
  | x :: l, d, h, n, hn => by
    simp only [DataW.weightsAll, List.mem_append]
    rcases List.mem_cons.1 h with rfl | h
    · exact .inl hn
    · exact .inr (weightsAll_in h n hn)
theorem sl_in_w {w : World} {base fuel C bb : Nat} {held : Bool} {t e : TypeId} {cs : List Value} {x : DataW H × List MemPlace}
    (ht : P.underlying t = some (.slice e)) (hC : P.cellsOf e = C) (h0 : 0 < C) (hB' : P.bytesOf e = bb) (hB : 0 < bb) (hf : DataW.trod enc P w base (fun _ => true) held fuel t cs = some x) (hL : Light P t x.1) :
    ∃ (A : Option Addr) (n c : Nat), cs = [.slice A n c] ∧ (A = none → n = 0 ∧ c = 0) ∧ n ≤ c ∧ c < 2 ^ 47 ∧
      ∀ i, i < n → ∃ (cs' : List Value) (b o fuel : Nat) (x' : DataW H × List MemPlace), cs'.length = C ∧ (DataW.trod enc P w base (fun _ => true) held fuel e cs' = some x' ∧ Light P e x'.1) ∧ A = some ⟨b, o, none⟩ ∧ b < w.heap.size ∧ ∀ j, j < C → w.cell? ⟨b, o + i * C + j, none⟩ = cs'[j]? := by
  rcases Go.Deep.open_slice ht hf with ⟨rfl, _⟩ | ⟨a, len, cap, m, n, D, Pl, rfl, _, hl, hm, hmm, hx, hi⟩
  · exact ⟨none, 0, 0, rfl, fun _ => ⟨rfl, rfl⟩, Nat.le_refl _, by simp, fun i hi => absurd hi (by omega)⟩
  · simp only [if_true] at hmm
    subst hmm
    have hd1 : x.1 = .slice ((List.range len).map D) ((List.range (m - len)).map fun j => D (len + j)) := congrArg Prod.fst hx
    have hcap : m < 2 ^ 47 := by
      have h1 := hL ((((List.range len).map D).length + ((List.range (m - len)).map fun j => D (len + j)).length) * P.bytesOf e) (by
        rw [hd1]
        simp only [DataW.weights, ht, List.mem_cons, true_or])
      simp only [List.length_map, List.length_range] at h1
      have h2 : len + (m - len) = m := by omega
      rw [h2] at h1
      rw [hB'] at h1
      have h3 : m * 1 ≤ m * bb := Nat.mul_le_mul_left m hB
      unfold reachBytes at h1
      omega
    refine ⟨some a, len, m, rfl, (fun h => by cases h), hl, hcap, fun i hin => ?_⟩
    obtain ⟨cs, hcl, htr⟩ := hi i (by omega)
    rw [hC] at hcl
    obtain ⟨_, hlen, hat⟩ := World.cells?_some hcl
    have cellAt : ∀ (i : Nat) (cs : List Value), w.cells? base (a.add (i * C)) C = some cs → ∀ j, j < C → w.cell? (a.add (i * C + j)) = cs[j]? := fun i cs hcl j hj => by
      obtain ⟨_, _, hat⟩ := World.cells?_some hcl
      rw [← hat j hj, Go.Deep.add_add]
    obtain ⟨cs0, hcl0, _⟩ := hi 0 (by omega)
    rw [hC] at hcl0
    have c0 := cellAt 0 cs0 hcl0 0 h0
    obtain ⟨_, hlen0, _⟩ := World.cells?_some hcl0
    have ha0 : a.add (0 * C + 0) = a := by simp [Addr.add]
    rw [ha0, List.getElem?_eq_getElem (by omega)] at c0
    obtain ⟨hb0, hs0⟩ := cell_lt c0
    obtain ⟨b, o, sp⟩ := a
    simp only at hs0 hb0
    subst hs0
    refine ⟨cs, b, o, _, _, hlen, ⟨htr, fun k hk => hL k ?_⟩, rfl, hb0, fun j hj => ?_⟩
    · rw [hd1]
      simp only [DataW.weights, ht, List.mem_cons, List.mem_append]
      exact .inr (.inl (weightsAll_in (List.mem_map.2 ⟨i, List.mem_range.2 hin, rfl⟩) k hk))
    · have := cellAt i cs hcl j hj
      have haj : (Addr.mk b o none).add (i * C + j) = ⟨b, o + i * C + j, none⟩ := by
        unfold Addr.add; split
        · rename_i h
          rw [Nat.add_assoc, h]
          rfl
        · rw [Nat.add_assoc]
      rw [haj] at this
      exact this
theorem bsl_in_w {w : World} {base fuel : Nat} {held : Bool} {t e : TypeId} {cs : List Value} {x : DataW H × List MemPlace}
    (ht : P.underlying t = some (.slice e)) (he : P.underlying e = some (.int .u8)) (hc : P.cellsOf e = 1) (hB : P.bytesOf e = 1) (hf : DataW.trod enc P w base (fun _ => true) held fuel t cs = some x) (hL : Light P t x.1) :
    ∃ (A : Option Addr) (l : List UInt8) (c : Nat), cs = [.slice A l.length c] ∧ Rd w w.heap.size A l ∧ (A = none → l = [] ∧ c = 0) ∧ l.length ≤ c ∧ c < 2 ^ 47 := by
  obtain ⟨A, l, c, hcs, hR, hN, hle, _⟩ := open_bsl_in ht he hc hf
  obtain ⟨A', n', c', hcs', _, _, hlt, _⟩ := sl_in_w ht hc (by omega) hB (by omega) hf hL
  have e : c = c' := by rw [hcs] at hcs'; simp at hcs'; exact hcs'.2.2
  exact ⟨A, l, c, hcs, hR, hN, hle, by rw [e]; exact hlt⟩
theorem rws_of {α : Type} {C : Nat} {row : α → Array Value} {w : World} {A : Option Addr} {l : List α} (h0 : 0 < C) (hi : ∀ i (hi : i < l.length), (row l[i]).size = C ∧ ∃ b o, A = some ⟨b, o, none⟩ ∧ b < w.heap.size ∧ ∀ j, j < C → w.cell? ⟨b, o + i * C + j, none⟩ = (row l[i])[j]?) : Rws C row w w.heap.size A l := fun hne => by
  have h00 : 0 < l.length := List.length_pos_iff.2 hne
  obtain ⟨hs0, b, o, rfl, hb, hc0⟩ := hi 0 h00
  have hx := hc0 0 h0
  rw [Array.getElem?_eq_getElem (by rw [hs0]; exact h0)] at hx
  obtain ⟨cc, t, fr, hbk⟩ : ∃ cc t fr, bk w b = some (.cells cc t fr) := by
    unfold World.cell? at hx
    split at hx
    · rename_i c t f hb
      exact ⟨c, t, f, hb⟩
    · cases hx
  refine ⟨b, o, cc, t, fr, rfl, hb, hbk, fun j hj => ?_⟩
  obtain ⟨hs, b', o', e, _, hc⟩ := hi j hj
  cases e
  have hat : ∀ i, i < C → cc[o + j * C + i]? = (row l[j])[i]? := fun i h => by rw [← hc i h, bk_cell hbk]
  have hsz : o + j * C + C ≤ cc.size := by
    have h := hat (C - 1) (by omega)
    rw [Array.getElem?_eq_getElem (show C - 1 < (row l[j]).size by rw [hs]; omega)] at h
    have := (Array.getElem?_eq_some_iff.1 h).1
    omega
  refine ⟨hsz, Array.ext_getElem? fun i => ?_⟩
  unfold xt
  rw [Array.getElem?_extract]
  by_cases h : i < C
  · rw [if_pos (by omega), hat i h]
  · rw [if_neg (by omega), Array.getElem?_eq_none (by rw [hs]; omega)]
theorem addrs_in {w : World} {base fuel : Nat} {held : Bool} {cs : List Value} {x : DataW H × List MemPlace} (hf : DataW.trod enc Try.prog w base (fun _ => true) held fuel 30 cs = some x) (hL : Light Try.prog 30 x.1) :
    ∃ (A : Option Addr) (s : List (List UInt8)) (c : Nat), cs = [.slice A s.length c] ∧ Rws 16 (fun z : List UInt8 => (z.map B).toArray) w w.heap.size A s ∧ (∀ z ∈ s, z.length = 16) ∧ (A = none → s = [] ∧ c = 0) ∧ s.length ≤ c ∧ c < 2 ^ 47 := by
  obtain ⟨A, n, c, rfl, hN, hle, hlt, hel⟩ := sl_in_w (C := 16) (bb := 16) Try.underlying30 (by kernel_rfl) (by omega) (by kernel_rfl) (by omega) hf hL
  have key : ∀ i, i < n → ∃ z : List UInt8, z.length = 16 ∧ ∃ b o, A = some ⟨b, o, none⟩ ∧ b < w.heap.size ∧ ∀ j, j < 16 → w.cell? ⟨b, o + i * 16 + j, none⟩ = ((z.map B).toArray)[j]? := fun i hi => by
    obtain ⟨cs, b, o, fuel, x, hl, ht, e, hb, hc⟩ := hel i hi
    obtain ⟨z, hz, rfl, _⟩ := open_bytes_in Try.underlying23 Try.underlying5 (by kernel_rfl) (by kernel_rfl) ht.1
    exact ⟨z, hz, b, o, e, hb, fun j hj => by rw [hc j hj]; simp⟩
  obtain ⟨l, hl, hi⟩ := list_of key
  subst hl
  refine ⟨A, l, c, rfl, rws_of (by omega) fun i h => ⟨by simp [(hi i h).1], (hi i h).2⟩, fun z hz => ?_, fun e => ⟨List.eq_nil_of_length_eq_zero (hN e).1, (hN e).2⟩, hle, hlt⟩
  obtain ⟨i, h, rfl⟩ := List.getElem_of_mem hz
  exact (hi i h).1
theorem option_in {w : World} {base fuel : Nat} {held : Bool} {cs : List Value} {x : DataW H × List MemPlace} (hf : DataW.trod enc Try.prog w base (fun _ => true) held fuel 97 cs = some x) (hL : Light Try.prog 97 x.1) :
    ∃ c : Ov, cs = c.row.toList ∧ OvOk w w.heap.size c ∧ c.c < 2 ^ 47 := by
  obtain ⟨m, p0, q0, y0, rfl, h0, p1, q1, y1, rfl, h1, rfl⟩ := parts_in_w Try.underlying97 (by kernel_rfl) hf hL
  obtain ⟨k, rfl⟩ := part_u8 Try.underlying5 h0.1
  obtain ⟨A, l, c, rfl, hR, hN, hC, hlt⟩ := bsl_in_w Try.underlying27 Try.underlying5 (by kernel_rfl) (by kernel_rfl) h1.1 h1.2
  exact ⟨⟨k, A, l, c⟩, rfl, ⟨hR, hN, hC, Nat.lt_trans hlt (by decide)⟩, hlt⟩
theorem record_in {w : World} {base fuel : Nat} {held : Bool} {cs : List Value} {x : DataW H × List MemPlace} (hf : DataW.trod enc Try.prog w base (fun _ => true) held fuel 57 cs = some x) (hL : Light Try.prog 57 x.1) :
    ∃ c : Rv, cs = c.row.toList ∧ (Rws 16 (fun z : List UInt8 => (z.map B).toArray) w w.heap.size c.A c.s ∧ (∀ z ∈ c.s, z.length = 16) ∧ c.s.length ≤ c.c ∧ c.c < 2 ^ 47) := by
  obtain ⟨m, p0, q0, y0, rfl, h0, p1, q1, y1, rfl, h1, p2, q2, y2, rfl, h2, rfl⟩ := parts_in_w Try.underlying57 (by kernel_rfl) hf hL
  obtain ⟨k, rfl⟩ := part_u8 Try.underlying5 h0.1
  obtain ⟨g, hg, rfl, _⟩ := open_bytes_in Try.underlying23 Try.underlying5 (by kernel_rfl) (by kernel_rfl) h1.1
  obtain ⟨A, s, c, rfl, hR, h16, hN, hC, hlt⟩ := addrs_in h2.1 h2.2
  exact ⟨⟨k, g, A, s, c, hg⟩, by simp [Rv.row], hR, h16, hC, hlt⟩
theorem options_in {w : World} {base fuel : Nat} {held : Bool} {cs : List Value} {x : DataW H × List MemPlace} (hf : DataW.trod enc Try.prog w base (fun _ => true) held fuel 29 cs = some x) (hL : Light Try.prog 29 x.1) :
    ∃ (A : Option Addr) (l : List Ov) (c : Nat), cs = [.slice A l.length c] ∧ Ovs w w.heap.size A l ∧ l.length ≤ c ∧ c < 2 ^ 47 ∧ ∀ x ∈ l, x.c < 2 ^ 47 := by
  obtain ⟨A, n, c, rfl, hN, hle, hlt, hel⟩ := sl_in_w (C := 2) (bb := 32) Try.underlying29 (by kernel_rfl) (by omega) (by kernel_rfl) (by omega) hf hL
  have key : ∀ i, i < n → ∃ z : Ov, (OvOk w w.heap.size z ∧ z.c < 2 ^ 47) ∧ ∃ b o, A = some ⟨b, o, none⟩ ∧ b < w.heap.size ∧ ∀ j, j < 2 → w.cell? ⟨b, o + i * 2 + j, none⟩ = z.row[j]? := fun i hi => by
    obtain ⟨cs, b, o, fuel, x, hl, ht, e, hb, hc⟩ := hel i hi
    obtain ⟨z, rfl, hz⟩ := option_in ht.1 ht.2
    exact ⟨z, hz, b, o, e, hb, fun j hj => by rw [hc j hj]; simp⟩
  obtain ⟨l, hl, hi⟩ := list_of key
  subst hl
  refine ⟨A, l, c, rfl, ⟨rws_of (by omega) fun i h => ⟨Ov.row_size _, (hi i h).2⟩, fun z hz => ?_⟩, hle, hlt, fun z hz => ?_⟩
  · obtain ⟨i, h, rfl⟩ := List.getElem_of_mem hz
    exact (hi i h).1.1
  · obtain ⟨i, h, rfl⟩ := List.getElem_of_mem hz
    exact (hi i h).1.2
theorem records_in {w : World} {base fuel : Nat} {held : Bool} {cs : List Value} {x : DataW H × List MemPlace} (hf : DataW.trod enc Try.prog w base (fun _ => true) held fuel 31 cs = some x) (hL : Light Try.prog 31 x.1) :
    ∃ (A : Option Addr) (l : List Rv) (c : Nat), cs = [.slice A l.length c] ∧ Rws 18 Rv.row w w.heap.size A l ∧ l.length ≤ c ∧ c < 2 ^ 47 ∧ ∀ x ∈ l, Rws 16 (fun z : List UInt8 => (z.map B).toArray) w w.heap.size x.A x.s ∧ (∀ z ∈ x.s, z.length = 16) ∧ x.s.length ≤ x.c ∧ x.c < 2 ^ 47 := by
  obtain ⟨A, n, c, rfl, hN, hle, hlt, hel⟩ := sl_in_w (C := 18) (bb := 48) Try.underlying31 (by kernel_rfl) (by omega) (by kernel_rfl) (by omega) hf hL
  have key : ∀ i, i < n → ∃ z : Rv, (Rws 16 (fun z : List UInt8 => (z.map B).toArray) w w.heap.size z.A z.s ∧ (∀ y ∈ z.s, y.length = 16) ∧ z.s.length ≤ z.c ∧ z.c < 2 ^ 47) ∧ ∃ b o, A = some ⟨b, o, none⟩ ∧ b < w.heap.size ∧ ∀ j, j < 18 → w.cell? ⟨b, o + i * 18 + j, none⟩ = z.row[j]? := fun i hi => by
    obtain ⟨cs, b, o, fuel, x, hl, ht, e, hb, hc⟩ := hel i hi
    obtain ⟨z, rfl, hz⟩ := record_in ht.1 ht.2
    exact ⟨z, hz, b, o, e, hb, fun j hj => by rw [hc j hj]; simp⟩
  obtain ⟨l, hl, hi⟩ := list_of key
  subst hl
  refine ⟨A, l, c, rfl, rws_of (by omega) fun i h => ⟨Rv.row_size _, (hi i h).2⟩, hle, hlt, fun z hz => ?_⟩
  obtain ⟨i, h, rfl⟩ := List.getElem_of_mem hz
  exact (hi i h).1
theorem open_message {w : World} {base b0 : Nat} {r : Go.Reach} {held : Bool} {v : Value} {d : DataW H} {ps : List MemPlace}
    (hval : Value.okWide Try.prog w r b0 33 v) (hd : DataW.Trod enc Try.prog w base (fun _ => true) held 33 v d ps) (hL : Light Try.prog 33 d) :
    ∃ m : Mv, v = .agg (mC m) ∧ MvOk w w.heap.size m ∧ Big m := by
  obtain ⟨fuel, hf⟩ := hd
  unfold Value.okWide at hval
  rw [Try.underlying33] at hval
  obtain ⟨cs, rfl, _⟩ := hval
  simp only [Value.cells] at hf
  obtain ⟨m, p0, q0, y0, hcs, h0, p1, q1, y1, rfl, h1, p2, q2, y2, rfl, h2, p3, q3, y3, rfl, h3, p4, q4, y4, rfl, h4, p5, q5, y5, rfl, h5, p6, q6, y6, rfl, h6, p7, q7, y7, rfl, h7, p8, q8, y8, rfl, h8, p9, q9, y9, rfl, h9, p10, q10, y10, rfl, h10, p11, q11, y11, rfl, h11, p12, q12, y12, rfl, h12, p13, q13, y13, rfl, h13, p14, q14, y14, rfl, h14, p15, q15, y15, rfl, h15, p16, q16, y16, rfl, h16, p17, q17, y17, rfl, h17, rfl⟩ := parts_in_w Try.underlying33 (by kernel_rfl) hf hL
  obtain ⟨kind, rfl⟩ := part_u8 Try.underlying5 h0.1
  obtain ⟨code, rfl⟩ := part_u8 Try.underlying5 h1.1
  obtain ⟨param, rfl, b1⟩ := part_u32 Try.underlying26 h2.1
  obtain ⟨DA, dd, dc, rfl, hR3, hN3, hC3, hlt3⟩ := bsl_in_w Try.underlying27 Try.underlying5 (by kernel_rfl) (by kernel_rfl) h3.1 h3.2
  obtain ⟨hops, rfl⟩ := part_u8 Try.underlying5 h4.1
  obtain ⟨flags, rfl⟩ := part_u8 Try.underlying5 h5.1
  obtain ⟨life, rfl, b2⟩ := part_u16 Try.underlying28 h6.1
  obtain ⟨reach, rfl, b3⟩ := part_u32 Try.underlying26 h7.1
  obtain ⟨retr, rfl, b4⟩ := part_u32 Try.underlying26 h8.1
  obtain ⟨tgt, ht, rfl, _⟩ := open_bytes_in Try.underlying23 Try.underlying5 (by kernel_rfl) (by kernel_rfl) h9.1
  obtain ⟨dst, hdd, rfl, _⟩ := open_bytes_in Try.underlying23 Try.underlying5 (by kernel_rfl) (by kernel_rfl) h10.1
  obtain ⟨OA, os, oc, rfl, hR11, hC11, hlt11, hx11⟩ := options_in h11.1 h11.2
  obtain ⟨mx, rfl, b5⟩ := part_u16 Try.underlying28 h12.1
  obtain ⟨grp, hg, rfl, _⟩ := open_bytes_in Try.underlying23 Try.underlying5 (by kernel_rfl) (by kernel_rfl) h13.1
  obtain ⟨rob, rfl⟩ := part_u8 Try.underlying5 h14.1
  obtain ⟨int, rfl⟩ := part_u8 Try.underlying5 h15.1
  obtain ⟨SA, ss, sc, rfl, hR16, h1616, hN16, hC16, hlt16⟩ := addrs_in h16.1 h16.2
  obtain ⟨RA, rs, rc, rfl, hR17, hC17, hlt17, hx17⟩ := records_in h17.1 h17.2
  refine ⟨⟨kind, code, param, DA, dd, dc, hops, flags, life, reach, retr, tgt, dst, OA, os, oc, mx, grp, rob, int, SA, ss, sc, RA, rs, rc, ht, hdd, hg⟩, ?_, ?_, ?_⟩
  · congr 1
    apply Array.ext'
    rw [hcs]
    simp [mC]
  · exact ⟨hR3, hN3, hC3, Nat.lt_trans hlt3 (by decide), hR11, hC11, Nat.lt_trans hlt11 (by decide), hR16, h1616, hC16, Nat.lt_trans hlt16 (by decide), hR17, fun r hr => ⟨(hx17 r hr).1, (hx17 r hr).2.1, (hx17 r hr).2.2.1, Nat.lt_trans (hx17 r hr).2.2.2 (by decide)⟩, hC17, Nat.lt_trans hlt17 (by decide), b1, b2, b3, b4, b5⟩
  · exact ⟨by show dd.length < _; omega, by show ss.length < _; omega, by show rs.length < _; omega, fun r hr => by have := (hx17 r hr).2.2; omega, by show os.length < _; omega, fun x hx => by have h1 := (hR11.2 x hx).le; have h2 := hx11 x hx; omega⟩
theorem open_ends {w : World} {base b0 : Nat} {r : Go.Reach} {held : Bool} {v : Value} {d : DataW H} {ps : List MemPlace}
    (hval : Value.okWide Try.prog w r b0 25 v) (hd : DataW.Trod enc Try.prog w base (fun _ => true) held 25 v d ps) :
    ∃ src dst : List UInt8, v = av (src ++ dst) ∧ src.length = 16 ∧ dst.length = 16 := by
  obtain ⟨m, cs, rfl, p0, q0, y0, rfl, h0, p1, q1, y1, rfl, h1, rfl⟩ := open_parts Try.underlying25 (by kernel_rfl) hval hd
  obtain ⟨s, hs, rfl, _⟩ := open_bytes_in Try.underlying23 Try.underlying5 (by kernel_rfl) (by kernel_rfl) h0
  obtain ⟨e, he, rfl, _⟩ := open_bytes_in Try.underlying23 Try.underlying5 (by kernel_rfl) (by kernel_rfl) h1
  exact ⟨s, e, by simp [av], hs, he⟩
end
end Go.Proofs.Ytjimmfbjhkoekaa

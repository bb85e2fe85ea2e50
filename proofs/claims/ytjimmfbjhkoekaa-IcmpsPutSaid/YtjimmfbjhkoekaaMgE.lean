import Derived.Test.YtjimmfbjhkoekaaMgA
import Derived.ProofKit
import Derived.OpenShut
import Derived.Carry
import Derived.ChangeSlices
import Derived.Deep.Slices
import Derived.Lib.SmallJoins
/- From a law's walk (it returns true; nothing that was there has changed) to the row's word. -/
namespace Go.Proofs.Ytjimmfbjhkoekaa
open Go.ChangeShapes Go.WideShapes Go.ChangeAt Go.RowKit
section
variable {H : Type} {enc : TypeId × Value → H} {P : Program}
theorem trodAll_below (hl : laidOutB P = true) {W W' : World} (hb : Below W.heap.size W W') : ∀ {ts : List TypeId} {vs : List Value} {ds : List (DataW H)} {ps : List MemPlace},
    (∀ t ∈ ts, P.readableRec t = true ∧ t < P.types.size) → (∀ x ∈ ps, x.block < W.heap.size) → DataW.TrodAll enc P W 0 (fun _ => true) true ts vs ds ps →
    DataW.TrodAll enc P W' 0 (fun b => decide (b < W.heap.size)) true ts vs ds ps
  | [], [], [], _, _, _, h => h
  | t :: ts, v :: vs, d :: ds, ps, hr, hlt, h => by
    obtain ⟨p, q, h1, h2, rfl⟩ := h
    refine ⟨p, q, Below.trod hl (hr t (by simp)).1 (hr t (by simp)).2 h1 hb (fun x hx => hlt x (by simp [hx])), ?_, rfl⟩
    exact trodAll_below hl hb (fun t ht => hr t (by simp [ht])) (fun x hx => hlt x (by simp [hx])) h2
  | [], [], _ :: _, _, _, _, h => by cases h
  | [], _ :: _, _, _, _, _, h => by cases h
  | _ :: _, [], _, _, _, _, h => by cases h
  | _ :: _, _ :: _, [], _, _, _, h => by cases h
theorem law_post {f : Func} {s : ChangeSpec} {W W' : World} {args : Array Value} {ds gs : List (DataW H)} {before : List MemPlace} {tb : TypeId}
    (hW : DataW.Whole enc P f.params.toList s.vars false W args.toList ds gs before) (hsv : s.vars = [])
    (hres : (s.fn H ds).results = [.lit (.bool true)]) (hargs : (s.fn H ds).args = ds) (hvars : (s.fn H ds).vars = [])
    (hrt : f.resultTypes = #[tb]) (h4 : P.underlying tb = some .bool) (hl : laidOutB P = true) (hr : ∀ t ∈ f.params.toList, P.readableRec t = true ∧ t < P.types.size)
    (hb : Below W.heap.size W W') : s.post enc P f false true false false W args (.bool true) W' := by
  have hlt : ∀ p ∈ before, p.block < W.heap.size := fun p hp => hW.lt p hp
  have hW' := hW
  obtain ⟨p, q, hA, hV, rfl, hz, hn⟩ := hW
  rw [hsv] at hV
  obtain ⟨rfl, rfl⟩ := trodVars_none hV
  refine ⟨ds, [], p ++ [], [], p, [], hW', ?_, ?_, ?_, ?_, fun h => by cases h⟩
  · rw [List.append_nil, hres, hrt]
    exact trodAll_cons_mk (shut_bool h4 true) trodAll_mk0
  · rw [List.append_nil, hargs]
    exact trodAll_below hl hb hr (fun x hx => hlt x (by simp [hx])) hA
  · rw [List.append_nil, hvars, hsv]
    rfl
  · exact hb.frame _
theorem law_calls {n : FuncId} {f : Func} {s : ChangeSpec} {W : World} {args : Array Value} {ds gs : List (DataW H)} {before : List MemPlace} {tb : TypeId}
    (hW : DataW.Whole enc P f.params.toList s.vars false W args.toList ds gs before) (hsv : s.vars = [])
    (hres : (s.fn H ds).results = [.lit (.bool true)]) (hargs : (s.fn H ds).args = ds) (hvars : (s.fn H ds).vars = [])
    (hrt : f.resultTypes = #[tb]) (h4 : P.underlying tb = some .bool) (hl : laidOutB P = true) (hr : ∀ t ∈ f.params.toList, P.readableRec t = true ∧ t < P.types.size)
    (h : Calls P n args W fun e W' => e = .returned (.bool true) ∧ Below W.heap.size W W') :
    Calls P n args W fun e W' => ∃ v, e = .returned v ∧ s.post enc P f false true false false W args v W' :=
  h.mono fun _ _ ⟨he, hb⟩ => ⟨_, he, law_post hW hsv hres hargs hvars hrt h4 hl hr hb⟩
/-- An array of bytes, opened. -/
theorem open_bytes_in {w : World} {base : Nat} {sp : Nat → Bool} {held : Bool} {n : Nat} {t e : TypeId} (ht : P.underlying t = some (.array n e)) (he : P.underlying e = some (.int .u8)) (hc : P.cellsOf e = 1) (hct : P.cellsOf t = n)
    {cs : List Value} {fuel : Nat} {x : DataW H × List MemPlace} (h : DataW.trod enc P w base sp held fuel t cs = some x) :
    ∃ l : List UInt8, l.length = n ∧ cs = l.map B ∧ x = (.agg (l.map fun b => .lit (.int .u8 b.toNat)), []) := by
  obtain ⟨xs, m, rfl, rfl, hlen, hxl, hf⟩ := DataW.trod_array ht h
  rw [hct] at hlen
  rw [hc] at hf
  have key : ∀ i, i < n → ∃ b : UInt8, cs[i]? = some (B b) ∧ xs[i]? = some (.lit (.int .u8 b.toNat), []) := fun i hi => by
    have h1 := hf i hi
    rw [Nat.mul_one] at h1
    obtain ⟨y, hy⟩ : ∃ y, xs[i]? = some y := ⟨xs[i]'(by omega), List.getElem?_eq_getElem (by omega)⟩
    rw [hy] at h1
    obtain ⟨z, h2, rfl, hw⟩ := DataW.trod_int he h1
    have h3 : cs[i]? = some (.int .u8 z) := by
      have := congrArg (·[0]?) h2
      simpa [List.getElem?_take, List.getElem?_drop] using this
    have hb : 0 ≤ z ∧ z ≤ 255 := by simpa [Lit.wf, IntKind.min, IntKind.max, IntKind.signed, IntKind.bits] using hw
    have e : ((UInt8.ofNat z.toNat).toNat : Int) = z := by
      simp only [UInt8.toNat_ofNat']
      rw [Nat.mod_eq_of_lt (by omega)]
      omega
    exact ⟨UInt8.ofNat z.toNat, by rw [h3, B, e], by rw [hy, e]⟩
  have hch : ∃ g : Nat → UInt8, ∀ i, i < n → cs[i]? = some (B (g i)) ∧ xs[i]? = some (.lit (.int .u8 (g i).toNat), []) :=
    ⟨fun i => if h : i < n then Classical.choose (key i h) else 0, fun i hi => by simp only [dif_pos hi]; exact Classical.choose_spec (key i hi)⟩
  obtain ⟨g, hg⟩ := hch
  refine ⟨(List.range n).map g, by simp, ?_, ?_⟩
  · apply List.ext_getElem?
    intro i
    by_cases hi : i < n
    · rw [(hg i hi).1, List.map_map, List.getElem?_map, List.getElem?_range hi]; rfl
    · rw [List.getElem?_eq_none (by omega), List.getElem?_eq_none (by simp; omega)]
  · have e : xs = (List.range n).map fun i => (.lit (.int .u8 (g i).toNat), []) := by
      apply List.ext_getElem?
      intro i
      by_cases hi : i < n
      · rw [(hg i hi).2, List.getElem?_map, List.getElem?_range hi]; rfl
      · rw [List.getElem?_eq_none (by omega), List.getElem?_eq_none (by simp; omega)]
    rw [e]
    simp [List.flatMap, Function.comp_def]
theorem open_bytes {w : World} {base b0 : Nat} {r : Reach} {sp : Nat → Bool} {held : Bool} {n : Nat} {t e : TypeId} {v : Value} {d : DataW H} {ps : List MemPlace}
    (ht : P.underlying t = some (.array n e)) (he : P.underlying e = some (.int .u8)) (hc : P.cellsOf e = 1) (hct : P.cellsOf t = n)
    (hval : Value.okWide P w r b0 t v) (hd : DataW.Trod enc P w base sp held t v d ps) : ∃ l : List UInt8, l.length = n ∧ v = av l := by
  obtain ⟨fuel, hf⟩ := hd
  obtain ⟨l, h1, h2, _⟩ := open_bytes_in ht he hc hct hf
  refine ⟨l, h1, ?_⟩
  unfold Value.okWide at hval
  rw [ht] at hval
  obtain ⟨cs, rfl, _⟩ := hval
  simp only [Value.cells] at h2
  unfold av
  rw [← h2]
theorem u8_of_wf {z : Int} (hw : (Lit.int .u8 z).wf = true) : ∃ x : UInt8, (x.toNat : Int) = z := by
  have hb : 0 ≤ z ∧ z ≤ 255 := by simpa [Lit.wf, IntKind.min, IntKind.max, IntKind.signed, IntKind.bits] using hw
  refine ⟨UInt8.ofNat z.toNat, ?_⟩
  simp only [UInt8.toNat_ofNat']
  rw [Nat.mod_eq_of_lt (by omega)]
  omega
theorem open_u8 {w : World} {base b0 : Nat} {r : Reach} {sp : Nat → Bool} {held : Bool} {t : TypeId} {v : Value} {d : DataW H} {ps : List MemPlace}
    (ht : P.underlying t = some (.int .u8)) (hval : Value.okWide P w r b0 t v) (hd : DataW.Trod enc P w base sp held t v d ps) : ∃ x : UInt8, v = B x := by
  obtain ⟨n, rfl, _, _, hw⟩ := open_int ht hval hd
  obtain ⟨x, hx⟩ := u8_of_wf hw
  exact ⟨x, by rw [B, hx]⟩
/-- A struct of a byte and an array of bytes, opened. -/
theorem open_cut {w : World} {base b0 : Nat} {r : Reach} {sp : Nat → Bool} {held : Bool} {n : Nat} {t t1 t2 e : TypeId} {f1 f2 : Field} {v : Value} {d : DataW H} {ps : List MemPlace}
    (ht : P.underlying t = some (.struct #[f1, f2])) (hf1 : f1.type = t1 ∧ f1.offset = 0) (hf2 : f2.type = t2 ∧ f2.offset = 1) (h1 : P.underlying t1 = some (.int .u8)) (h2 : P.underlying t2 = some (.array n e)) (he : P.underlying e = some (.int .u8))
    (hce : P.cellsOf e = 1) (hc1 : P.cellsOf t1 = 1) (hc2 : P.cellsOf t2 = n) (hct : P.cellsOf t = n + 1)
    (hval : Value.okWide P w r b0 t v) (hd : DataW.Trod enc P w base sp held t v d ps) : ∃ l : List UInt8, l.length = n + 1 ∧ v = av l := by
  obtain ⟨fuel, hf⟩ := hd
  unfold Value.okWide at hval
  rw [ht] at hval
  obtain ⟨cs, rfl, _⟩ := hval
  simp only [Value.cells] at hf
  obtain ⟨xs, m, rfl, hx, hlen, hxl, hff⟩ := DataW.trod_struct ht hf
  rw [hct] at hlen
  have g1 := hff 0 f1 rfl
  have g2 := hff 1 f2 rfl
  rw [hf1.1, hf1.2, hc1, List.drop_zero] at g1
  rw [hf2.1, hf2.2, hc2] at g2
  have hx2 : xs.length = 2 := hxl
  obtain ⟨y1, hy1⟩ : ∃ y, xs[0]? = some y := ⟨xs[0]'(by omega), List.getElem?_eq_getElem (by omega)⟩
  obtain ⟨y2, hy2⟩ : ∃ y, xs[1]? = some y := ⟨xs[1]'(by omega), List.getElem?_eq_getElem (by omega)⟩
  rw [hy1] at g1; rw [hy2] at g2
  obtain ⟨z, e1, _, hw⟩ := DataW.trod_int h1 g1
  obtain ⟨x, hx⟩ := u8_of_wf hw
  obtain ⟨l, hl, e2, _⟩ := open_bytes_in h2 he hce hc2 g2
  refine ⟨x :: l, by simp [hl], ?_⟩
  have e3 : cs.toList = cs.toList.take 1 ++ cs.toList.drop 1 := (List.take_append_drop 1 _).symm
  have e4 : (cs.toList.drop 1).take n = cs.toList.drop 1 := List.take_of_length_le (by simp at hlen ⊢; omega)
  rw [e4] at e2
  have : cs = (B x :: l.map B).toArray := by
    rw [← Array.toArray_toList (xs := cs), e3, e1, e2, B, hx]; rfl
  rw [this]; rfl
/-- A table of arrays of bytes. -/
def rowD {H : Type} (r : List UInt8) : DataW H := .agg (r.map fun b => .lit (.int .u8 (b.toNat : Int)))
theorem chunks {α : Type} (m : Nat) : ∀ (rows : List (List α)) (cs : List α), (∀ r ∈ rows, r.length = m) → cs.length = rows.length * m → (∀ i r, rows[i]? = some r → (cs.drop (i * m)).take m = r) → cs = rows.flatten
  | [], cs, _, hl, _ => by simpa using hl
  | r :: rows, cs, hr, hl, h => by
    have h0 := h 0 r rfl
    simp only [Nat.zero_mul, List.drop_zero] at h0
    simp only [List.length_cons, Nat.succ_mul] at hl
    have ih := chunks m rows (cs.drop m) (fun x hx => hr x (by simp [hx])) (by simp; omega) (fun i x hx => by
      have := h (i + 1) x (by simpa using hx)
      rw [List.drop_drop, Nat.add_comm m, ← Nat.succ_mul]; exact this)
    rw [List.flatten_cons, ← ih, ← h0, List.take_append_drop]
theorem rowD_inj {H : Type} {r s : List UInt8} (h : (rowD r : DataW H) = rowD s) : r = s := by
  simp only [rowD, DataW.agg.injEq] at h
  apply List.ext_getElem?
  intro i
  have := congrArg (·[i]?) h
  simp only [List.getElem?_map] at this
  cases h1 : r[i]? <;> cases h2 : s[i]? <;> simp [h1, h2] at this ⊢
  rename_i a b
  rw [← UInt8.toNat_inj]; omega
theorem tab2_in {w : World} {base : Nat} {sp : Nat → Bool} {held : Bool} {n m : Nat} {t e u : TypeId} (ht : P.underlying t = some (.array n e)) (he : P.underlying e = some (.array m u)) (hu : P.underlying u = some (.int .u8))
    (hcu : P.cellsOf u = 1) (hce : P.cellsOf e = m) (hct : P.cellsOf t = n * m) {cs : List Value} {fuel : Nat} {rows : List (List UInt8)} {p : List MemPlace}
    (h : DataW.trod enc P w base sp held fuel t cs = some (.agg (rows.map rowD), p)) (hr : ∀ r ∈ rows, r.length = m) : cs = (rows.flatten).map B := by
  obtain ⟨xs, f, rfl, hx, hlen, hxl, hf⟩ := DataW.trod_array ht h
  simp only [Prod.mk.injEq, DataW.agg.injEq] at hx
  have hrl : rows.length = n := by have := congrArg List.length hx.1; simp at this; omega
  have := chunks m (rows.map fun r => r.map B) cs (by simpa using hr) (by rw [hlen, hct, List.length_map, hrl]) (fun i r hir => by
    have hi : i < n := by
      have := (List.getElem?_eq_some_iff.1 hir).1
      simpa [hrl] using this
    have h1 := hf i hi
    rw [hce] at h1
    obtain ⟨y, hy⟩ : ∃ y, xs[i]? = some y := ⟨xs[i]'(by omega), List.getElem?_eq_getElem (by omega)⟩
    rw [hy] at h1
    obtain ⟨l, hl, hc, rfl⟩ := open_bytes_in he hu hcu hce h1
    rw [hc]
    have h2 := congrArg (·[i]?) hx.1
    simp only [List.getElem?_map, hy, Option.map_some] at h2
    simp only [List.getElem?_map, Option.map_eq_some_iff] at hir
    obtain ⟨s, hs, rfl⟩ := hir
    rw [hs] at h2
    simp only [Option.map_some, Option.some.injEq] at h2
    have : s = l := rowD_inj (H := H) h2
    rw [this])
  rw [this, List.map_flatten]
theorem tab2_laid {w : World} {name : String} {rest : List (String × DataW Unit)} {g n m : Nat} {t e u : TypeId} {rows : List (List UInt8)} (hg : P.globalNamed name = some g) (hty : (P.globals[g]?).map (·.type) = some t)
    (ht : P.underlying t = some (.array n e)) (he : P.underlying e = some (.array m u)) (hu : P.underlying u = some (.int .u8))
    (hcu : P.cellsOf u = 1) (hce : P.cellsOf e = m) (hct : P.cellsOf t = n * m) (hr : ∀ r ∈ rows, r.length = m) (h : laidMet P ((name, .agg (rows.map rowD)) :: rest) w) :
    ∃ t fr, bk w g = some (.cells ((rows.flatten).map B).toArray t fr) := by
  obtain ⟨ps, ⟨g', t', cs, fuel, p, q, hg', ht', hvar, hd, _, _⟩, _⟩ := h
  obtain rfl := Option.some.inj (hg.symm.trans hg')
  obtain rfl := Option.some.inj (hty.symm.trans ht')
  have hcs := tab2_in ht he hu hcu hce hct hd hr
  simp only [World.var?, hg, Option.bind_some] at hvar
  cases hb : w.heap[g]? with
  | none => rw [hb] at hvar; cases hvar
  | some o =>
    rw [hb] at hvar
    cases o with
    | cells c t fr =>
      simp only [Option.some.injEq] at hvar
      subst hvar
      refine ⟨t, fr, ?_⟩
      unfold bk
      rw [hb, ← hcs]
    | _ => cases hvar
end
end Go.Proofs.Ytjimmfbjhkoekaa
/- A slice of bytes that came in, opened. -/
namespace Go.Proofs.Ytjimmfbjhkoekaa
open Go.ChangeShapes Go.WideShapes Go.ChangeAt Go.RowKit
section
variable {H : Type} {enc : TypeId × Value → H} {P : Program}
theorem cell_lt {w : World} {a : Addr} {v : Value} (h : w.cell? a = some v) : a.block < w.heap.size ∧ a.spot = none := by
  unfold World.cell? at h
  split at h
  · rename_i c t f hb
    refine ⟨(Array.getElem?_eq_some_iff.1 hb).1, ?_⟩
    split at h
    · cases h
    · rename_i hs; simpa using hs
  · cases h
/-- A slice of bytes: its address, what it holds, its room. -/
theorem open_bsl_in {w : World} {base fuel : Nat} {held : Bool} {t e : TypeId} {cs : List Value} {x : DataW H × List MemPlace}
    (ht : P.underlying t = some (.slice e)) (he : P.underlying e = some (.int .u8)) (hc : P.cellsOf e = 1) (hf : DataW.trod enc P w base (fun _ => true) held fuel t cs = some x) :
    ∃ (A : Option Addr) (l : List UInt8) (c : Nat), cs = [.slice A l.length c] ∧ Rd w w.heap.size A l ∧ (A = none → l = [] ∧ c = 0) ∧ l.length ≤ c ∧ l.length < 2 ^ 63 := by
  rcases open_ints ht he hc hf with ⟨hcs, _⟩ | ⟨a, len, cap, zs, hcs, _, hl, hm, hz, _, hcell, hw⟩
  · exact ⟨none, [], 0, hcs, Rd.nil, fun _ => ⟨rfl, rfl⟩, Nat.le_refl _, by simp⟩
  · subst hcs
    simp only [if_true] at hz
    have hbz : ∀ z ∈ zs, ((UInt8.ofNat z.toNat).toNat : Int) = z := fun z hzm => by
      have hb : 0 ≤ z ∧ z ≤ 255 := by simpa [Lit.wf, IntKind.min, IntKind.max, IntKind.signed, IntKind.bits] using hw z hzm
      simp only [UInt8.toNat_ofNat']
      rw [Nat.mod_eq_of_lt (by omega)]
      omega
    have hll : ((zs.take len).map fun z => UInt8.ofNat z.toNat).length = len := by simp; omega
    refine ⟨some a, (zs.take len).map fun z => UInt8.ofNat z.toNat, cap, by rw [hll], ?_, (fun h => by cases h), by rw [hll]; exact hl, by rw [hll]; unfold maxLen at hm; omega⟩
    intro h0
    rw [hll] at h0
    have c0 := hcell 0 (by omega)
    have ha0 : a.add 0 = a := by simp [Addr.add]
    rw [ha0] at c0
    obtain ⟨hb0, hs0⟩ := cell_lt c0
    obtain ⟨b, o, sp⟩ := a
    simp only at hs0 hb0
    subst hs0
    refine ⟨b, o, rfl, hb0, fun j hj => ?_⟩
    rw [hll] at hj
    have cj := hcell j (by omega)
    have haj : (Addr.mk b o none).add j = ⟨b, o + j, none⟩ := by
      unfold Addr.add; split
      · rename_i h; subst h; rfl
      · rfl
    rw [haj] at cj
    rw [cj]
    have hzj : zs.getD j 0 = zs[j]'(by omega) := by simp [List.getD, List.getElem?_eq_getElem (show j < zs.length by omega)]
    rw [hzj]
    simp only [List.getElem_map, List.getElem_take, B]
    rw [hbz _ (List.getElem_mem _)]
theorem open_bsl {w : World} {base b0 : Nat} {r : Reach} {held : Bool} {t e : TypeId} {v : Value} {d : DataW H} {ps : List MemPlace}
    (ht : P.underlying t = some (.slice e)) (he : P.underlying e = some (.int .u8)) (hc : P.cellsOf e = 1)
    (hval : Value.okWide P w r b0 t v) (hd : DataW.Trod enc P w base (fun _ => true) held t v d ps) :
    ∃ (A : Option Addr) (l : List UInt8) (c : Nat), v = .slice A l.length c ∧ Rd w w.heap.size A l ∧ (A = none → l = [] ∧ c = 0) ∧ l.length ≤ c ∧ l.length < 2 ^ 63 := by
  obtain ⟨fuel, hf⟩ := hd
  obtain ⟨a', n', c', rfl⟩ := okWide_slice ht hval
  obtain ⟨A, l, c, hcs, h⟩ := open_bsl_in ht he hc hf
  simp only [Value.cells] at hcs
  have : (Value.slice a' n' c') = .slice A l.length c := by simpa using hcs
  exact ⟨A, l, c, this, h⟩
/-- An unsigned integer that came in. -/
theorem open_u64 {w : World} {base b0 : Nat} {r : Reach} {sp : Nat → Bool} {held : Bool} {t : TypeId} {v : Value} {d : DataW H} {ps : List MemPlace}
    (ht : P.underlying t = some (.int .u64)) (hval : Value.okWide P w r b0 t v) (hd : DataW.Trod enc P w base sp held t v d ps) : ∃ n : Nat, v = .int .u64 n ∧ n < 2 ^ 64 := by
  obtain ⟨n, rfl, _, _, hw⟩ := open_int ht hval hd
  have hb : 0 ≤ n ∧ n ≤ 18446744073709551615 := by simpa [Lit.wf, IntKind.min, IntKind.max, IntKind.signed, IntKind.bits] using hw
  obtain ⟨m, rfl⟩ := Int.eq_ofNat_of_zero_le hb.1
  exact ⟨m, rfl, by omega⟩
theorem open_i64 {w : World} {base b0 : Nat} {r : Reach} {sp : Nat → Bool} {held : Bool} {t : TypeId} {v : Value} {d : DataW H} {ps : List MemPlace}
    (ht : P.underlying t = some (.int .i64)) (hval : Value.okWide P w r b0 t v) (hd : DataW.Trod enc P w base sp held t v d ps) : ∃ n : Int, v = .int .i64 n ∧ -2 ^ 63 ≤ n ∧ n < 2 ^ 63 := by
  obtain ⟨n, rfl, _, _, hw⟩ := open_int ht hval hd
  have hb : -9223372036854775808 ≤ n ∧ n ≤ 9223372036854775807 := by simpa [Lit.wf, IntKind.min, IntKind.max, IntKind.signed, IntKind.bits] using hw
  exact ⟨n, rfl, by omega, by omega⟩
end
end Go.Proofs.Ytjimmfbjhkoekaa
/- Slices of structs that came in, opened. -/
namespace Go.Proofs.Ytjimmfbjhkoekaa
open Go.ChangeShapes Go.WideShapes Go.ChangeAt Go.RowKit Go.Deep
theorem list_of {β : Type} {n : Nat} {p : Nat → β → Prop} (h : ∀ i, i < n → ∃ y, p i y) : ∃ l : List β, l.length = n ∧ ∀ i (hi : i < l.length), p i l[i] := by
  refine ⟨(List.range n).attach.map fun i => Classical.choose (h i.1 (List.mem_range.1 i.2)), by simp, fun i hi => ?_⟩
  have hi' : i < n := by simpa using hi
  have := Classical.choose_spec (h i hi')
  simpa using this
section
variable {H : Type} {enc : TypeId × Value → H} {P : Program}
/-- A slice whatever its elements are: of each the cells, which read. -/
theorem open_sl {w : World} {base b0 C : Nat} {r : Reach} {held : Bool} {t e : TypeId} {v : Value} {d : DataW H} {ps : List MemPlace}
    (ht : P.underlying t = some (.slice e)) (hC : P.cellsOf e = C) (h0 : 0 < C)
    (hval : Value.okWide P w r b0 t v) (hd : DataW.Trod enc P w base (fun _ => true) held t v d ps) :
    ∃ (A : Option Addr) (n c : Nat), v = .slice A n c ∧ (A = none → n = 0 ∧ c = 0) ∧ n ≤ c ∧ n < 2 ^ 63 ∧
      ∀ i, i < n → ∃ (cs : List Value) (b o fuel : Nat) (x : DataW H × List MemPlace), cs.length = C ∧ DataW.trod enc P w base (fun _ => true) held fuel e cs = some x ∧ A = some ⟨b, o, none⟩ ∧ b < w.heap.size ∧ ∀ j, j < C → w.cell? ⟨b, o + i * C + j, none⟩ = cs[j]? := by
  obtain ⟨fuel, hf⟩ := hd
  obtain ⟨a', n', c', rfl⟩ := okWide_slice ht hval
  rcases Go.Deep.open_slice ht hf with ⟨hcs, _⟩ | ⟨a, len, cap, m, n, D, Pl, hcs, _, hl, hm, hmm, _, hi⟩
  · simp only [Value.cells] at hcs
    have : (Value.slice a' n' c') = .slice none 0 0 := by simpa using hcs
    cases this
    exact ⟨none, 0, 0, rfl, fun _ => ⟨rfl, rfl⟩, Nat.le_refl _, by simp, fun i hi => absurd hi (by omega)⟩
  · simp only [Value.cells] at hcs
    have : (Value.slice a' n' c') = .slice (some a) len cap := by simpa using hcs
    cases this
    simp only [if_true] at hmm
    subst hmm
    refine ⟨some a, n', m, rfl, (fun h => by cases h), hl, by unfold maxLen at hm; omega, fun i hin => ?_⟩
    obtain ⟨cs, hcl, htr⟩ := hi i (by omega)
    rw [hC] at hcl
    obtain ⟨_, hlen, hat⟩ := World.cells?_some hcl
    have cellAt : ∀ (i : Nat) (cs : List Value), w.cells? base (a.add (i * C)) C = some cs → ∀ j, j < C → w.cell? (a.add (i * C + j)) = cs[j]? := fun i cs hcl j hj => by
      obtain ⟨_, _, hat⟩ := World.cells?_some hcl
      rw [← hat j hj, Go.Deep.add_add]
    obtain ⟨cs0, hcl0, _⟩ := hi 0 (by omega)
    rw [hC] at hcl0
    have c0 := cellAt 0 cs0 hcl0 0 h0
    obtain ⟨_, hlen0, _⟩ := World.cells?_some hcl0
    have ha0 : a.add (0 * C + 0) = a := by simp [Addr.add]
    rw [ha0, List.getElem?_eq_getElem (by omega)] at c0
    obtain ⟨hb0, hs0⟩ := cell_lt c0
    obtain ⟨b, o, sp⟩ := a
    simp only at hs0 hb0
    subst hs0
    refine ⟨cs, b, o, _, _, hlen, htr, rfl, hb0, fun j hj => ?_⟩
    have := cellAt i cs hcl j hj
    have haj : (Addr.mk b o none).add (i * C + j) = ⟨b, o + i * C + j, none⟩ := by
      unfold Addr.add; split
      · rename_i h
        rw [Nat.add_assoc, h]
        rfl
      · rw [Nat.add_assoc]
    rw [haj] at this
    exact this
/-- A struct of two fields of one cell each, out of its cells. -/
theorem open_two {w : World} {base fuel : Nat} {sp : Nat → Bool} {held : Bool} {t : TypeId} {f0 f1 : Field} {cs : List Value} {x : DataW H × List MemPlace}
    (hs : P.underlying t = some (.struct #[f0, f1])) (hone : oneCellFields P #[f0, f1] = true) (hl : cs.length = 2) (h : DataW.trod enc P w base sp held fuel t cs = some x) :
    ∃ (v0 v1 : Value) (y0 y1 : DataW H × List MemPlace) (n : Nat), cs = [v0, v1] ∧ DataW.trod enc P w base sp held n f0.type [v0] = some y0 ∧ DataW.trod enc P w base sp held n f1.type [v1] = some y1 := by
  match cs, hl with
  | [v0, v1], _ =>
    obtain ⟨xs, n, _, hx, _, hlen, hg⟩ := DataW.trod_struct hs h
    obtain ⟨o0, k0⟩ := Go.Deep.hone_of hone 0 f0 rfl
    obtain ⟨o1, k1⟩ := Go.Deep.hone_of hone 1 f1 rfl
    match xs, hlen with
    | [y0, y1], _ => exact ⟨v0, v1, y0, y1, n, rfl, by simpa [o0, k0] using hg 0 f0 rfl, by simpa [o1, k1] using hg 1 f1 rfl⟩
theorem trod_u8 {w : World} {base fuel : Nat} {sp : Nat → Bool} {held : Bool} {t : TypeId} {v : Value} {x : DataW H × List MemPlace} (ht : P.underlying t = some (.int .u8)) (h : DataW.trod enc P w base sp held fuel t [v] = some x) : ∃ b : UInt8, v = B b := by
  obtain ⟨n, hn, _, hw⟩ := DataW.trod_int ht h
  obtain ⟨b, hb⟩ := u8_of_wf hw
  have : v = .int .u8 n := by simpa using hn
  exact ⟨b, by rw [this, B, hb]⟩
theorem trod_i64 {w : World} {base fuel : Nat} {sp : Nat → Bool} {held : Bool} {t : TypeId} {v : Value} {x : DataW H × List MemPlace} (ht : P.underlying t = some (.int .i64)) (h : DataW.trod enc P w base sp held fuel t [v] = some x) : ∃ n : Int, v = .int .i64 n ∧ -2 ^ 63 ≤ n ∧ n < 2 ^ 63 := by
  obtain ⟨n, hn, _, hw⟩ := DataW.trod_int ht h
  have hb : -9223372036854775808 ≤ n ∧ n ≤ 9223372036854775807 := by simpa [Lit.wf, IntKind.min, IntKind.max, IntKind.signed, IntKind.bits] using hw
  exact ⟨n, by simpa using hn, by omega, by omega⟩
theorem trod_u64 {w : World} {base fuel : Nat} {sp : Nat → Bool} {held : Bool} {t : TypeId} {v : Value} {x : DataW H × List MemPlace} (ht : P.underlying t = some (.int .u64)) (h : DataW.trod enc P w base sp held fuel t [v] = some x) : ∃ n : Nat, v = .int .u64 n ∧ n < 2 ^ 64 := by
  obtain ⟨n, hn, _, hw⟩ := DataW.trod_int ht h
  have hb : 0 ≤ n ∧ n ≤ 18446744073709551615 := by simpa [Lit.wf, IntKind.min, IntKind.max, IntKind.signed, IntKind.bits] using hw
  obtain ⟨m, rfl⟩ := Int.eq_ofNat_of_zero_le hb.1
  exact ⟨m, by simpa using hn, by omega⟩
end
end Go.Proofs.Ytjimmfbjhkoekaa
/- Arguments that are structs, opened part by part. -/
namespace Go.Proofs.Ytjimmfbjhkoekaa
open Go.ChangeShapes Go.WideShapes Go.ChangeAt Go.RowKit Go.Deep
section
variable {H : Type} {enc : TypeId × Value → H} {P : Program}
def contigB (P : Program) : Nat → List Field → Bool
  | _, [] => true
  | off, f :: fs => decide (f.offset = off) && contigB P (off + P.cellsOf f.type) fs
def widthB (P : Program) : List Field → Nat
  | [] => 0
  | f :: fs => P.cellsOf f.type + widthB P fs
/-- A struct's cells, field by field. -/
def Parts (enc : TypeId × Value → H) (P : Program) (w : World) (base : Nat) (held : Bool) (m : Nat) : List Field → List Value → Prop
  | [], cs => cs = []
  | f :: fs, cs => ∃ p q y, cs = p ++ q ∧ DataW.trod enc P w base (fun _ => true) held m f.type p = some y ∧ Parts enc P w base held m fs q
theorem parts_go {w : World} {base : Nat} {held : Bool} {m : Nat} {cs : List Value} {xs : List (DataW H × List MemPlace)} : ∀ (fs : List Field) (i off : Nat), contigB P off fs = true → off + widthB P fs = cs.length → xs.length = i + fs.length →
    (∀ k f, fs[k]? = some f → DataW.trod enc P w base (fun _ => true) held m f.type ((cs.drop f.offset).take (P.cellsOf f.type)) = xs[i + k]?) → Parts enc P w base held m fs (cs.drop off)
  | [], i, off, _, hw, _, _ => by simp only [widthB] at hw; show _ = _; rw [List.drop_of_length_le (by omega)]
  | f :: fs, i, off, hc, hw, hx, h => by
    simp only [contigB, Bool.and_eq_true, decide_eq_true_eq] at hc
    simp only [widthB] at hw
    simp only [List.length_cons] at hx
    have h0 := h 0 f rfl
    rw [hc.1, Nat.add_zero] at h0
    obtain ⟨y, hy⟩ : ∃ y, xs[i]? = some y := ⟨xs[i]'(by omega), List.getElem?_eq_getElem (by omega)⟩
    rw [hy] at h0
    refine ⟨_, _, _, (List.take_append_drop (P.cellsOf f.type) (cs.drop off)).symm, h0, ?_⟩
    rw [List.drop_drop]
    exact parts_go (xs := xs) fs (i + 1) (off + P.cellsOf f.type) hc.2 (by omega) (by omega) fun k g hk => by
      have := h (k + 1) g (by simpa using hk)
      rw [show i + 1 + k = i + (k + 1) by omega]; exact this
theorem open_parts {w : World} {base b0 : Nat} {r : Reach} {held : Bool} {t : TypeId} {v : Value} {d : DataW H} {ps : List MemPlace} {fs : Array Field}
    (ht : P.underlying t = some (.struct fs)) (hc : (contigB P 0 fs.toList && (widthB P fs.toList == P.cellsOf t)) = true)
    (hval : Value.okWide P w r b0 t v) (hd : DataW.Trod enc P w base (fun _ => true) held t v d ps) : ∃ (m : Nat) (cs : List Value), v = .agg cs.toArray ∧ Parts enc P w base held m fs.toList cs := by
  obtain ⟨fuel, hf⟩ := hd
  unfold Value.okWide at hval
  rw [ht] at hval
  obtain ⟨cs, rfl, _⟩ := hval
  simp only [Value.cells] at hf
  obtain ⟨xs, m, rfl, hx, hlen, hxl, hff⟩ := DataW.trod_struct ht hf
  simp only [Bool.and_eq_true, beq_iff_eq] at hc
  refine ⟨m, cs.toList, by simp, ?_⟩
  have := parts_go (enc := enc) (P := P) (w := w) (base := base) (held := held) (m := m) (cs := cs.toList) (xs := xs) fs.toList 0 0 hc.1 (by rw [Nat.zero_add, hc.2, hlen]) (by rw [hxl]; simp) (fun k f hk => by rw [Nat.zero_add]; exact hff k f (by simpa using hk))
  simpa using this
/-- .. of a struct in a struct. -/
theorem parts_in {w : World} {base fuel : Nat} {held : Bool} {t : TypeId} {cs : List Value} {x : DataW H × List MemPlace} {fs : Array Field}
    (ht : P.underlying t = some (.struct fs)) (hc : (contigB P 0 fs.toList && (widthB P fs.toList == P.cellsOf t)) = true) (hf : DataW.trod enc P w base (fun _ => true) held fuel t cs = some x) : ∃ m : Nat, Parts enc P w base held m fs.toList cs := by
  obtain ⟨xs, m, rfl, hx, hlen, hxl, hff⟩ := DataW.trod_struct ht hf
  simp only [Bool.and_eq_true, beq_iff_eq] at hc
  refine ⟨m, ?_⟩
  have := parts_go (enc := enc) (P := P) (w := w) (base := base) (held := held) (m := m) (cs := cs) (xs := xs) fs.toList 0 0 hc.1 (by rw [Nat.zero_add, hc.2, hlen]) (by rw [hxl]; simp) (fun k f hk => by rw [Nat.zero_add]; exact hff k f (by simpa using hk))
  simpa using this
theorem part_u16 {w : World} {base fuel : Nat} {sp : Nat → Bool} {held : Bool} {t : TypeId} {cs : List Value} {x : DataW H × List MemPlace} (ht : P.underlying t = some (.int .u16)) (h : DataW.trod enc P w base sp held fuel t cs = some x) : ∃ n : Nat, cs = [.int .u16 n] ∧ n < 65536 := by
  obtain ⟨n, hn, _, hw⟩ := DataW.trod_int ht h
  have hb : 0 ≤ n ∧ n ≤ 65535 := by simpa [Lit.wf, IntKind.min, IntKind.max, IntKind.signed, IntKind.bits] using hw
  obtain ⟨m, rfl⟩ := Int.eq_ofNat_of_zero_le hb.1
  exact ⟨m, hn, by omega⟩
theorem part_u32 {w : World} {base fuel : Nat} {sp : Nat → Bool} {held : Bool} {t : TypeId} {cs : List Value} {x : DataW H × List MemPlace} (ht : P.underlying t = some (.int .u32)) (h : DataW.trod enc P w base sp held fuel t cs = some x) : ∃ n : Nat, cs = [.int .u32 n] ∧ n < 4294967296 := by
  obtain ⟨n, hn, _, hw⟩ := DataW.trod_int ht h
  have hb : 0 ≤ n ∧ n ≤ 4294967295 := by simpa [Lit.wf, IntKind.min, IntKind.max, IntKind.signed, IntKind.bits] using hw
  obtain ⟨m, rfl⟩ := Int.eq_ofNat_of_zero_le hb.1
  exact ⟨m, hn, by omega⟩
theorem part_u8 {w : World} {base fuel : Nat} {sp : Nat → Bool} {held : Bool} {t : TypeId} {cs : List Value} {x : DataW H × List MemPlace} (ht : P.underlying t = some (.int .u8)) (h : DataW.trod enc P w base sp held fuel t cs = some x) : ∃ b : UInt8, cs = [B b] := by
  obtain ⟨n, hn, _, hw⟩ := DataW.trod_int ht h
  obtain ⟨b, hb⟩ := u8_of_wf hw
  exact ⟨b, by rw [hn, B, hb]⟩
end
end Go.Proofs.Ytjimmfbjhkoekaa
/- Small numbers, opened. -/
namespace Go.Proofs.Ytjimmfbjhkoekaa
open Go.ChangeShapes Go.WideShapes Go.ChangeAt Go.RowKit Go.Deep
section
variable {P : Program} {H : Type} {enc : TypeId × Value → H}
theorem open_u16 {w : World} {base b0 : Nat} {r : Go.Reach} {sp : Nat → Bool} {held : Bool} {t : TypeId} {v : Value} {d : DataW H} {ps : List MemPlace}
    (ht : P.underlying t = some (.int .u16)) (hval : Value.okWide P w r b0 t v) (hd : DataW.Trod enc P w base sp held t v d ps) : ∃ n : Nat, v = .int .u16 n ∧ n < 65536 := by
  obtain ⟨n, rfl, _, _, hw⟩ := open_int ht hval hd
  have hb : 0 ≤ n ∧ n ≤ 65535 := by simpa [Lit.wf, IntKind.min, IntKind.max, IntKind.signed, IntKind.bits] using hw
  obtain ⟨m, rfl⟩ := Int.eq_ofNat_of_zero_le hb.1
  exact ⟨m, rfl, by omega⟩
theorem open_u32 {w : World} {base b0 : Nat} {r : Go.Reach} {sp : Nat → Bool} {held : Bool} {t : TypeId} {v : Value} {d : DataW H} {ps : List MemPlace}
    (ht : P.underlying t = some (.int .u32)) (hval : Value.okWide P w r b0 t v) (hd : DataW.Trod enc P w base sp held t v d ps) : ∃ n : Nat, v = .int .u32 n ∧ n < 4294967296 := by
  obtain ⟨n, rfl, _, _, hw⟩ := open_int ht hval hd
  have hb : 0 ≤ n ∧ n ≤ 4294967295 := by simpa [Lit.wf, IntKind.min, IntKind.max, IntKind.signed, IntKind.bits] using hw
  obtain ⟨m, rfl⟩ := Int.eq_ofNat_of_zero_le hb.1
  exact ⟨m, rfl, by omega⟩
end
end Go.Proofs.Ytjimmfbjhkoekaa

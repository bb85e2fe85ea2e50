/- From a law's walk (it returns true; nothing that was there has changed) to the row's word. -/
import Derived.Test.YtfldoihindbdmaaL0
import Derived.ProofKit
import Derived.OpenShut
import Derived.Carry
namespace Go.Proofs.Ytfldoihindbdmaa
open Go.ChangeShapes Go.WideShapes Go.ChangeAt Go.RowKit
section
variable {H : Type} {enc : TypeId × Value → H} {P : Program}
theorem trodAll_below (hl : laidOutB P = true) {W W' : World} (hb : Below W.heap.size W W') : ∀ {ts : List TypeId} {vs : List Value} {ds : List (DataW H)} {ps : List MemPlace},
    (∀ t ∈ ts, P.readableRec t = true ∧ t < P.types.size) → (∀ x ∈ ps, x.block < W.heap.size) → DataW.TrodAll enc P W 0 (fun _ => true) true ts vs ds ps →
    DataW.TrodAll enc P W' 0 (fun b => decide (b < W.heap.size)) true ts vs ds ps
  | [], [], [], _, _, _, h => h
  | t :: ts, v :: vs, d :: ds, ps, hr, hlt, h => by
    obtain ⟨p, q, h1, h2, rfl⟩ := h
    refine ⟨p, q, Below.trod hl (hr t (by simp)).1 (hr t (by simp)).2 h1 hb (fun x hx => hlt x (by simp [hx])), ?_, rfl⟩
    exact trodAll_below hl hb (fun t ht => hr t (by simp [ht])) (fun x hx => hlt x (by simp [hx])) h2
  | [], [], _ :: _, _, _, _, h => by cases h
  | [], _ :: _, _, _, _, _, h => by cases h
  | _ :: _, [], _, _, _, _, h => by cases h
  | _ :: _, _ :: _, [], _, _, _, h => by cases h
theorem law_post {f : Func} {s : ChangeSpec} {W W' : World} {args : Array Value} {ds gs : List (DataW H)} {before : List MemPlace} {tb : TypeId}
    (hW : DataW.Whole enc P f.params.toList s.vars false W args.toList ds gs before) (hsv : s.vars = [])
    (hres : (s.fn H ds).results = [.lit (.bool true)]) (hargs : (s.fn H ds).args = ds) (hvars : (s.fn H ds).vars = [])
    (hrt : f.resultTypes = #[tb]) (h4 : P.underlying tb = some .bool) (hl : laidOutB P = true) (hr : ∀ t ∈ f.params.toList, P.readableRec t = true ∧ t < P.types.size)
    (hb : Below W.heap.size W W') : s.post enc P f false true false false W args (.bool true) W' := by
  have hlt : ∀ p ∈ before, p.block < W.heap.size := fun p hp => hW.lt p hp
  have hW' := hW
  obtain ⟨p, q, hA, hV, rfl, hz, hn⟩ := hW
  rw [hsv] at hV
  obtain ⟨rfl, rfl⟩ := trodVars_none hV
  refine ⟨ds, [], p ++ [], [], p, [], hW', ?_, ?_, ?_, ?_, fun h => by cases h⟩
  · rw [List.append_nil, hres, hrt]
    exact trodAll_cons_mk (shut_bool h4 true) trodAll_mk0
  · rw [List.append_nil, hargs]
    exact trodAll_below hl hb hr (fun x hx => hlt x (by simp [hx])) hA
  · rw [List.append_nil, hvars, hsv]
    rfl
  · exact hb.frame _
theorem law_calls {n : FuncId} {f : Func} {s : ChangeSpec} {W : World} {args : Array Value} {ds gs : List (DataW H)} {before : List MemPlace} {tb : TypeId}
    (hW : DataW.Whole enc P f.params.toList s.vars false W args.toList ds gs before) (hsv : s.vars = [])
    (hres : (s.fn H ds).results = [.lit (.bool true)]) (hargs : (s.fn H ds).args = ds) (hvars : (s.fn H ds).vars = [])
    (hrt : f.resultTypes = #[tb]) (h4 : P.underlying tb = some .bool) (hl : laidOutB P = true) (hr : ∀ t ∈ f.params.toList, P.readableRec t = true ∧ t < P.types.size)
    (h : Calls P n args W fun e W' => e = .returned (.bool true) ∧ Below W.heap.size W W') :
    Calls P n args W fun e W' => ∃ v, e = .returned v ∧ s.post enc P f false true false false W args v W' :=
  h.mono fun _ _ ⟨he, hb⟩ => ⟨_, he, law_post hW hsv hres hargs hvars hrt h4 hl hr hb⟩
/-- An array of bytes, opened. -/
theorem open_bytes_in {w : World} {base : Nat} {sp : Nat → Bool} {held : Bool} {n : Nat} {t e : TypeId} (ht : P.underlying t = some (.array n e)) (he : P.underlying e = some (.int .u8)) (hc : P.cellsOf e = 1) (hct : P.cellsOf t = n)
    {cs : List Value} {fuel : Nat} {x : DataW H × List MemPlace} (h : DataW.trod enc P w base sp held fuel t cs = some x) :
    ∃ l : List UInt8, l.length = n ∧ cs = l.map B ∧ x = (.agg (l.map fun b => .lit (.int .u8 b.toNat)), []) := by
  obtain ⟨xs, m, rfl, rfl, hlen, hxl, hf⟩ := DataW.trod_array ht h
  rw [hct] at hlen
  rw [hc] at hf
  have key : ∀ i, i < n → ∃ b : UInt8, cs[i]? = some (B b) ∧ xs[i]? = some (.lit (.int .u8 b.toNat), []) := fun i hi => by
    have h1 := hf i hi
    rw [Nat.mul_one] at h1
    obtain ⟨y, hy⟩ : ∃ y, xs[i]? = some y := ⟨xs[i]'(by omega), List.getElem?_eq_getElem (by omega)⟩
    rw [hy] at h1
    obtain ⟨z, h2, rfl, hw⟩ := DataW.trod_int he h1
    have h3 : cs[i]? = some (.int .u8 z) := by
      have := congrArg (·[0]?) h2
      simpa [List.getElem?_take, List.getElem?_drop] using this
    have hb : 0 ≤ z ∧ z ≤ 255 := by simpa [Lit.wf, IntKind.min, IntKind.max, IntKind.signed, IntKind.bits] using hw
    have e : ((UInt8.ofNat z.toNat).toNat : Int) = z := by
      simp only [UInt8.toNat_ofNat']
      rw [Nat.mod_eq_of_lt (by omega)]
      omega
    exact ⟨UInt8.ofNat z.toNat, by rw [h3, B, e], by rw [hy, e]⟩
  have hch : ∃ g : Nat → UInt8, ∀ i, i < n → cs[i]? = some (B (g i)) ∧ xs[i]? = some (.lit (.int .u8 (g i).toNat), []) :=
    ⟨fun i => if h : i < n then Classical.choose (key i h) else 0, fun i hi => by simp only [dif_pos hi]; exact Classical.choose_spec (key i hi)⟩
  obtain ⟨g, hg⟩ := hch
  refine ⟨(List.range n).map g, by simp, ?_, ?_⟩
  · apply List.ext_getElem?
    intro i
    by_cases hi : i < n
    · rw [(hg i hi).1, List.map_map, List.getElem?_map, List.getElem?_range hi]; rfl
    · rw [List.getElem?_eq_none (by omega), List.getElem?_eq_none (by simp; omega)]
  · have e : xs = (List.range n).map fun i => (.lit (.int .u8 (g i).toNat), []) := by
      apply List.ext_getElem?
      intro i
      by_cases hi : i < n
      · rw [(hg i hi).2, List.getElem?_map, List.getElem?_range hi]; rfl
      · rw [List.getElem?_eq_none (by omega), List.getElem?_eq_none (by simp; omega)]
    rw [e]
    simp [List.flatMap, Function.comp_def]
theorem open_bytes {w : World} {base b0 : Nat} {r : Reach} {sp : Nat → Bool} {held : Bool} {n : Nat} {t e : TypeId} {v : Value} {d : DataW H} {ps : List MemPlace}
    (ht : P.underlying t = some (.array n e)) (he : P.underlying e = some (.int .u8)) (hc : P.cellsOf e = 1) (hct : P.cellsOf t = n)
    (hval : Value.okWide P w r b0 t v) (hd : DataW.Trod enc P w base sp held t v d ps) : ∃ l : List UInt8, l.length = n ∧ v = av l := by
  obtain ⟨fuel, hf⟩ := hd
  obtain ⟨l, h1, h2, _⟩ := open_bytes_in ht he hc hct hf
  refine ⟨l, h1, ?_⟩
  unfold Value.okWide at hval
  rw [ht] at hval
  obtain ⟨cs, rfl, _⟩ := hval
  simp only [Value.cells] at h2
  unfold av
  rw [← h2]
theorem u8_of_wf {z : Int} (hw : (Lit.int .u8 z).wf = true) : ∃ x : UInt8, (x.toNat : Int) = z := by
  have hb : 0 ≤ z ∧ z ≤ 255 := by simpa [Lit.wf, IntKind.min, IntKind.max, IntKind.signed, IntKind.bits] using hw
  refine ⟨UInt8.ofNat z.toNat, ?_⟩
  simp only [UInt8.toNat_ofNat']
  rw [Nat.mod_eq_of_lt (by omega)]
  omega
theorem open_u8 {w : World} {base b0 : Nat} {r : Reach} {sp : Nat → Bool} {held : Bool} {t : TypeId} {v : Value} {d : DataW H} {ps : List MemPlace}
    (ht : P.underlying t = some (.int .u8)) (hval : Value.okWide P w r b0 t v) (hd : DataW.Trod enc P w base sp held t v d ps) : ∃ x : UInt8, v = B x := by
  obtain ⟨n, rfl, _, _, hw⟩ := open_int ht hval hd
  obtain ⟨x, hx⟩ := u8_of_wf hw
  exact ⟨x, by rw [B, hx]⟩
/-- A struct of a byte and an array of bytes, opened. -/
theorem open_cut {w : World} {base b0 : Nat} {r : Reach} {sp : Nat → Bool} {held : Bool} {n : Nat} {t t1 t2 e : TypeId} {f1 f2 : Field} {v : Value} {d : DataW H} {ps : List MemPlace}
    (ht : P.underlying t = some (.struct #[f1, f2])) (hf1 : f1.type = t1 ∧ f1.offset = 0) (hf2 : f2.type = t2 ∧ f2.offset = 1) (h1 : P.underlying t1 = some (.int .u8)) (h2 : P.underlying t2 = some (.array n e)) (he : P.underlying e = some (.int .u8))
    (hce : P.cellsOf e = 1) (hc1 : P.cellsOf t1 = 1) (hc2 : P.cellsOf t2 = n) (hct : P.cellsOf t = n + 1)
    (hval : Value.okWide P w r b0 t v) (hd : DataW.Trod enc P w base sp held t v d ps) : ∃ l : List UInt8, l.length = n + 1 ∧ v = av l := by
  obtain ⟨fuel, hf⟩ := hd
  unfold Value.okWide at hval
  rw [ht] at hval
  obtain ⟨cs, rfl, _⟩ := hval
  simp only [Value.cells] at hf
  obtain ⟨xs, m, rfl, hx, hlen, hxl, hff⟩ := DataW.trod_struct ht hf
  rw [hct] at hlen
  have g1 := hff 0 f1 rfl
  have g2 := hff 1 f2 rfl
  rw [hf1.1, hf1.2, hc1, List.drop_zero] at g1
  rw [hf2.1, hf2.2, hc2] at g2
  have hx2 : xs.length = 2 := hxl
  obtain ⟨y1, hy1⟩ : ∃ y, xs[0]? = some y := ⟨xs[0]'(by omega), List.getElem?_eq_getElem (by omega)⟩
  obtain ⟨y2, hy2⟩ : ∃ y, xs[1]? = some y := ⟨xs[1]'(by omega), List.getElem?_eq_getElem (by omega)⟩
  rw [hy1] at g1; rw [hy2] at g2
  obtain ⟨z, e1, _, hw⟩ := DataW.trod_int h1 g1
  obtain ⟨x, hx⟩ := u8_of_wf hw
  obtain ⟨l, hl, e2, _⟩ := open_bytes_in h2 he hce hc2 g2
  refine ⟨x :: l, by simp [hl], ?_⟩
  have e3 : cs.toList = cs.toList.take 1 ++ cs.toList.drop 1 := (List.take_append_drop 1 _).symm
  have e4 : (cs.toList.drop 1).take n = cs.toList.drop 1 := List.take_of_length_le (by simp at hlen ⊢; omega)
  rw [e4] at e2
  have : cs = (B x :: l.map B).toArray := by
    rw [← Array.toArray_toList (xs := cs), e3, e1, e2, B, hx]; rfl
  rw [this]; rfl
/-- A table of arrays of bytes. -/
def rowD {H : Type} (r : List UInt8) : DataW H := .agg (r.map fun b => .lit (.int .u8 (b.toNat : Int)))
theorem chunks {α : Type} (m : Nat) : ∀ (rows : List (List α)) (cs : List α), (∀ r ∈ rows, r.length = m) → cs.length = rows.length * m → (∀ i r, rows[i]? = some r → (cs.drop (i * m)).take m = r) → cs = rows.flatten
  | [], cs, _, hl, _ => by simpa using hl
  | r :: rows, cs, hr, hl, h => by
    have h0 := h 0 r rfl
    simp only [Nat.zero_mul, List.drop_zero] at h0
    simp only [List.length_cons, Nat.succ_mul] at hl
    have ih := chunks m rows (cs.drop m) (fun x hx => hr x (by simp [hx])) (by simp; omega) (fun i x hx => by
      have := h (i + 1) x (by simpa using hx)
      rw [List.drop_drop, Nat.add_comm m, ← Nat.succ_mul]; exact this)
    rw [List.flatten_cons, ← ih, ← h0, List.take_append_drop]
theorem rowD_inj {H : Type} {r s : List UInt8} (h : (rowD r : DataW H) = rowD s) : r = s := by
  simp only [rowD, DataW.agg.injEq] at h
  apply List.ext_getElem?
  intro i
  have := congrArg (·[i]?) h
  simp only [List.getElem?_map] at this
  cases h1 : r[i]? <;> cases h2 : s[i]? <;> simp [h1, h2] at this ⊢
  rename_i a b
  rw [← UInt8.toNat_inj]; omega
theorem tab2_in {w : World} {base : Nat} {sp : Nat → Bool} {held : Bool} {n m : Nat} {t e u : TypeId} (ht : P.underlying t = some (.array n e)) (he : P.underlying e = some (.array m u)) (hu : P.underlying u = some (.int .u8))
    (hcu : P.cellsOf u = 1) (hce : P.cellsOf e = m) (hct : P.cellsOf t = n * m) {cs : List Value} {fuel : Nat} {rows : List (List UInt8)} {p : List MemPlace}
    (h : DataW.trod enc P w base sp held fuel t cs = some (.agg (rows.map rowD), p)) (hr : ∀ r ∈ rows, r.length = m) : cs = (rows.flatten).map B := by
  obtain ⟨xs, f, rfl, hx, hlen, hxl, hf⟩ := DataW.trod_array ht h
  simp only [Prod.mk.injEq, DataW.agg.injEq] at hx
  have hrl : rows.length = n := by have := congrArg List.length hx.1; simp at this; omega
  have := chunks m (rows.map fun r => r.map B) cs (by simpa using hr) (by rw [hlen, hct, List.length_map, hrl]) (fun i r hir => by
    have hi : i < n := by
      have := (List.getElem?_eq_some_iff.1 hir).1
      simpa [hrl] using this
    have h1 := hf i hi
    rw [hce] at h1
    obtain ⟨y, hy⟩ : ∃ y, xs[i]? = some y := ⟨xs[i]'(by omega), List.getElem?_eq_getElem (by omega)⟩
    rw [hy] at h1
    obtain ⟨l, hl, hc, rfl⟩ := open_bytes_in he hu hcu hce h1
    rw [hc]
    have h2 := congrArg (·[i]?) hx.1
    simp only [List.getElem?_map, hy, Option.map_some] at h2
    simp only [List.getElem?_map, Option.map_eq_some_iff] at hir
    obtain ⟨s, hs, rfl⟩ := hir
    rw [hs] at h2
    simp only [Option.map_some, Option.some.injEq] at h2
    have : s = l := rowD_inj (H := H) h2
    rw [this])
  rw [this, List.map_flatten]
theorem tab2_laid {w : World} {name : String} {rest : List (String × DataW Unit)} {g n m : Nat} {t e u : TypeId} {rows : List (List UInt8)} (hg : P.globalNamed name = some g) (hty : (P.globals[g]?).map (·.type) = some t)
    (ht : P.underlying t = some (.array n e)) (he : P.underlying e = some (.array m u)) (hu : P.underlying u = some (.int .u8))
    (hcu : P.cellsOf u = 1) (hce : P.cellsOf e = m) (hct : P.cellsOf t = n * m) (hr : ∀ r ∈ rows, r.length = m) (h : laidMet P ((name, .agg (rows.map rowD)) :: rest) w) :
    ∃ t fr, bk w g = some (.cells ((rows.flatten).map B).toArray t fr) := by
  obtain ⟨ps, ⟨g', t', cs, fuel, p, q, hg', ht', hvar, hd, _, _⟩, _⟩ := h
  obtain rfl := Option.some.inj (hg.symm.trans hg')
  obtain rfl := Option.some.inj (hty.symm.trans ht')
  have hcs := tab2_in ht he hu hcu hce hct hd hr
  simp only [World.var?, hg, Option.bind_some] at hvar
  cases hb : w.heap[g]? with
  | none => rw [hb] at hvar; cases hvar
  | some o =>
    rw [hb] at hvar
    cases o with
    | cells c t fr =>
      simp only [Option.some.injEq] at hvar
      subst hvar
      refine ⟨t, fr, ?_⟩
      unfold bk
      rw [hb, ← hcs]
    | _ => cases hvar
end
end Go.Proofs.Ytfldoihindbdmaa

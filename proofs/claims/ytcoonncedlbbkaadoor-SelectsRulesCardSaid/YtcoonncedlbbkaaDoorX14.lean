/- Selects, the law's own: candidates as the document has them. -/
import Derived.Test.YtcoonncedlbbkaaDoorX13
import Derived.Test.YtcoonncedlbbkaaDoorL3
import Derived.WalkKit
import Derived.Laws.AppendOwnNone
namespace Go.Proofs.YtcoonncedlbbkaaDoor
open Go.RowKit Ad
set_option maxRecDepth 100000
set_option maxHeartbeats 2000000
@[go_sem ↓] theorem bwCe (dst : Option Tmp) (ps : Array (Nat × Operand)) (t : TypeId) (pos : String) (af : Array Edge) (g : Option (Nat × Bool)) (a : Act) (w : World) (K : Act → World → Prop) (Q : Exit → Act → World → Prop) :
    Oper.wp Tryd.prog ⟨dst, .build 36 ps, t, pos, af, g⟩ a w K Q = bldTo (wpHid Tryd.prog ⟨dst, .build 36 ps, t, pos, af, g⟩ a w K Q) (fun c => K (a.put dst (.agg c)) w) (Tryd.prog.built 36 (ps.toList.map fun x => (x.1, a.eval x.2))) :=
  wp_build_bk 36 dst ps t pos af g a w K Q
@[go_sem ↓] theorem bqCe (dst : Option Tmp) (ps : Array (Nat × Operand)) (t : TypeId) (pos : String) (af : Array Edge) (g : Option (Nat × Bool)) (a : Act) (m : Nat) (W : World) (K : Act → Prop) :
    Oper.quiet Tryd.prog ⟨dst, .build 36 ps, t, pos, af, g⟩ a (fun w' => ∃ x : Later m W, w' = x.w) K = bldTo (quietHid0 Tryd.prog ⟨dst, .build 36 ps, t, pos, af, g⟩ a (fun w' => ∃ x : Later m W, w' = x.w) K) (fun c => K (a.put dst (.agg c))) (Tryd.prog.built 36 (ps.toList.map fun x => (x.1, a.eval x.2))) :=
  quiet_build_bk 36 dst ps t pos af g a _ ⟨W, ⟨W, Below.refl _ _⟩, rfl⟩ K
@[go_sem ↓] theorem bfCe (dst : Option Tmp) (ps : Array (Nat × Operand)) (t : TypeId) (pos : String) (af : Array Edge) (g : Option (Nat × Bool)) (a : Act) (m : Nat) (W : World) (gs : List (Nat × (World → Prop))) [hne : Nonempty (LaterF m W gs)] (K : Act → Prop) :
    Oper.quiet Tryd.prog ⟨dst, .build 36 ps, t, pos, af, g⟩ a (fun w' => ∃ x : LaterF m W gs, w' = x.w) K = bldTo (quietHid0 Tryd.prog ⟨dst, .build 36 ps, t, pos, af, g⟩ a (fun w' => ∃ x : LaterF m W gs, w' = x.w) K) (fun c => K (a.put dst (.agg c))) (Tryd.prog.built 36 (ps.toList.map fun x => (x.1, a.eval x.2))) :=
  quiet_build_bk 36 dst ps t pos af g a _ (hne.elim fun x => ⟨x.w, x, rfl⟩) K
@[go_sem ↓] theorem bsCes (len : Nat) (dst : Option Tmp) (ps : Array (Nat × Operand)) (t : TypeId) (pos : String) (af : Array Edge) (g : Option (Nat × Bool)) (a : Act) (w : World) (K : Act → World → Prop) (Q : Exit → Act → World → Prop) :
    Oper.wp Tryd.prog ⟨dst, .buildSlice 26 len ps, t, pos, af, g⟩ a w K Q = bsTo (wpHid Tryd.prog ⟨dst, .buildSlice 26 len ps, t, pos, af, g⟩ a w K Q) (fun c e => K (a.put dst (.slice (some ⟨w.heap.size, 0, none⟩) len len)) (w.alloc (.cells c e))) (builtSl Tryd.prog 26 len (ps.toList.map fun x => (x.1, a.eval x.2))) :=
  wp_buildSlice_bk 26 len dst ps t pos af g a w K Q
theorem Cd.row_cat (c : Cd) : c.row = ((List.map B c.a).toArray.toList ++ [Value.bool c.d, Value.bool c.t]).toArray := by
  unfold Cd.row
  simp
@[go_sem] theorem builtCe_cd (c : Cd) : Tryd.prog.built 36 [(0, .agg (List.map B c.a).toArray), (1, .bool c.d), (2, .bool c.t)] = some c.row := by
  have e : ∀ parts : List (Nat × Value), Tryd.prog.built 36 parts = Instr.fill (#[(0, 16), (16, 1), (17, 1)][·]?) zeroCd.row parts := fun parts => by rw [zrow]; kernel_rfl
  rw [e, show [(0, Value.agg (List.map B c.a).toArray), (1, Value.bool c.d), (2, Value.bool c.t)] = partsAt 0 [.agg (List.map B c.a).toArray, .bool c.d, .bool c.t] from rfl,
    fill_all _ _ 0 0 _ (by simp [placesOk, Value.cells, c.h]) (by simp [widths, Value.cells, c.h, Cd.row_size]), Cd.row_cat c]
  have h : zeroCd.row.toList.drop 18 = [] := List.drop_of_length_le (by simp [Cd.row_size])
  simp [widths, Value.cells, c.h, h]
@[go_sem] theorem builtCes (c : Array Value) (h : c.size = 18) : builtSl Tryd.prog 26 1 [(0, .agg c)] = some (c, 36) := by
  have e : ∀ parts, builtSl Tryd.prog 26 1 parts = (Instr.fill (fun k => some (k * 18, 18)) zeroCd.row parts).map fun c => (c, 36) := fun parts => by rw [zrow]; kernel_rfl
  rw [e, show [(0, Value.agg c)] = partsAt 0 [.agg c] from rfl, fill_all _ _ 0 0 _ (by simp [placesOk, Value.cells, h]) (by simp [widths, Value.cells, h, Cd.row_size])]
  have h2 : zeroCd.row.toList.drop 18 = [] := List.drop_of_length_le (by simp [Cd.row_size])
  simp [widths, Value.cells, h, h2]
theorem fold_row (c : Array Value) (h : c.size = 18) : Array.foldl (fun cs x => cs.setIfInBounds x.snd x.fst) (#[.int .u8 0, .int .u8 0, .int .u8 0, .int .u8 0, .int .u8 0, .int .u8 0, .int .u8 0, .int .u8 0, .int .u8 0, .int .u8 0, .int .u8 0, .int .u8 0, .int .u8 0, .int .u8 0, .int .u8 0, .int .u8 0, .bool false, .bool false] : Array Value) c.zipIdx 0 18 = c := by
  rw [← zrow]
  have h2 : zeroCd.row.toList.drop 18 = [] := List.drop_of_length_le (by simp [Cd.row_size])
  have e := fill_all (fun k => some (k * 18, 18)) [.agg c] 0 0 zeroCd.row (by simp [placesOk, Value.cells, h]) (by simp [widths, Value.cells, h, Cd.row_size])
  have e2 : zeroCd.row.size = 18 := Cd.row_size _
  simp [widths, Value.cells, h, h2, partsAt, Instr.fill, e2] at e
  simpa using e
theorem infoCe : (Tryd.prog.info? 36).map (fun i => (i.zero, i.size, i.bytes)) = some (some (.agg zeroCd.row), 18, 18) := by rw [zrow]; kernel_rfl
def rowsOf (l : List Cd) : List Value := l.flatMap fun c => c.row.toList
theorem rowsOf_length : ∀ l : List Cd, (rowsOf l).length = l.length * 18
  | [] => rfl
  | c :: l => by
    have := rowsOf_length l
    simp only [rowsOf, List.flatMap_cons, List.length_append, List.length_cons] at this ⊢
    rw [this]
    simp [Cd.row_size]
    omega
theorem rowsOf_append (l r : List Cd) : rowsOf (l ++ r) = rowsOf l ++ rowsOf r := by simp [rowsOf]
theorem rowsOf_at : ∀ (l : List Cd) (j : Nat) (h : j < l.length) (i : Nat), i < 18 → (rowsOf l)[j * 18 + i]? = l[j].row[i]?
  | c :: l, 0, _, i, hi => by
    simp only [rowsOf, List.flatMap_cons, List.getElem_cons_zero]
    rw [List.getElem?_append_left (by simp [Cd.row_size]; omega)]
    simp
  | c :: l, j + 1, h, i, hi => by
    simp only [rowsOf, List.flatMap_cons, List.getElem_cons_succ]
    rw [List.getElem?_append_right (by simp [Cd.row_size]; omega)]
    have := rowsOf_at l j (by simpa using h) i hi
    rw [← this]
    congr 1
    simp [Cd.row_size]
    omega
/-- Rows of one's own read as candidates. -/
theorem Cs.of_own {w : World} {base n : Nat} {v : Value} {l : List Cd} (h : w.ownsRow base 36 18 v n (rowsOf l)) (hn : n = l.length) : ∃ A c, v = .slice A l.length c ∧ Cs w w.heap.size A l ∧ l.length ≤ c := by
  subst hn
  obtain ⟨_, ⟨rfl, h0⟩ | ⟨g, cap, cur, rfl, hg, hbk, hle, _, hcs, htk⟩⟩ := h
  · have : l = [] := List.eq_nil_of_length_eq_zero h0
    subst this
    exact ⟨none, 0, rfl, fun h => absurd rfl h, Nat.le_refl _⟩
  · refine ⟨_, cap, rfl, fun _ => ⟨g, 0, cur, _, _, rfl, bk_lt hbk, hbk, fun j hj => ?_⟩, hle⟩
    have h1 : j * 18 + 18 ≤ cap * 18 := by omega
    refine ⟨by omega, ?_⟩
    refine Array.ext_getElem? fun i => ?_
    unfold xt
    rw [Array.getElem?_extract]
    by_cases hi : i < 18
    · rw [if_pos (by omega), ← rowsOf_at l j hj i hi, ← htk, List.getElem?_take_of_lt (by omega), Array.getElem?_toList, Nat.zero_add]
    · rw [if_neg (by omega), Array.getElem?_eq_none (by rw [Cd.row_size]; omega)]
theorem row_oneCell (c : Cd) : ∀ u ∈ c.row.toList, u.oneCell' = true := fun u hu => by
  rw [Cd.row_cat] at hu
  simp only [List.mem_append, List.mem_cons, List.not_mem_nil, or_false] at hu
  rcases hu with hu | rfl | rfl
  · simp at hu
    obtain ⟨x, _, rfl⟩ := hu
    rfl
  · rfl
  · rfl
theorem other_any (A : Option Addr) (l : List Cd) (c : Nat) (w : World) (hc : Cs w w.heap.size A l) (hl : l.length ≤ 100) :
    Calls Tryd.prog 7 #[.slice A l.length c] w fun e w' => ∃ A' c', e = .returned (.slice A' l.length c') ∧ l.length ≤ c' ∧ Cs w' w'.heap.size A' l ∧ Below w.heap.size w w' := by
  obtain ⟨i0, hi0, hz0, hz1, hz2⟩ := info_parts infoCe
  have HI := Lib.hid (And.intro hi0 (And.intro hz0 (And.intro hz1 hz2)))
  have HC : Hid (∀ w', Below w.heap.size w w' → Cs w' w.heap.size A l) := Lib.hid fun w' h => hc.below h (Nat.le_refl _)
  obtain ⟨n, hn⟩ : ∃ n, n = l.length := ⟨_, rfl⟩
  rw [← hn] at hl ⊢
  have HN := Lib.hid hn
  clear hn hc hi0 hz0 hz1 hz2
  go_enter Tryd.func7, Tryd.ntmps7
  go_wp2_with fail
  go_loopw [3, 4] (fun v i wr => ∃ k : Nat, k ≤ n ∧ i = .int .i64 k ∧ Hid (wr.ownsRow w.heap.size 36 18 v k (rowsOf (l.take k))) ∧ Hid (Below w.heap.size w wr)) (fun _ i _ => n - (intOf i).toNat)
  case atStart => exact ⟨0, by omega, rfl, Lib.hid (World.ownsRow_nil _ _ _ _), Lib.hid (Below.refl _ _)⟩
  case round =>
    obtain ⟨k, hk, rfl, HO, BR⟩ := hrel
    by_cases hkn : k < n
    · have d1 : decide ((k : Int) < (n : Int)) = true := by simp; omega
      have hkl : k < l.length := by rw [← HN.out]; exact hkn
      obtain ⟨g, o, cc, t, fr, rfl, hg, kc, hcs⟩ := HC.out wr BR.out (by intro e; rw [e] at hkl; simp at hkl)
      obtain ⟨h1, h2⟩ := hcs k hkl
      obtain ⟨x1, x2, x3⟩ := xt_sub h2 h1
      obtain ⟨cd, hcd⟩ : ∃ x, x = l[k] := ⟨_, rfl⟩
      have HF : Hid (rowsOf (l.take (k + 1)) = rowsOf (l.take k) ++ cd.row.toList) := Lib.hid (by
        rw [List.take_succ_eq_append_getElem hkl, rowsOf_append, hcd]; simp [rowsOf])
      rw [← hcd] at x1 x2 x3
      obtain ⟨Y, hY⟩ : ∃ Y, Y = rowsOf (l.take k) := ⟨_, rfl⟩
      rw [← hY] at HF HO
      have h1' : o + k * 18 + 16 ≤ cc.size := by omega
      have s16 : o + k * 18 + 16 < cc.size := by omega
      have s17 : o + k * 18 + 17 < cc.size := by omega
      have c16 := (bk_cell kc (o + k * 18 + 16)).trans x2
      have c17 := (bk_cell kc (o + k * 18 + 17)).trans x3
      have lc := bk_lt kc
      have HS : Hid (w.heap.size ≤ wr.heap.size) := Lib.hid BR.out.size
      clear hcs hY hcd h2
      go_upto_region 5 with fail
      obtain ⟨m, hm⟩ : ∃ m, m = wr.heap.size := ⟨_, rfl⟩
      rw [← hm] at lc
      obtain ⟨M, hM⟩ : ∃ M : Made m, M = Made.row m (fun b => .slice (some ⟨b, 0, none⟩) 1 1) (.cells cd.row 36 (0, 0)) := ⟨_, rfl⟩
      have HM := Lib.hid hM
      clear hM
      refine wp_region_made_tail m 18 (fun k => ([(17, M)] : List (Nat × Made m)).lookup k) (by omega) (by kernel_rfl) (by kernel_rfl) ?_
      simp only [List.take_succ_cons, List.take_zero, List.drop_succ_cons, List.drop_zero]
      refine walk_segn 17 ([]) facts0 (by kernel_rfl) (by kernel_rfl) ?_
      simp only [List.take_succ_cons, List.take_zero, List.drop_succ_cons, List.drop_zero, Nat.reduceAdd]
      repeat (go_big_quiet_step (fail))
      (first | refine wpQuiet_nil ?_ | (go_big_quiet_want; (try go_big_quiet_op); trace_state; fail))
      refine walk_mkop M ([]) facts0 (by kernel_rfl) (by kernel_rfl) (by kernel_rfl) (fun w' hb' hg' => ?_) (fun v _ hAt => ?_)
      · unfold madeAt
        go_simp
        ((rw [fold_row _ (Cd.row_size cd)]; exact row_box HM (by have := hb'.size; omega)))
      obtain ⟨x1, hmx1, rfl, hnx1, hix1, rb⟩ := made_at HM (by intro b b' h; simpa using h) 17 hAt
      clear hAt
      simp only [Act.put, List.setIfInBounds_toArray, List.set_cons_succ, List.set_cons_zero, Nat.reduceAdd]
      refine walk_nil ?_
      intro w2 hb2 hf
      have kx := rb w2 ((hf 17).1 rfl)
      have HO2 := Lib.hid (HO.out.kept (w' := w2) (row := none) ⟨hb2.os, hb2.tape, hb2.output, by have := hb2.size; omega, fun i hi _ => hb2.block i (by omega)⟩ (by cases hv : Value.ownBlock u3 <;> simp))
      have B2 := Lib.hid (BR.out.trans (hb2.mono (by have := BR.out.size; omega)))
      have HX := Lib.hid kx
      clear hb2 hf rb kx kc h1 x2 x3 c16 c17 lc h1' s16 s17
      have HRC := Lib.hid (row_oneCell cd)
      have hns := Lib.hid (fun (wx : World) (x : Nat) (fr : Nat × Nat) (h : bk wx x = some (.cells cd.row 36 fr)) (j : Nat) (u : Value) (hu : cd.row.toList[j]? = some u) => show wx.cell? ((⟨x, 0, none⟩ : Addr).add j) = some u by
        rw [show (⟨x, 0, none⟩ : Addr).add j = ⟨x, j, none⟩ by unfold Addr.add; split <;> simp_all, bk_cell h j]
        simpa using hu)
      go_wp2_with (at_builtin; refine wpList_append_own _ rfl _ _ 26 rfl w.heap.size 36 i0 (.agg zeroCd.row) 18 18 Tryd.underlying26 HI.out.1 HI.out.2.1 HI.out.2.2.1 HI.out.2.2.2 (by simp [Value.cells, Cd.row_size]) (by decide) u3 k Y rfl HO2.out ⟨x1, 0, none⟩ 1 1 cd.row.toList rfl (by simp [Cd.row_size]) (hns.out _ _ (0, 0) HX.out) HRC.out (by unfold maxLen; omega) (by omega) B2.out.size ?_)
      intro v' w3 hown hgrow _
      have B3' := Lib.hid (B2.out.grown hgrow B2.out.size (fun g hg => (HO2.out.lt g hg).1))
      have HO3 := Lib.hid hown
      rw [← HF.out] at HO3
      clear hown hgrow HO2 B2 HO
      go_wp2_with fail
      refine ⟨⟨k + 1, by omega, by go_num, HO3, B3'⟩, by simp [intOf]; omega⟩
    · obtain rfl : k = n := by omega
      have d1 : decide ((k : Int) < (k : Int)) = false := by simp
      go_wp2_with fail
      go_ret
      have e : l.take k = l := by rw [HN.out, List.take_length]
      rw [e] at HO
      obtain ⟨A', c', rfl, h1, h2⟩ := Cs.of_own HO.out HN.out
      exact ⟨A', c', by rw [HN.out]; rfl, by rw [HN.out]; exact h2, h1, BR.out⟩
end Go.Proofs.YtcoonncedlbbkaaDoor

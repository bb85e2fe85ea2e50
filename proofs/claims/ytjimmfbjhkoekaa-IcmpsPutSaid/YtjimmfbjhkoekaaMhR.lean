import Derived.Test.YtjimmfbjhkoekaaMhQ
import Derived.Test.YtjimmfbjhkoekaaMgK
import Derived.Test.YtjimmfbjhkoekaaMgS
import Derived.Test.YtjimmfbjhkoekaaMgO
/- Icmps: a twin of reports. -/
namespace Go.Proofs.Ytjimmfbjhkoekaa
open Go.RowKit
set_option maxRecDepth 100000
set_option maxHeartbeats 2000000
@[go_sem ↓] theorem ldRcT (dst : Option Tmp) (x : Operand) (t : TypeId) (pos : String) (af : Array Edge) (g : Option (Nat × Bool)) (a : Act) (w : World) (K : Act → World → Prop) (Q : Exit → Act → World → Prop) :
    Oper.wp Try.prog ⟨dst, .load 57 x, t, pos, af, g⟩ a w K Q = ldPtr (wpHid Try.prog ⟨dst, .load 57 x, t, pos, af, g⟩ a w K Q) 18 w (fun c => K (a.put dst (.agg c)) w) (a.eval x) :=
  wp_load_bk 57 18 _ Try.underlying57 rfl (by kernel_rfl) dst x t pos af g a w K Q
@[go_sem ↓] theorem stRcT (dst : Option Tmp) (x y : Operand) (t : TypeId) (pos : String) (af : Array Edge) (g : Option (Nat × Bool)) (a : Act) (w : World) (K : Act → World → Prop) (Q : Exit → Act → World → Prop) :
    Oper.wp Try.prog ⟨dst, .store 57 x y, t, pos, af, g⟩ a w K Q = stAt (wpHid Try.prog ⟨dst, .store 57 x y, t, pos, af, g⟩ a w K Q) 18 w (fun w' => K (a.put dst undef) w') (a.eval x) (a.eval y) :=
  wp_store_any 57 18 (by kernel_rfl) dst x y t pos af g a w K Q
@[go_sem ↓] theorem qlRcT (dst : Option Tmp) (x : Operand) (t : TypeId) (pos : String) (af : Array Edge) (g : Option (Nat × Bool)) (a : Act) (m : Nat) (W : World) (K : Act → Prop) :
    Oper.quiet Try.prog ⟨dst, .load 57 x, t, pos, af, g⟩ a (fun w' => ∃ x : Later m W, w' = x.w) K =
      ldLater (quietHid Try.prog ⟨dst, .load 57 x, t, pos, af, g⟩ a (fun w' => ∃ x : Later m W, w' = x.w) K) m 18 W (fun c => K (a.put dst (.agg c))) (a.eval x) :=
  quiet_load_bk 57 18 _ Try.underlying57 rfl (by kernel_rfl) dst x t pos af g a m W K
@[go_sem ↓] theorem qfAdF (dst : Option Tmp) (x : Operand) (t : TypeId) (pos : String) (af : Array Edge) (g : Option (Nat × Bool)) (a : Act) (m : Nat) (W : World) (gs : List (Nat × (World → Prop))) [Nonempty (LaterF m W gs)] (K : Act → Prop) :
    Oper.quiet Try.prog ⟨dst, .load 23 x, t, pos, af, g⟩ a (fun w' => ∃ x : LaterF m W gs, w' = x.w) K =
      ldF (quietHid Try.prog ⟨dst, .load 23 x, t, pos, af, g⟩ a (fun w' => ∃ x : LaterF m W gs, w' = x.w) K) gs m 16 W (fun c => K (a.put dst (.agg c))) (a.eval x) :=
  quiet_load_F 23 16 _ Try.underlying23 rfl (by kernel_rfl) dst x t pos af g a m W gs K
@[go_sem ↓] theorem bwRcT (dst : Option Tmp) (ps : Array (Nat × Operand)) (t : TypeId) (pos : String) (af : Array Edge) (g : Option (Nat × Bool)) (a : Act) (w : World) (K : Act → World → Prop) (Q : Exit → Act → World → Prop) :
    Oper.wp Try.prog ⟨dst, .build 57 ps, t, pos, af, g⟩ a w K Q = bldTo (wpHid Try.prog ⟨dst, .build 57 ps, t, pos, af, g⟩ a w K Q) (fun c => K (a.put dst (.agg c)) w) (Try.prog.built 57 (ps.toList.map fun x => (x.1, a.eval x.2))) :=
  wp_build_bk 57 dst ps t pos af g a w K Q
@[go_sem ↓] theorem bqRcT (dst : Option Tmp) (ps : Array (Nat × Operand)) (t : TypeId) (pos : String) (af : Array Edge) (g : Option (Nat × Bool)) (a : Act) (m : Nat) (W : World) (K : Act → Prop) :
    Oper.quiet Try.prog ⟨dst, .build 57 ps, t, pos, af, g⟩ a (fun w' => ∃ x : Later m W, w' = x.w) K = bldTo (quietHid0 Try.prog ⟨dst, .build 57 ps, t, pos, af, g⟩ a (fun w' => ∃ x : Later m W, w' = x.w) K) (fun c => K (a.put dst (.agg c))) (Try.prog.built 57 (ps.toList.map fun x => (x.1, a.eval x.2))) :=
  quiet_build_bk 57 dst ps t pos af g a _ ⟨W, ⟨W, Below.refl _ _⟩, rfl⟩ K
@[go_sem ↓] theorem bfRcF (dst : Option Tmp) (ps : Array (Nat × Operand)) (t : TypeId) (pos : String) (af : Array Edge) (g : Option (Nat × Bool)) (a : Act) (m : Nat) (W : World) (gs : List (Nat × (World → Prop))) [hne : Nonempty (LaterF m W gs)] (K : Act → Prop) :
    Oper.quiet Try.prog ⟨dst, .build 57 ps, t, pos, af, g⟩ a (fun w' => ∃ x : LaterF m W gs, w' = x.w) K = bldTo (quietHid0 Try.prog ⟨dst, .build 57 ps, t, pos, af, g⟩ a (fun w' => ∃ x : LaterF m W gs, w' = x.w) K) (fun c => K (a.put dst (.agg c))) (Try.prog.built 57 (ps.toList.map fun x => (x.1, a.eval x.2))) :=
  quiet_build_bk 57 dst ps t pos af g a _ (hne.elim fun x => ⟨x.w, x, rfl⟩) K
/-- A block of addresses, all told: its cells. -/
theorem Bld.flat {w : World} {g : Nat} {t : TypeId} {zs : List (List UInt8)} (h : Bld 16 adr w g t zs.length zs) (h16 : ∀ z ∈ zs, z.length = 16) : bk w g = some (.cells (List.map B zs.flatten).toArray t (0, 0)) := by
  obtain ⟨_, cur, h2, h3, h4⟩ := h
  have e : cur = (List.map B zs.flatten).toArray := by
    apply Array.ext_getElem?
    intro i
    have hf := flat16 h16
    by_cases hi : i < zs.length * 16
    · have hk : i / 16 < zs.length := by omega
      have hx := h4 (i / 16) hk
      have h5 : (xt cur (i / 16 * 16) 16)[i % 16]? = cur[i]? := by
        unfold xt
        rw [Array.getElem?_extract, if_pos (by omega)]
        congr 1; omega
      rw [← h5, hx]
      simp only [List.getElem?_toArray]
      rw [← adr_flat, flat_at (fun z => (adr z).toList) 16 (by decide) zs i (fun z hz => by simpa using h16 z hz) hk]
    · rw [Array.getElem?_eq_none (by omega), List.getElem?_toArray, List.getElem?_eq_none (by rw [List.length_map, hf]; omega)]
  rw [← e]
  exact h2
theorem Bld.of_flat {w : World} {g : Nat} {t : TypeId} {zs : List (List UInt8)} (h16 : ∀ z ∈ zs, z.length = 16) (h : bk w g = some (.cells (List.map B zs.flatten).toArray t (0, 0))) : Bld 16 adr w g t zs.length zs := by
  have hf : (List.map B zs.flatten).toArray.size = zs.length * 16 := by rw [List.size_toArray, List.length_map, flat16 h16]
  refine ⟨Nat.le_refl _, _, h, hf, fun j hj => ?_⟩
  apply Array.ext_getElem?
  intro i
  have hz := h16 _ (List.getElem_mem hj)
  unfold xt
  rw [Array.getElem?_extract]
  by_cases hi : i < 16
  · rw [if_pos (by omega)]
    simp only [List.getElem?_toArray]
    rw [← adr_flat, flat_at (fun z => (adr z).toList) 16 (by decide) zs (j * 16 + i) (fun z hz => by simpa using h16 z hz) (by omega)]
    have e1 : (j * 16 + i) / 16 = j := by omega
    have e2 : (j * 16 + i) % 16 = i := by omega
    simp only [e1, e2]
  · rw [if_neg (by omega), List.getElem?_toArray, List.getElem?_eq_none (by rw [List.length_map, hz]; omega)]
theorem tw4_16 {ss : List (List UInt8)} (h : ∀ z ∈ ss, z.length = 16) : ∀ z ∈ tw4 ss oddL, z.length = 16 := fun z hz => by
  unfold tw4 at hz
  rcases List.mem_append.1 hz with hz | hz
  · exact h z hz
  · simp at hz; subst hz; rfl
/-- The strange report. -/
def rX : Rv := ⟨201, List.replicate 16 0, none, [], 0, rfl⟩
/-- Twins of reports: each one's addresses in a block of their own, each behind the one ahead. -/
structure TwR (w : World) (n : Nat) (rl tl : List Rv) : Prop where
  pl : tl.map Rv.pl = rl.map Rv.pl
  at' : ∀ i (h : i < tl.length), ∃ b, tl[i].A = some ⟨b, 0, none⟩ ∧ tl[i].c = tl[i].s.length + 4 ∧ n ≤ b ∧ bk w b = some (.cells (List.map B (tw4 tl[i].s oddL).flatten).toArray 23 (0, 0))
  ap : ∀ i j (hi : i < tl.length) (hj : j < tl.length), i < j → ∀ b b', tl[i].A = some ⟨b, 0, none⟩ → tl[j].A = some ⟨b', 0, none⟩ → b < b'
theorem TwR.nil (w : World) (n : Nat) : TwR w n [] [] := ⟨rfl, fun i h => by simp at h, fun i j h => by simp at h⟩
theorem TwR.turn {w w' : World} {n : Nat} {rl tl : List Rv} (h : TwR w n rl tl) (hb : ∀ k, n ≤ k → k < w.heap.size → bk w' k = bk w k) : TwR w' n rl tl :=
  ⟨h.pl, fun i hi => by obtain ⟨b, q1, q2, q3, q4⟩ := h.at' i hi; exact ⟨b, q1, q2, q3, (hb b q3 (bk_lt q4)).trans q4⟩, h.ap⟩
theorem TwR.below {w w' : World} {n : Nat} {rl tl : List Rv} (h : TwR w n rl tl) (hb : Below w.heap.size w w') : TwR w' n rl tl := h.turn fun k _ hk => hb.block k hk
theorem TwR.row {w : World} {n g : Nat} {rl tl : List Rv} {c : Array Value} (h : TwR w n rl tl) (hg : g < n) : TwR (w.setRow g c) n rl tl := h.turn fun k hk _ => bk_setRow_other _ _ _ _ (by omega)
theorem TwR.len {w : World} {n : Nat} {rl tl : List Rv} (h : TwR w n rl tl) : tl.length = rl.length := by have := congrArg List.length h.pl; simpa using this
theorem TwR.snoc {w w' : World} {n b : Nat} {rl tl : List Rv} {x y : Rv} (h : TwR w n rl tl) (hb : Below w.heap.size w w') (hy : y.pl = x.pl) (ha : y.A = some ⟨b, 0, none⟩) (hc : y.c = y.s.length + 4) (hn : n ≤ b) (hw : w.heap.size ≤ b) (hk : bk w' b = some (.cells (List.map B (tw4 y.s oddL).flatten).toArray 23 (0, 0))) : TwR w' n (rl ++ [x]) (tl ++ [y]) := by
  have h' := h.below hb
  refine ⟨by simp [h.pl, hy], fun i hi => ?_, fun i j hi hj hij b1 b2 e1 e2 => ?_⟩
  · by_cases e : i < tl.length
    · rw [List.getElem_append_left e]
      exact h'.at' i e
    · have ei : i = tl.length := by rw [List.length_append, List.length_singleton] at hi; omega
      subst ei
      simp only [List.getElem_append_right (Nat.le_refl _), Nat.sub_self, List.getElem_singleton]
      exact ⟨b, ha, hc, hn, hk⟩
  · have hi' : i < tl.length := by rw [List.length_append, List.length_singleton] at hj; omega
    rw [List.getElem_append_left hi'] at e1
    by_cases e : j < tl.length
    · rw [List.getElem_append_left e] at e2
      exact h.ap i j hi' e hij b1 b2 e1 e2
    · have ej : j = tl.length := by rw [List.length_append, List.length_singleton] at hj; omega
      subst ej
      simp only [List.getElem_append_right (Nat.le_refl _), Nat.sub_self, List.getElem_singleton] at e2
      rw [ha] at e2
      cases e2
      obtain ⟨b', q1, _, _, q4⟩ := h.at' i hi'
      rw [q1] at e1
      cases e1
      have := bk_lt q4
      omega
theorem row_parts' {cur : Array Value} {o : Nat} {x : Rv} (h : xt cur o 18 = x.row) (hs : o + 18 ≤ cur.size) : cur[o]? = some (B x.kind) ∧ xt cur (o + 1) 16 = (x.g.map B).toArray ∧ cur[o + 17]? = some (.slice x.A x.s.length x.c) := by
  have hg := x.hg
  have key : ∀ i, i < 18 → cur[o + i]? = x.row[i]? := fun i hi => by
    rw [← h]
    unfold xt
    rw [Array.getElem?_extract, if_pos (by omega)]
  refine ⟨?_, ?_, ?_⟩
  · have := key 0 (by omega)
    rw [Nat.add_zero] at this
    rw [this]; rfl
  · apply Array.ext_getElem?
    intro i
    unfold xt
    rw [Array.getElem?_extract]
    by_cases hi : i < 16
    · rw [if_pos (by omega), Nat.add_assoc, key (1 + i) (by omega)]
      simp only [Rv.row, List.getElem?_toArray]
      rw [Nat.add_comm 1 i, List.getElem?_cons_succ, List.getElem?_append_left (by rw [List.length_map, hg]; exact hi)]
    · rw [if_neg (by omega), List.getElem?_toArray, List.getElem?_eq_none (by rw [List.length_map, hg]; omega)]
  · rw [key 17 (by omega)]
    simp only [Rv.row, List.getElem?_toArray]
    rw [List.getElem?_cons_succ, List.getElem?_append_right (by simp [hg])]
    simp [hg]
theorem builtRc0 (parts : List (Nat × Value)) : Try.prog.built 57 parts = Instr.fill (#[(0, 1), (1, 16), (17, 1)][·]?) (#[.int .u8 0] ++ Array.replicate 16 (.int .u8 0) ++ #[.slice none 0 0]) parts := by kernel_rfl
@[go_sem] theorem builtRX : Try.prog.built 57 [(0, .int .u8 201)] = some rX.row := by kernel_rfl
@[go_sem] theorem builtRc (k : Int) (c : Array Value) (A : Option Addr) (n q : Nat) (h : c.size = 16) : Try.prog.built 57 [(0, .int .u8 k), (1, .agg c), (2, .slice A n q)] = some (.int .u8 k :: (c.toList ++ [.slice A n q])).toArray := by
  rw [builtRc0, show [(0, Value.int .u8 k), (1, Value.agg c), (2, Value.slice A n q)] = partsAt 0 [.int .u8 k, .agg c, .slice A n q] from rfl, fill_all _ _ 0 0 _ (by simp [placesOk, Value.cells, h]) (by simp [widths, Value.cells, h])]
  simp [widths, Value.cells, h]
theorem twinRecords_any (A : Option Addr) (rl : List Rv) (c : Nat) (w : World) (h : Rws 18 Rv.row w w.heap.size A rl) (hk : ∀ r ∈ rl, Rws 16 adr w w.heap.size r.A r.s ∧ (∀ z ∈ r.s, z.length = 16) ∧ r.s.length < 2 ^ 19) (hl : rl.length < 2 ^ 19) :
    Calls Try.prog 29 #[.slice A rl.length c] w fun e w' => e = .returned (.slice (some ⟨w.heap.size, 0, none⟩) rl.length (rl.length + 4)) ∧
      (∃ tl, Bld 18 Rv.row w' w.heap.size 57 (rl.length + 4) (tw4 tl rX) ∧ TwR w' (w.heap.size + 1) rl tl) ∧ Below w.heap.size w w' := by
  have H := Lib.hid h; have HK := Lib.hid hk
  clear h hk
  obtain ⟨N, hN⟩ : ∃ N, N = rl.length := ⟨_, rfl⟩
  rw [← hN] at hl ⊢
  have HN := Lib.hid hN
  clear hN
  have ht : ((N : Int) + 4).toNat = N + 4 := by omega
  go_enter Try.func29, Try.ntmps29
  go_wp2
  go_loopw [4] (fun i w' => ∃ k : Nat, k ≤ N + 4 ∧ i = .int .i64 k ∧ Below w.heap.size w w' ∧ w.heap.size + 1 ≤ w'.heap.size ∧ Hid (∃ tl, tl.length = min k N ∧ Bld 18 Rv.row w' w.heap.size 57 (N + 4) (tl ++ List.replicate (k - N) rX) ∧ TwR w' (w.heap.size + 1) (rl.take (min k N)) tl)) (fun i _ => N + 4 - (intOf i).toNat)
  case atStart =>
    refine ⟨0, by omega, rfl, (by (repeat (first | exact Below.refl _ _ | assumption | refine Below.drew ?_ | refine bdrewN ?_ _ | refine Below.alloc ?_ (by first | omega | (simp <;> omega) | (simp only [World.size_alloc] <;> omega)) _ | refine below_setRow ?_ (by first | omega | (simp <;> omega)) _ | refine Below.setCell ?_ (by first | omega | (simp <;> omega)) _))), by simp, Lib.hid ⟨[], by simp, ⟨by simp, _, bk_alloc_at _ _ _ (by simp), zRecs_size _, fun j hj => by simp at hj⟩, by simpa using TwR.nil _ _⟩⟩
  case round =>
    obtain ⟨k, hk, rfl, hbel, hsz, hst⟩ := hrel
    obtain ⟨tl, htl, hb, hT⟩ := hst.out
    clear hst
    by_cases hlt : k < N + 4
    · have d1 : decide ((k : Int) < (N : Int) + 4) = true := by simp; omega
      have d1' : decide (k < N + 4) = true := by simp; omega
      have lg := hb.lt
      have hlen : (tl ++ List.replicate (k - N) rX).length = k := by rw [List.length_append, List.length_replicate, htl]; omega
      obtain ⟨cur, hc, hcs, hcx⟩ := hb.2
      have st := fun X K => stAny_spl X 18 wr w.heap.size (k * 18) K rX.row cur 57 (by omega) rfl rfl
      have HP := hb.put hc (by rw [hlen]; omega) (z := rX) rfl
      rw [hlen] at HP
      go_upto_region 6 with fail
      refine (stRc _ _ _ _ _ _ _ _ _ _ _).mp ?_
      rw [stRcT]
      show stAny _ 18 wr w.heap.size (k * 18) rX.row _ (bk wr w.heap.size)
      rw [hc, st]
      have e1 : Below w.heap.size w (wr.setRow w.heap.size (spl cur.toList (k * 18) rX.row.toList)) := below_setRow hbel (Nat.le_refl _) _
      have e2 := hT.row (g := w.heap.size) (c := spl cur.toList (k * 18) rX.row.toList) (by omega)
      have e3 : w.heap.size + 1 ≤ (wr.setRow w.heap.size (spl cur.toList (k * 18) rX.row.toList)).heap.size := by simpa [World.setRow] using hsz
      generalize wr.setRow w.heap.size _ = wq at *
      go_upto_region 6 with fail
      have E := Lib.hid (And.intro e1 (And.intro e2 (And.intro e3 HP)))
      clear st hcx hc hb hcs lg e2 HP hT
      by_cases h2 : k < N
      · have d2 : decide ((k : Int) < (N : Int)) = true := by simp; omega
        have d2' : decide (k < N) = true := by simp; omega
        have hks : k < rl.length := by rw [← HN.out]; exact h2
        have hxd := HK.out _ (List.getElem_mem hks)
        obtain ⟨g1, o1, cur1, t1, f1, e1', hg1, hb1, hs1, hx1, hx2⟩ := Rws.at (H.out.below e1 (Nat.le_refl _)) hks Rv.row_size
        subst e1'
        obtain ⟨q1, q2, q3⟩ := row_parts' hx1 hs1
        obtain ⟨⟨kx, gx, Ax, sx, cx, hgx⟩, hx⟩ : ∃ x, x = rl[k] := ⟨_, rfl⟩
        rw [← hx] at hxd q1 q2 q3
        have HX := Lib.hid hx
        simp only at hxd q1 q2 q3
        have p1 : wq.cell? ⟨g1, o1 + k * 18, none⟩ = some (.int .u8 (kx.toNat : Int)) := (bk_cell hb1 _).trans q1
        have p3 : wq.cell? ⟨g1, o1 + k * 18 + 17, none⟩ = some (.slice Ax sx.length cx) := (bk_cell hb1 _).trans q3
        have s1 : o1 + k * 18 + 1 + 16 ≤ cur1.size := by omega
        have sg : (List.map B gx).toArray.size = 16 := by simp [hgx]
        have HKX := Lib.hid hxd
        have l1 := bk_lt hb1
        clear hx2 hx1 hx hs1 q1 q3 hxd
        obtain ⟨m, hm⟩ : ∃ m, m = wq.heap.size := ⟨_, rfl⟩
        have hm1 : w.heap.size + 1 ≤ m := by omega
        have hgm : g1 < m := by omega
        obtain ⟨M, hM⟩ : ∃ M : Made m, M = Made.row m (fun b => .slice (some ⟨b, 0, none⟩) sx.length (sx.length + 4)) (.cells (List.map B (tw4 sx oddL).flatten).toArray 23 (0, 0)) := ⟨_, rfl⟩
        have HM := Lib.hid hM
        clear hM
        go_upto_region 7 with fail
        refine wp_region_made_tail m 20 (fun k => ([(17, M)] : List (Nat × Made m)).lookup k) (by omega) (by kernel_rfl) (by kernel_rfl) ?_
        simp only [List.take_succ_cons, List.take_zero, List.drop_succ_cons, List.drop_zero]
        refine walk_segn 17 ([]) facts0 (by kernel_rfl) (by kernel_rfl) ?_
        simp only [List.take_succ_cons, List.take_zero, List.drop_succ_cons, List.drop_zero, Nat.reduceAdd]
        repeat (go_big_quiet_step (fail))
        (first | refine wpQuiet_nil ?_ | (go_big_quiet_want; (try go_big_quiet_op); trace_state; fail))
        refine walk_mkop M ([]) facts0 (by kernel_rfl) (by kernel_rfl) (by kernel_rfl) (fun w' hb' hg' => ?_) (fun v _ hAt => ?_)
        · unfold madeAt
          go_simp
          ((exact (twinAddrs_any Ax sx cx w' ((HKX.out.1.below (E.out.1.trans (hb'.mono (by omega))) (Nat.le_refl _)).mono (Nat.le_trans E.out.1.size (by have := hb'.size; omega))) HKX.out.2.1 HKX.out.2.2).mono fun e w2 ⟨gz, hgz, he, hk2, hb2⟩ => he ▸ row_end HM hb2 (by have := hb'.size; omega) (Bld.flat (by rw [tw4_length]; exact hk2) (tw4_16 HKX.out.2.1))))
        obtain ⟨xb, hmxb, rfl, hnxb, hixb, rb⟩ := made_at HM (by intro b b' h; simpa using h) 17 hAt
        clear hAt
        simp only [Act.put, List.setIfInBounds_toArray, List.set_cons_succ, List.set_cons_zero, Nat.reduceAdd]
        refine walk_segn 2 ([]) facts0 (by kernel_rfl) (by kernel_rfl) ?_
        simp only [List.take_succ_cons, List.take_zero, List.drop_succ_cons, List.drop_zero, Nat.reduceAdd]
        repeat (go_big_quiet_step (fail))
        (first | refine wpQuiet_nil ?_ | (go_big_quiet_want; (try go_big_quiet_op); trace_state; fail))
        refine walk_nil ?_
        intro w3 hb3 hf
        have kb := rb w3 ((hf 17).1 rfl)
        rw [hm] at hb3
        have hwx : wq.heap.size ≤ xb := by omega
        have hT1 := E.out.2.1
        have htk : (rl.take (min k N)) ++ [(⟨kx, gx, Ax, sx, cx, hgx⟩ : Rv)] = rl.take (min (k + 1) N) := by
          rw [show min k N = k by omega, show min (k + 1) N = k + 1 by omega, HX.out, List.take_succ_eq_append_getElem hks]
        have hT2 := (hT1.snoc (x := ⟨kx, gx, Ax, sx, cx, hgx⟩) (y := ⟨kx, gx, some ⟨xb, 0, none⟩, sx, sx.length + 4, hgx⟩) hb3 rfl rfl rfl (by omega) hwx kb)
        rw [htk] at hT2
        have hB2 := (E.out.2.2.2).pre.below hb3
        rw [show k - N = 0 by omega, List.replicate_zero, List.append_nil] at hB2
        obtain ⟨cur2, hc2, hcs2, _⟩ := hB2.2
        have htl2 : tl.length = k := by omega
        have st2 := fun X K => stAny_spl X 18 w3 w.heap.size (k * 18) K (Rv.row ⟨kx, gx, some ⟨xb, 0, none⟩, sx, sx.length + 4, hgx⟩) cur2 57 (by omega) (Rv.row_size _) (Rv.row_ones _)
        have HP2 := hB2.put hc2 (by omega) (z := ⟨kx, gx, some ⟨xb, 0, none⟩, sx, sx.length + 4, hgx⟩) (Rv.row_size _)
        rw [htl2] at HP2
        have lg := hB2.lt
        have F3 := e1.trans (hb3.mono e1.size)
        have hs3 := hb3.size
        have Z := Lib.hid (And.intro hT2 (And.intro HP2 F3))
        clear hT1 hT2 hB2 HP2 hcs2 htl2 kb rb hf hixb hnxb hb3 htk F3 e1 q2 s1 hb1
        go_wp2_with fail
        refine (stRc _ _ _ _ _ _ _ _ _ _ _).mp ?_
        rw [stRcT]
        show stAny _ 18 w3 w.heap.size (k * 18) (Rv.row ⟨kx, gx, some ⟨xb, 0, none⟩, sx, sx.length + 4, hgx⟩) _ (bk w3 w.heap.size)
        rw [hc2, st2]
        clear st2 hc2
        go_wp2
        go_roundw
        case rel =>
          refine ⟨k + 1, by omega, by go_num, below_setRow Z.out.2.2 (Nat.le_refl _) _, by simp [World.setRow]; omega, Lib.hid ⟨tl ++ [⟨kx, gx, some ⟨xb, 0, none⟩, sx, sx.length + 4, hgx⟩], by simp; omega, ?_, Z.out.1.row (by omega)⟩⟩
          rw [show k + 1 - N = 0 by omega, List.replicate_zero, List.append_nil]
          exact Z.out.2.1
        case measure => simp [intOf]; omega
      · have d2 : decide ((k : Int) < (N : Int)) = false := by simp; omega
        have d2' : decide (k < N) = false := by simp; omega
        have Z := Lib.hid (show _ by have := E.out.2.2.2; rwa [rep_snoc tl rX (by omega)] at this)
        clear e1
        go_wp2
        go_roundw
        case rel => exact ⟨k + 1, by omega, by go_num, E.out.1, E.out.2.2.1, Lib.hid ⟨tl, by omega, Z.out, by rw [show min (k + 1) N = min k N by omega]; exact E.out.2.1⟩⟩
        case measure => simp [intOf]; omega
    · have d1 : decide ((k : Int) < (N : Int) + 4) = false := by simp; omega
      have d1' : decide (k < N + 4) = false := by simp; omega
      obtain rfl : k = N + 4 := by omega
      rw [show N + 4 - N = 4 by omega] at hb
      rw [show min (N + 4) N = N by omega] at hT
      have HB := Lib.hid (And.intro hb hT)
      have s1 : decide ((N : Int) ≤ (N : Int) + 4) = true := by simp; omega
      clear hlt hb hT
      go_wp2
      go_ret
      exact ⟨rfl, ⟨tl, HB.out.1, by have := HB.out.2; rwa [HN.out, List.take_length] at this⟩, hbel⟩
end Go.Proofs.Ytjimmfbjhkoekaa
/- Icmps: is a twin of reports as it was made. -/
namespace Go.Proofs.Ytjimmfbjhkoekaa
open Go.RowKit
set_option maxRecDepth 100000
set_option maxHeartbeats 2000000
/-- What is asked of a report that came in. -/
def RvIn (w : World) (r : Rv) : Prop := Rws 16 adr w w.heap.size r.A r.s ∧ (∀ z ∈ r.s, z.length = 16) ∧ r.s.length < 2 ^ 19
theorem TwR.ok {w : World} {n : Nat} {rl tl : List Rv} (h : TwR w n rl tl) (hk : ∀ r ∈ rl, (∀ z ∈ r.s, z.length = 16) ∧ r.s.length < 2 ^ 19) : ∀ y ∈ tl, RvIn w y ∧ y.s.length ≤ y.c ∧ y.c < 2 ^ 63 := fun y hy => by
  obtain ⟨i, hi, rfl⟩ := List.mem_iff_getElem.1 hy
  obtain ⟨b, q1, q2, q3, q4⟩ := h.at' i hi
  have hio : i < rl.length := by rw [← h.len]; exact hi
  have he : tl[i].s = rl[i].s := by
    have h1 := congrArg (·[i]?) h.pl
    simp only [List.getElem?_map, List.getElem?_eq_getElem hi, List.getElem?_eq_getElem hio, Option.map_some] at h1
    exact congrArg Rc.s (Option.some.inj h1)
  have h16 : ∀ z ∈ tl[i].s, z.length = 16 := by rw [he]; exact (hk _ (List.getElem_mem hio)).1
  have hdl : tl[i].s.length < 2 ^ 19 := by rw [he]; exact (hk _ (List.getElem_mem hio)).2
  refine ⟨⟨?_, h16, hdl⟩, by omega, by omega⟩
  rw [q1]
  exact (Bld.of_flat (tw4_16 h16) q4).rws (bk_lt q4)
theorem leftRecords_any (A : Option Addr) (rl tl : List Rv) (c g n : Nat) (w : World) (h : Rws 18 Rv.row w w.heap.size A rl) (hk : ∀ r ∈ rl, RvIn w r) (hl : rl.length < 2 ^ 19) (hB : Bld 18 Rv.row w g 57 (rl.length + 4) (tw4 tl rX)) (hT : TwR w n rl tl) :
    Calls Try.prog 39 #[.slice (some ⟨g, 0, none⟩) rl.length (rl.length + 4), .slice A rl.length c] w fun e w' => e = .returned (.bool true) ∧ Below w.heap.size w w' := by
  have hlen := hT.len
  have C := sameRecords_any (some ⟨g, 0, none⟩) A tl rl (rl.length + 4) c w (hB.rws hB.lt) h (fun r hr => by have := (hT.ok (fun r hr => (hk r hr).2) r hr).1; exact ⟨this.1, this.2.1, by have := this.2.2; omega⟩) (fun r hr => (hk r hr).1) hT.pl (by omega)
  rw [hlen] at C
  have CS := Lib.hid C
  have H := Lib.hid h; have HK := Lib.hid hk; have HB := Lib.hid hB; have HT := Lib.hid hT
  have lg := hB.lt
  clear h hk hB hT C
  obtain ⟨N, hN⟩ : ∃ N, N = rl.length := ⟨_, rfl⟩
  rw [← hN] at hl hlen CS HB ⊢
  have HN := Lib.hid (And.intro hN hlen)
  clear hN hlen
  have d1 : decide (N + 4 < N + 4) = false := by simp
  have d2 : decide ((N : Int) + 4 < (N : Int) + 4) = false := by simp
  go_enter Try.func39, Try.ntmps39
  go_wp2_with fail
  refine (CS.out).mono ?_
  rintro e w1 ⟨rfl, b1⟩
  have B1 := Lib.hid b1
  clear CS
  go_wp2
  go_loopw [5] (fun i w' => ∃ k : Nat, k ≤ N ∧ i = .int .i64 k ∧ Below w.heap.size w w') (fun i _ => N - (intOf i).toNat)
  case atStart => exact ⟨0, by omega, rfl, b1⟩
  case round =>
    clear b1
    obtain ⟨k, hk, rfl, hbel⟩ := hrel
    by_cases hlt : k < N
    · have e1 : decide ((k : Int) < (N : Int)) = true := by simp; omega
      have e1' : decide (k < N) = true := by simp; omega
      have e2 : decide (k < N + 4) = true := by simp; omega
      have hk1 : k < tl.length := by rw [HN.out.2]; exact hlt
      have hk2 : k < rl.length := by rw [← HN.out.1]; exact hlt
      have hBr := HB.out.turn (hbel.block g lg)
      have hTr := HT.out.turn (w' := wr) (fun i _ hi => hbel.block i hi)
      obtain ⟨cur1, hb1, hcs1, hs1, hx1⟩ := (Bld.pre (zs := tl) (l := [rX, rX, rX, rX]) hBr).at hk1
      obtain ⟨g2, o2, cur2, t2, f2, e3, hg2, hb2, hs2, hx2, hq2⟩ := Rws.at (H.out.below hbel (Nat.le_refl _)) hk2 Rv.row_size
      subst e3
      obtain ⟨b, q1, q2, q3, q4⟩ := hTr.at' k hk1
      have hpl : tl[k].pl = rl[k].pl := by
        have h1 := congrArg (·[k]?) hTr.pl
        simp only [List.getElem?_map, List.getElem?_eq_getElem hk1, List.getElem?_eq_getElem hk2, Option.map_some] at h1
        exact Option.some.inj h1
      have hok := HK.out _ (List.getElem_mem hk2)
      have p1 := (bk_cell hb1 _).trans (row_parts' hx1 hs1).2.2
      have p2 := (bk_cell hb2 _).trans (row_parts' hx2 hs2).2.2
      obtain ⟨⟨kx, gx, Ax, dx, cx, _⟩, hx⟩ : ∃ x, x = rl[k] := ⟨_, rfl⟩
      obtain ⟨⟨ky, gy, Ay, dy, cy, _⟩, hy⟩ : ∃ x, x = tl[k] := ⟨_, rfl⟩
      rw [← hx] at hpl hok p2
      rw [← hy] at p1 q1 q2 q4 hpl
      obtain ⟨rfl, rfl, rfl⟩ : ky = kx ∧ gy = gx ∧ dy = dx := by cases hpl; exact ⟨rfl, rfl, rfl⟩
      simp only at p1 p2 q1 q2 q4
      subst q1 q2
      have CE : Hid (∀ W, Below wr.heap.size wr W → Calls Try.prog 38 #[.slice (some ⟨b, 0, none⟩) dy.length (dy.length + 4), .slice Ax dy.length cx] W fun e w' => e = .returned (.bool true) ∧ Below W.heap.size W w') := Lib.hid fun W hW => by
        have hbb := hbel.trans (hW.mono hbel.size)
        have hf := Bld.of_flat (tw4_16 hok.2.1) (bk_keep hW (bk_lt q4) q4)
        rw [tw4_length] at hf
        exact leftAddrs_any Ax dy cx b W ((hok.1.below hbb (Nat.le_refl _)).mono hbb.size) hok.2.1 hok.2.2 hf
      have l1 := bk_lt hb1; have l2 := bk_lt hb2
      clear hx hy hpl hx1 hx2 hq2 hs1 hs2 hcs1 hb1 hb2 hok hBr hTr q4 hk1 hk2
      go_wp2
      refine wp_region_later (wr.heap.size) (by kernel_rfl) (by kernel_rfl) ?_
      repeat (go_big_quiet_step (((rename_i xq; with_reducible exact later_call xq (Nat.le_refl _) (CE.out xq.w xq.h)))))
      (first | refine wpQuiet_nil ?_ | (go_big_quiet_want; (try go_big_quiet_op); trace_state; fail))
      intro w3 hw'
      have q5 := later_elim hw'
      clear hw'
      go_wp2
      go_roundw
      case rel => exact ⟨k + 1, by omega, by go_num, hbel.trans (q5.mono hbel.size)⟩
      case measure => simp [intOf]; omega
    · have e1 : decide ((k : Int) < (N : Int)) = false := by simp; omega
      have e1' : decide (k < N) = false := by simp; omega
      obtain rfl : k = N := by omega
      have ht : ((k : Int) + 4 - (k : Int)).toNat = 4 := by omega
      have s1 : decide ((k : Int) ≤ (k : Int) + 4) = true := by simp; omega
      clear hlt
      go_wp2
      rw [show k + 4 - k = 4 by omega]
      go_loopw [7] (fun i w' => ∃ j : Nat, j ≤ 4 ∧ i = .int .i64 j ∧ Below w.heap.size w w') (fun i _ => 4 - (intOf i).toNat)
      case atStart => exact ⟨0, by omega, rfl, hbel⟩
      case round =>
        clear hbel
        obtain ⟨j, hj, rfl, hbel⟩ := hrel
        by_cases hlt : j < 4
        · have e3 : decide ((j : Int) < 4) = true := by simp; omega
          have e3' : decide (j < 4) = true := by simp; omega
          have hBr := HB.out.turn (hbel.block g lg)
          have hjl : tl.length + j < (tw4 tl rX).length := by rw [tw4_length]; omega
          obtain ⟨cur1, hb1, hcs1, hs1, hx1⟩ := hBr.at hjl
          rw [tw4_room tl rX j hlt hjl] at hx1
          rw [HN.out.2] at hs1 hx1
          have e4 : (k + j) * 18 = k * 18 + j * 18 := by omega
          rw [e4] at hs1 hx1
          have p1 := (bk_cell hb1 _).trans (row_parts' hx1 hs1).1
          have p2 := (bk_cell hb1 _).trans (row_parts' hx1 hs1).2.2
          change wr.cell? ⟨g, k * 18 + j * 18, none⟩ = some (.int .u8 201) at p1
          change wr.cell? ⟨g, k * 18 + j * 18 + 17, none⟩ = some (.slice none 0 0) at p2
          have l1 := bk_lt hb1
          clear hb1 hcs1 hs1 hx1 hBr hjl e4
          go_wp2
          go_roundw
          case rel => exact ⟨j + 1, by omega, by go_num, hbel⟩
          case measure => simp [intOf]; omega
        · have e3 : decide ((j : Int) < 4) = false := by simp; omega
          have e3' : decide (j < 4) = false := by simp; omega
          clear hlt
          go_wp2
          go_ret
          exact ⟨rfl, hbel⟩
end Go.Proofs.Ytjimmfbjhkoekaa
/- Icmps: a twin of a message. -/
namespace Go.Proofs.Ytjimmfbjhkoekaa
open Go.RowKit
set_option maxRecDepth 100000
set_option maxHeartbeats 2000000
/-- How long a message's lists may be. -/
structure LimM (m : Mv) : Prop where
  d : m.dd.length < 2 ^ 46
  o : m.os.length < 2 ^ 19
  od : ∀ x ∈ m.os, x.d.length < 2 ^ 46
  s : m.ss.length < 2 ^ 19
  r : m.rs.length < 2 ^ 19
  rs : ∀ r ∈ m.rs, r.s.length < 2 ^ 19
/-- Where a message's twin lies. -/
structure TwM (w : World) (n : Nat) (m : Mv) (bd go ga gr : Nat) (tl : List Ov) (rl : List Rv) : Prop where
  nd : n ≤ bd
  kd : bk w bd = some (.cells (List.map B (tw m.dd 199)).toArray 5 (0, 0))
  no : bd < go
  ko : Bld 2 Ov.row w go 97 (m.os.length + 4) (tw4 tl oX)
  tO : TwO w (go + 1) m.os tl
  lo : ∀ i (h : i < tl.length) b, tl[i].A = some ⟨b, 0, none⟩ → b < ga
  na : go < ga
  ka : Bld 16 adr w ga 23 (m.ss.length + 4) (tw4 m.ss oddL)
  nr : ga < gr
  kr : Bld 18 Rv.row w gr 57 (m.rs.length + 4) (tw4 rl rX)
  tR : TwR w (gr + 1) m.rs rl
def twM (m : Mv) (bd go ga gr : Nat) (tl : List Ov) (rl : List Rv) : Mv :=
  { m with DA := some ⟨bd, 0, none⟩, dc := m.dd.length + 4, OA := some ⟨go, 0, none⟩, os := tl, oc := tl.length + 4, SA := some ⟨ga, 0, none⟩, sc := m.ss.length + 4, RA := some ⟨gr, 0, none⟩, rs := rl, rc := rl.length + 4 }
theorem TwM.turn {w w' : World} {n : Nat} {m : Mv} {bd go ga gr : Nat} {tl : List Ov} {rl : List Rv} (h : TwM w n m bd go ga gr tl rl) (hb : ∀ k, n ≤ k → k < w.heap.size → bk w' k = bk w k) : TwM w' n m bd go ga gr tl rl := by
  obtain ⟨a1, a2, a3, a4, a5, a6, a7, a8, a9, a10, a11⟩ := h
  exact ⟨a1, (hb _ a1 (bk_lt a2)).trans a2, a3, a4.turn (hb _ (by omega) a4.lt), a5.turn fun k hk => hb k (by omega), a6, a7, a8.turn (hb _ (by omega) a8.lt), a9, a10.turn (hb _ (by omega) a10.lt), a11.turn fun k hk => hb k (by omega)⟩
theorem TwM.below {w w' : World} {n : Nat} {m : Mv} {bd go ga gr : Nat} {tl : List Ov} {rl : List Rv} (h : TwM w n m bd go ga gr tl rl) (hb : Below w.heap.size w w') : TwM w' n m bd go ga gr tl rl := h.turn fun k _ hk => hb.block k hk
theorem TwM.pl {w : World} {n : Nat} {m : Mv} {bd go ga gr : Nat} {tl : List Ov} {rl : List Rv} (h : TwM w n m bd go ga gr tl rl) : (twM m bd go ga gr tl rl).pl = m.pl := by
  have h1 := h.tO.pl; have h2 := h.tR.pl
  unfold twM Mv.pl
  simp only [h1, h2]
theorem TwM.mv {w w0 : World} {n0 n : Nat} {m : Mv} {bd go ga gr : Nat} {tl : List Ov} {rl : List Rv} (h : TwM w n m bd go ga gr tl rl) (hok : MvOk w0 n0 m) (hl : LimM m) : MvOk w w.heap.size (twM m bd go ga gr tl rl) := by
  have ho := h.tO.len; have hr := h.tR.len
  have l1 := hl.d; have l2 := hl.o; have l3 := hl.s; have l4 := hl.r
  refine ⟨Rd.of_bk h.kd (bk_lt h.kd) (tw_head _ 199), fun e => (by cases e), by show m.dd.length ≤ m.dd.length + 4; omega, by show m.dd.length + 4 < _; omega, h.tO.ovs hl.od h.ko, by show tl.length ≤ tl.length + 4; omega, by show tl.length + 4 < _; omega, h.ka.rws h.ka.lt, hok.s16, by show m.ss.length ≤ m.ss.length + 4; omega, by show m.ss.length + 4 < _; omega,
    h.kr.rws h.kr.lt, fun r hr => ?_, by show rl.length ≤ rl.length + 4; omega, by show rl.length + 4 < _; omega, hok.b1, hok.b2, hok.b3, hok.b4, hok.b5⟩
  have := h.tR.ok (fun r hr => ⟨(hok.rss r hr).2.1, hl.rs r hr⟩) r hr
  exact ⟨this.1.1, this.1.2.1, this.2⟩
theorem LimM.big {m : Mv} (h : LimM m) : Big m := ⟨by have := h.d; omega, by have := h.s; omega, by have := h.r; omega, fun r hr => by have := h.rs r hr; omega, by have := h.o; omega, fun x hx => by have := h.od x hx; omega⟩
/-- Where TwinMessage stands. -/
structure TS (w W : World) (s : Nat) (mi : Mv) : Prop where
  bl : Below w.heap.size w W
  k1 : bk W s = some (.cells (mC mi) 33 (0, 0))
  k2 : bk W (s + 1) = some (.cells (mC (mZ 0 0)) 33 (0, 0))
  hs : s = w.heap.size
theorem TS.set {w W : World} {s j : Nat} {mo mo' : Mv} {v : Value} (h : TS w W s mo) (e : (mC mo).setIfInBounds j v = mC mo') : TS w (W.setCell ⟨s, j, none⟩ v) s mo' :=
  ⟨h.bl.setCell (p := ⟨s, j, none⟩) (by have := h.hs; show _ ≤ s; omega) v, by rw [bk_setCell_same, h.k1, ← e]; rfl, by rw [bk_setCell_other _ _ _ _ _ (by omega)]; exact h.k2, h.hs⟩
theorem TS.below {w W W' : World} {s : Nat} {mo : Mv} (h : TS w W s mo) (hb : Below W.heap.size W W') : TS w W' s mo :=
  ⟨h.bl.trans (hb.mono h.bl.size), bk_keep hb (bk_lt h.k1) h.k1, bk_keep hb (bk_lt h.k2) h.k2, h.hs⟩
/-- Blocks from n on stay. -/
def Stay (n : Nat) (w w' : World) : Prop := w.heap.size ≤ w'.heap.size ∧ ∀ k, n ≤ k → k < w.heap.size → bk w' k = bk w k
theorem Stay.trans {n : Nat} {w w' w'' : World} (h : Stay n w w') (k : Stay n w' w'') : Stay n w w'' := ⟨Nat.le_trans h.1 k.1, fun i h1 h2 => (k.2 i h1 (Nat.lt_of_lt_of_le h2 h.1)).trans (h.2 i h1 h2)⟩
theorem Stay.of {n : Nat} {w w' : World} (h : Below w.heap.size w w') : Stay n w w' := ⟨h.size, fun k _ hk => h.block k hk⟩
theorem Stay.set {n s j : Nat} {w : World} {v : Value} (h : s < n) : Stay n w (w.setCell ⟨s, j, none⟩ v) := ⟨by simp, fun k hk _ => bk_setCell_other _ _ _ _ _ (by omega)⟩
theorem Stay.row {n s : Nat} {w : World} {c : Array Value} (h : s < n) : Stay n w (w.setRow s c) := ⟨by simp [World.setRow], fun k hk _ => bk_setRow_other _ _ _ _ (by omega)⟩
theorem twinMessage_any (m : Mv) (w : World) (hok : MvOk w w.heap.size m) (hl : LimM m) :
    Calls Try.prog 10 #[.agg (mC m)] w fun e w' => ∃ bd go ga gr tl rl, e = .returned (.agg (mC (twM m bd go ga gr tl rl))) ∧ TwM w' w.heap.size m bd go ga gr tl rl ∧ Below w.heap.size w w' := by
  have OK := Lib.hid hok; have HL := Lib.hid hl
  clear hok hl
  go_enter Try.func10, Try.ntmps10
  go_upto_region 1 with fail
  obtain ⟨s, hs⟩ : ∃ s, s = w.heap.size := ⟨_, rfl⟩
  generalize hW : World.alloc (World.alloc w _) _ = W
  have P : Hid (TS w W s m ∧ W.heap.size = s + 1 + 1) := Lib.hid (by
    rw [← hW, hs]
    exact ⟨⟨(by (repeat (first | exact Below.refl _ _ | assumption | refine Below.drew ?_ | refine bdrewN ?_ _ | refine Below.alloc ?_ (by first | omega | (simp <;> omega) | (simp only [World.size_alloc] <;> omega)) _ | refine below_setRow ?_ (by first | omega | (simp <;> omega)) _ | refine Below.setCell ?_ (by first | omega | (simp <;> omega)) _))), by rw [bk_alloc_past _ _ _ (by simp)]; exact bk_alloc_at _ _ _ rfl, (bk_alloc_at _ _ _ (by simp)).trans (by kernel_rfl), rfl⟩, by simp⟩)
  rw [← hs]
  clear hW
  have HS := Lib.hid hs
  clear hs
  have HW2 := Lib.hid P.out.2
  have P0 := Lib.hid P.out.1
  clear P
  have c3 := (bk_cell P0.out.k1 3).trans (mC_3 m)
  have l1 := bk_lt P0.out.k1
  have C := Lib.hid (twinBytes_any m.DA m.dd m.dc W ((OK.out.d.below P0.out.bl (Nat.le_refl _)).mono P0.out.bl.size) HL.out.d)
  go_wp2_with fail
  refine C.out.mono ?_
  rintro e w1 ⟨rfl, k1, b1⟩
  obtain ⟨bd, hbd⟩ : ∃ b, b = W.heap.size := ⟨_, rfl⟩
  rw [← hbd] at k1 ⊢
  have HSB := Lib.hid (show s + 1 + 1 = bd by rw [hbd]; exact HW2.out.symm)
  have KD := Lib.hid k1
  clear hbd k1
  have P1 := Lib.hid ((P0).out.below b1)
  have ut := (bk_cell (P1).out.k1 3).trans (mC_3 _)
  have fz := bk_frozen (P1).out.k1 3
  have lt := bk_lt (P1).out.k1
  clear c3 l1 C
  go_upto_region 2 with fail
  have P2 := Lib.hid ((P1).out.set (j := 3) (v := .slice (some ⟨bd, 0, none⟩) m.dd.length (m.dd.length + 4)) (sM3 _ _ _ _))
  have S2 : Hid (Stay (s + 1 + 1) w1 (World.setCell w1 ⟨s, 3, none⟩ (.slice (some ⟨bd, 0, none⟩) m.dd.length (m.dd.length + 4)))) := Lib.hid (Stay.set (by omega))
  generalize World.setCell w1 ⟨s, 3, none⟩ (.slice (some ⟨bd, 0, none⟩) m.dd.length (m.dd.length + 4)) = w2 at *
  clear ut fz lt P1 P0
  have hbl : bd < w2.heap.size := Nat.lt_of_lt_of_le (bk_lt KD.out) S2.out.1
  have c3 := (bk_cell P2.out.k1 41).trans (mC_41 _)
  have l1 := bk_lt P2.out.k1
  have C := Lib.hid (twinOptions_any m.OA m.os m.oc w2 ((OK.out.os.below P2.out.bl (Nat.le_refl _)).mono P2.out.bl.size) HL.out.o HL.out.od)
  go_wp2_with fail
  refine C.out.mono ?_
  rintro e w3 ⟨rfl, ⟨tl, hB3, hT3⟩, b3⟩
  obtain ⟨go, hgo⟩ : ∃ b, b = w2.heap.size := ⟨_, rfl⟩
  rw [← hgo] at hB3 hT3 ⊢
  have hlt : tl.length = m.os.length := hT3.len
  have KO := Lib.hid (And.intro hB3 hT3)
  have BG := Lib.hid (show bd < go by omega)
  have HGO := Lib.hid hgo
  rw [← hlt]
  clear hgo hbl hlt
  have P3 := Lib.hid ((P2).out.below b3)
  have ut := (bk_cell (P3).out.k1 41).trans (mC_41 _)
  have fz := bk_frozen (P3).out.k1 41
  have lt := bk_lt (P3).out.k1
  clear c3 l1 C
  go_upto_region 3 with fail
  have P4 := Lib.hid ((P3).out.set (j := 41) (v := .slice (some ⟨go, 0, none⟩) tl.length (tl.length + 4)) (sM41 _ _ _ _))
  have S4 : Hid (Stay (s + 1 + 1) w3 (World.setCell w3 ⟨s, 41, none⟩ (.slice (some ⟨go, 0, none⟩) tl.length (tl.length + 4)))) := Lib.hid (Stay.set (by omega))
  generalize World.setCell w3 ⟨s, 41, none⟩ (.slice (some ⟨go, 0, none⟩) tl.length (tl.length + 4)) = w4 at *
  clear ut fz lt P3 P2
  have hgl : go < w4.heap.size := Nat.lt_of_lt_of_le hB3.lt S4.out.1
  have LO : Hid (∀ i (h : i < tl.length) b, tl[i].A = some ⟨b, 0, none⟩ → b < w4.heap.size) := Lib.hid fun i hi b e => by
    obtain ⟨b', q1, _, _, q4⟩ := hT3.at' i hi
    rw [q1] at e
    cases e
    exact Nat.lt_of_lt_of_le (bk_lt q4) S4.out.1
  have S3 : Hid (Stay (s + 1 + 1) w2 w3) := Lib.hid (Stay.of b3)
  clear hB3 hT3 b3
  have c3 := (bk_cell P4.out.k1 61).trans (mC_61 _)
  have l1 := bk_lt P4.out.k1
  have C := Lib.hid (twinAddrs_any m.SA m.ss m.sc w4 ((OK.out.ss.below P4.out.bl (Nat.le_refl _)).mono P4.out.bl.size) OK.out.s16 HL.out.s)
  go_wp2_with fail
  refine C.out.mono ?_
  rintro e w5 ⟨ga, hga, rfl, hA5, b5⟩
  have KA := Lib.hid hA5
  have BA := Lib.hid (show go < ga by omega)
  have HGA := Lib.hid hga
  clear hgl
  replace LO : Hid (∀ i (h : i < tl.length) b, tl[i].A = some ⟨b, 0, none⟩ → b < ga) := Lib.hid fun i hi b e => by have := LO.out i hi b e; omega
  have P5 := Lib.hid ((P4).out.below b5)
  have ut := (bk_cell (P5).out.k1 61).trans (mC_61 _)
  have fz := bk_frozen (P5).out.k1 61
  have lt := bk_lt (P5).out.k1
  clear c3 l1 C
  go_upto_region 4 with fail
  have P6 := Lib.hid ((P5).out.set (j := 61) (v := .slice (some ⟨ga, 0, none⟩) m.ss.length (m.ss.length + 4)) (sM61 _ _ _ _))
  have S6 : Hid (Stay (s + 1 + 1) w5 (World.setCell w5 ⟨s, 61, none⟩ (.slice (some ⟨ga, 0, none⟩) m.ss.length (m.ss.length + 4)))) := Lib.hid (Stay.set (by omega))
  generalize World.setCell w5 ⟨s, 61, none⟩ (.slice (some ⟨ga, 0, none⟩) m.ss.length (m.ss.length + 4)) = w6 at *
  clear ut fz lt P5 P4
  have hal : ga < w6.heap.size := Nat.lt_of_lt_of_le hA5.lt S6.out.1
  have S5 : Hid (Stay (s + 1 + 1) w4 w5) := Lib.hid (Stay.of b5)
  clear hA5 b5
  have c3 := (bk_cell P6.out.k1 62).trans (mC_62 _)
  have l1 := bk_lt P6.out.k1
  have C := Lib.hid (twinRecords_any m.RA m.rs m.rc w6 ((OK.out.rs.below P6.out.bl (Nat.le_refl _)).mono P6.out.bl.size) (fun r hr => ⟨((OK.out.rss r hr).1.below P6.out.bl (Nat.le_refl _)).mono P6.out.bl.size, (OK.out.rss r hr).2.1, HL.out.rs r hr⟩) HL.out.r)
  go_wp2_with fail
  refine C.out.mono ?_
  rintro e w7 ⟨rfl, ⟨rl, hB7, hT7⟩, b7⟩
  obtain ⟨gr, hgr⟩ : ∃ b, b = w6.heap.size := ⟨_, rfl⟩
  rw [← hgr] at hB7 hT7 ⊢
  have hlr : rl.length = m.rs.length := hT7.len
  have BR := Lib.hid (show ga < gr by omega)
  rw [← hlr]
  clear hgr hal hlr
  have P7 := Lib.hid ((P6).out.below b7)
  have ut := (bk_cell (P7).out.k1 62).trans (mC_62 _)
  have fz := bk_frozen (P7).out.k1 62
  have lt := bk_lt (P7).out.k1
  clear c3 l1 C
  go_upto_region 5 with fail
  have P8 := Lib.hid ((P7).out.set (j := 62) (v := .slice (some ⟨gr, 0, none⟩) rl.length (rl.length + 4)) (sM62 _ _ _ _))
  have S8 : Hid (Stay (s + 1 + 1) w7 (World.setCell w7 ⟨s, 62, none⟩ (.slice (some ⟨gr, 0, none⟩) rl.length (rl.length + 4)))) := Lib.hid (Stay.set (by omega))
  generalize World.setCell w7 ⟨s, 62, none⟩ (.slice (some ⟨gr, 0, none⟩) rl.length (rl.length + 4)) = w8 at *
  clear ut fz lt P7 P6
  have S7 : Hid (Stay (s + 1 + 1) w6 w7) := Lib.hid (Stay.of b7)
  have K8 := Lib.hid (And.intro hB7 hT7)
  clear hB7 hT7 b7
  have TW : Hid (TwM w8 w.heap.size m bd go ga gr tl rl) := Lib.hid (by
    have h1 := HS.out; have h0 := HSB.out
    have S68 := S7.out.trans S8.out
    have S58 := S6.out.trans S68
    have S48 := S5.out.trans S58
    have S38 := S4.out.trans S48
    have S18 := S2.out.trans (S3.out.trans S38)
    have g1 := BG.out; have g2 := BA.out; have g3 := BR.out
    exact ⟨by omega, (S18.2 bd (by omega) (bk_lt KD.out)).trans KD.out, g1, KO.out.1.turn (S38.2 go (by omega) KO.out.1.lt), KO.out.2.turn (fun k h2 h3 => S38.2 k (by omega) h3), LO.out, g2, KA.out.turn (S58.2 ga (by omega) KA.out.lt), g3, K8.out.1.turn (S8.out.2 gr (by omega) K8.out.1.lt), K8.out.2.turn (fun k h2 h3 => S8.out.2 k (by omega) h3)⟩)
  clear KD KO LO KA K8 S2 S3 S4 S5 S6 S7 S8
  have hk1 : bk w8 s = some (.cells (mC (twM m bd go ga gr tl rl)) 33 (0, 0)) := P8.out.k1
  have hk2 := P8.out.k2
  have l1 := bk_lt hk1
  have l2 := bk_lt hk2
  have sz := fun m => mC_size m
  have so := fun m => mC_ones m
  have FX : Hid (TwM (w8.setRow (s + 1) (mC (twM m bd go ga gr tl rl))) w.heap.size m bd go ga gr tl rl ∧ Below w.heap.size w (w8.setRow (s + 1) (mC (twM m bd go ga gr tl rl)))) := Lib.hid (by
    have h1 := HS.out; have h0 := HSB.out
    have h2 := TW.out.nd
    have g1 := BG.out; have g2 := BA.out; have g3 := BR.out
    refine ⟨?_, below_setRow P8.out.bl (by omega) _⟩
    obtain ⟨a1, a2, a3, a4, a5, a6, a7, a8, a9, a10, a11⟩ := TW.out
    have S : Stay (s + 1 + 1) w8 (w8.setRow (s + 1) (mC (twM m bd go ga gr tl rl))) := Stay.row (by omega)
    exact ⟨a1, (S.2 _ (by omega) (bk_lt a2)).trans a2, a3, a4.turn (S.2 _ (by omega) a4.lt), a5.turn fun k hk => S.2 k (by omega), a6, a7, a8.turn (S.2 _ (by omega) a8.lt), a9, a10.turn (S.2 _ (by omega) a10.lt), a11.turn fun k hk => S.2 k (by omega)⟩)
  have kf : bk (w8.setRow (s + 1) (mC (twM m bd go ga gr tl rl))) (s + 1) = some (.cells (mC (twM m bd go ga gr tl rl)) 33 (0, 0)) := by rw [bk_setRow_same, hk2]; rfl
  clear TW
  go_wp2_with fail
  exact bodyPost_ret (results_cell_row rfl _ _ (s + 1) 33 (mC _) (0, 0) _ rfl kf Try.underlying33 rfl (by rw [mC_size]; kernel_rfl)) rfl ⟨bd, go, ga, gr, tl, rl, rfl, FX.out⟩
end Go.Proofs.Ytjimmfbjhkoekaa
/- Icmps: is a twin of a message as it was made. -/
namespace Go.Proofs.Ytjimmfbjhkoekaa
open Go.RowKit
set_option maxRecDepth 100000
set_option maxHeartbeats 2000000
theorem leftMessage_any (n : Nat) (m : Mv) (bd go ga gr : Nat) (tl : List Ov) (rl : List Rv) (w : World) (hok : MvOk w w.heap.size m) (hl : LimM m) (hT : TwM w n m bd go ga gr tl rl) :
    Calls Try.prog 14 #[.agg (mC (twM m bd go ga gr tl rl)), .agg (mC m)] w fun e w' => e = .returned (.bool true) ∧ Below w.heap.size w w' := by
  have hT' := hT.mv hok hl
  have b0 : Below w.heap.size w ((w.alloc (.cells (mC (twM m bd go ga gr tl rl)) 33)).alloc (.cells (mC m) 33)) := (by (repeat (first | exact Below.refl _ _ | assumption | refine Below.drew ?_ | refine bdrewN ?_ _ | refine Below.alloc ?_ (by first | omega | (simp <;> omega) | (simp only [World.size_alloc] <;> omega)) _ | refine below_setRow ?_ (by first | omega | (simp <;> omega)) _ | refine Below.setCell ?_ (by first | omega | (simp <;> omega)) _)))
  obtain ⟨g, hg⟩ : ∃ g, g = w.heap.size := ⟨_, rfl⟩
  have ka : bk ((w.alloc (.cells (mC (twM m bd go ga gr tl rl)) 33)).alloc (.cells (mC m) 33)) g = some (.cells (mC (twM m bd go ga gr tl rl)) 33 (0, 0)) := by rw [hg, bk_alloc_past _ _ _ (by simp)]; exact bk_alloc_at _ _ _ rfl
  have kb : bk ((w.alloc (.cells (mC (twM m bd go ga gr tl rl)) 33)).alloc (.cells (mC m) 33)) (g + 1) = some (.cells (mC m) 33 (0, 0)) := by rw [hg]; exact bk_alloc_at _ _ _ (by simp)
  have HT0 := Lib.hid (hT.below b0)
  have OK0 := Lib.hid ((hok.below b0 (Nat.le_refl _)).mono b0.size)
  have OT0 := Lib.hid ((hT'.below b0 (Nat.le_refl _)).mono b0.size)
  have F0 := Lib.hid b0; have HL := Lib.hid hl; have PL := Lib.hid hT.pl
  have HLR := Lib.hid hT.tR.len
  have HLO := Lib.hid hT.tO.len
  clear hT' b0 hok hl hT
  go_enter Try.func14, Try.ntmps14
  go_upto_region 1 with fail
  rw [← hg]
  clear hg
  generalize (w.alloc (.cells (mC (twM m bd go ga gr tl rl)) 33)).alloc (.cells (mC m) 33) = W at *
  have KA := Lib.hid ka; have KB := Lib.hid kb
  have la := bk_lt ka; have lb := bk_lt kb
  have s1 := mC_size (twM m bd go ga gr tl rl); have s2 := mC_size m
  have C := Lib.hid (sameMessage_any (twM m bd go ga gr tl rl) m W OT0.out OK0.out PL.out (by
    have h1 := HL.out.big
    have h2 := HLR.out
    have h3 := HLO.out
    refine ⟨h1.d, h1.s, by show rl.length < _; rw [h2]; exact h1.r, fun r hr => ?_, by show tl.length < _; rw [h3]; exact h1.o, fun x hx => ?_⟩
    · have := (HT0.out.tR.ok (fun r hr => ⟨(OK0.out.rss r hr).2.1, HL.out.rs r hr⟩) r hr).1.2.2; omega
    · have := (HT0.out.tO.ok HL.out.od x hx).2; omega))
  go_wp2_with fail
  refine C.out.mono ?_
  rintro e w1 ⟨rfl, b1⟩
  try clear c3 d3
  have KA1 := Lib.hid (bk_keep b1 la (KA).out); have KB1 := Lib.hid (bk_keep b1 lb (KB).out)
  have HT1 := Lib.hid ((HT0).out.below b1)
  have OK1 := Lib.hid (((OK0).out.below b1 (Nat.le_refl _)).mono (b1).size)
  have F1 := Lib.hid ((F0).out.trans ((b1).mono (F0).out.size))
  replace la := bk_lt (KA1).out; replace lb := bk_lt (KB1).out
  have c3 : (w1).cell? ⟨g, 3, none⟩ = some (.slice (some ⟨bd, 0, none⟩) m.dd.length (m.dd.length + 4)) := (bk_cell (KA1).out 3).trans ((mC_3 _).trans (by first | rfl | (rw [← HLO.out]; rfl) | (rw [← HLR.out]; rfl)))
  have d3 := (bk_cell (KB1).out 3).trans (mC_3 m)
  clear b1 C KA KB HT0 OK0 F0
  try clear ka kb
  have C := Lib.hid (leftBytes_any m.DA m.dd m.dc bd w1 OK1.out.d HL.out.d HT1.out.kd)
  go_wp2_with fail
  refine C.out.mono ?_
  rintro e w2 ⟨rfl, b2⟩
  try clear c3 d3
  have KA2 := Lib.hid (bk_keep b2 la (KA1).out); have KB2 := Lib.hid (bk_keep b2 lb (KB1).out)
  have HT2 := Lib.hid ((HT1).out.below b2)
  have OK2 := Lib.hid (((OK1).out.below b2 (Nat.le_refl _)).mono (b2).size)
  have F2 := Lib.hid ((F1).out.trans ((b2).mono (F1).out.size))
  replace la := bk_lt (KA2).out; replace lb := bk_lt (KB2).out
  have c3 : (w2).cell? ⟨g, 41, none⟩ = some (.slice (some ⟨go, 0, none⟩) m.os.length (m.os.length + 4)) := (bk_cell (KA2).out 41).trans ((mC_41 _).trans (by first | rfl | (rw [← HLO.out]; rfl) | (rw [← HLR.out]; rfl)))
  have d3 := (bk_cell (KB2).out 41).trans (mC_41 m)
  clear b2 C KA1 KB1 HT1 OK1 F1
  try clear ka kb
  have C := Lib.hid (leftOptions_any m.OA m.os tl m.oc go (go + 1) w2 OK2.out.os HL.out.o HL.out.od HT2.out.ko HT2.out.tO)
  go_wp2_with fail
  refine C.out.mono ?_
  rintro e w3 ⟨rfl, b3⟩
  try clear c3 d3
  have KA3 := Lib.hid (bk_keep b3 la (KA2).out); have KB3 := Lib.hid (bk_keep b3 lb (KB2).out)
  have HT3 := Lib.hid ((HT2).out.below b3)
  have OK3 := Lib.hid (((OK2).out.below b3 (Nat.le_refl _)).mono (b3).size)
  have F3 := Lib.hid ((F2).out.trans ((b3).mono (F2).out.size))
  replace la := bk_lt (KA3).out; replace lb := bk_lt (KB3).out
  have c3 : (w3).cell? ⟨g, 61, none⟩ = some (.slice (some ⟨ga, 0, none⟩) m.ss.length (m.ss.length + 4)) := (bk_cell (KA3).out 61).trans ((mC_61 _).trans (by first | rfl | (rw [← HLO.out]; rfl) | (rw [← HLR.out]; rfl)))
  have d3 := (bk_cell (KB3).out 61).trans (mC_61 m)
  clear b3 C KA2 KB2 HT2 OK2 F2
  try clear ka kb
  have C := Lib.hid (leftAddrs_any m.SA m.ss m.sc ga w3 OK3.out.ss OK3.out.s16 HL.out.s HT3.out.ka)
  go_wp2_with fail
  refine C.out.mono ?_
  rintro e w4 ⟨rfl, b4⟩
  try clear c3 d3
  have KA4 := Lib.hid (bk_keep b4 la (KA3).out); have KB4 := Lib.hid (bk_keep b4 lb (KB3).out)
  have HT4 := Lib.hid ((HT3).out.below b4)
  have OK4 := Lib.hid (((OK3).out.below b4 (Nat.le_refl _)).mono (b4).size)
  have F4 := Lib.hid ((F3).out.trans ((b4).mono (F3).out.size))
  replace la := bk_lt (KA4).out; replace lb := bk_lt (KB4).out
  have c3 : (w4).cell? ⟨g, 62, none⟩ = some (.slice (some ⟨gr, 0, none⟩) m.rs.length (m.rs.length + 4)) := (bk_cell (KA4).out 62).trans ((mC_62 _).trans (by first | rfl | (rw [← HLO.out]; rfl) | (rw [← HLR.out]; rfl)))
  have d3 := (bk_cell (KB4).out 62).trans (mC_62 m)
  clear b4 C KA3 KB3 HT3 OK3 F3
  try clear ka kb
  have C := Lib.hid (leftRecords_any m.RA m.rs rl m.rc gr (gr + 1) w4 OK4.out.rs (fun r hr => ⟨(OK4.out.rss r hr).1, (OK4.out.rss r hr).2.1, HL.out.rs r hr⟩) HL.out.r HT4.out.kr HT4.out.tR)
  go_wp2_with fail
  refine C.out.mono ?_
  rintro e w5 ⟨rfl, b5⟩
  have F5 := Lib.hid (F4.out.trans (b5.mono F4.out.size))
  clear c3 d3 la lb b5 C
  go_wp2_with fail
  go_ret
  exact ⟨rfl, F5.out⟩
end Go.Proofs.Ytjimmfbjhkoekaa

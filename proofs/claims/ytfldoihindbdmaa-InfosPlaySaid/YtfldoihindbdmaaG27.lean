/- InfosPlay, walked. -/
import Derived.Test.YtfldoihindbdmaaG26
import Derived.Deep.RegionHeld3
namespace Go.Proofs.Ytfldoihindbdmaa
open Go.RowKit
set_option maxRecDepth 100000
set_option maxHeartbeats 2000000
theorem pf_fit {T k a : Nat} (h1 : T ≤ k * 5000000) (h2 : k < 80) : ∃ T2 : Nat, ((T : Int) + (a : Int) % 5000000) = (T2 : Int) ∧ ((T : Int) + (a : Int) % 5000000) % 18446744073709551616 = (T2 : Int) ∧ IntKind.u64.wrap ((T : Int) + (a : Int) % 5000000) = (T2 : Int) ∧ IntKind.u64.wrap ((T : Int) + (a : Int).tmod 5000000) = (T2 : Int) ∧ T2 ≤ (k + 1) * 5000000 := by
  have e : (a : Int).tmod 5000000 = (a : Int) % 5000000 := Int.tmod_eq_emod_of_nonneg (by omega)
  refine ⟨T + a % 5000000, by omega, by omega, ?_, ?_, by omega⟩
  · rw [IntKind.wrap_u64]; omega
  · rw [IntKind.wrap_u64, e]; omega
theorem infosPlay_walk (a0 a1 a2 a3 a4 a5 : UInt8) (A : Option Addr) (l : List Ai) (c : Nat) (PA : Option Addr) (ws : List Nat) (pc : Nat) (w : World) (h : Ais w w.heap.size A l) (hl : l.length < 2 ^ 63) (hr : RU w PA ws) (hw : ws.length < 2 ^ 63) :
    Calls Try.prog 8 #[.agg #[B a0, B a1, B a2, B a3, B a4, B a5], .slice A l.length c, .slice PA ws.length pc] w fun e w' => e = .returned (.bool true) ∧ Below w.heap.size w w' := by
  obtain ⟨n, hn⟩ : ∃ n, n = w.heap.size := ⟨_, rfl⟩
  have HN := Lib.hid hn
  rw [← hn] at h ⊢
  have HAn := Lib.hid h
  obtain ⟨wm, hwm⟩ : ∃ wm, wm = w.alloc (.cells #[B a0, B a1, B a2, B a3, B a4, B a5] 28) := ⟨_, rfl⟩
  have bm : Below n w wm := by rw [hwm, hn]; exact (by (repeat (first | exact Below.refl _ _ | assumption | refine Below.drew ?_ | refine bdrewN ?_ _ | refine Below.alloc ?_ (by first | omega | (simp <;> omega) | (simp only [World.size_alloc] <;> omega)) _ | refine below_setRow ?_ (by first | omega | (simp <;> omega)) _ | refine Below.setCell ?_ (by first | omega | (simp <;> omega)) _)))
  have km : bk wm n = some (.cells #[B a0, B a1, B a2, B a3, B a4, B a5] 28 (0, 0)) := by rw [hwm]; exact bk_alloc_at _ _ _ hn
  have hA0 := h.below bm (Nat.le_refl _)
  have nb : n ≤ wm.heap.size := by have := bm.size; omega
  have NB := Lib.hid nb
  have CG := Lib.hid (great_any A l c PA ws.length pc wm ⟨fun h0 => by
    obtain ⟨g, o, cc, t, fr, h1, h2, h3, h4⟩ := hA0.1 h0
    exact ⟨g, o, cc, t, fr, h1, bk_lt h3, h3, h4⟩, fun x hx => by
    obtain ⟨h1, h2, h3, h4, h5⟩ := hA0.2 x hx
    exact ⟨h1.mono nb, h2, h3, h4, h5⟩⟩ hl hw)
  have HA := Lib.hid hA0; have HR := Lib.hid (hr.turn (Tn.of (by rw [← hn]; exact bm)) (F := fun _ => False) fun _ b o e h => h); have HR0 := Lib.hid hr
  have BM := Lib.hid bm; have KM := Lib.hid km; have HWM := Lib.hid hwm
  clear h hr bm km hwm hA0 hn
  go_enter Try.func8, Try.ntmps8
  go_upto_region 1 with fail
  change Code.wp _ _ _ _ (w.alloc (.cells #[B a0, B a1, B a2, B a3, B a4, B a5] 28))
  rw [← HWM.out, ← HN.out]
  have v0 := KM.out
  have l0 := bk_lt v0
  go_wp2_with fail
  refine CG.out.mono ?_
  rintro e w1 ⟨b, rfl, hb, rfl⟩
  cases b with
  | true =>
    clear hb CG
    go_wp2_with fail
    refine (lives26_any _).mono ?_
    rintro e w9 ⟨rfl, b9⟩
    go_wp2_with fail
    go_ret
    exact ⟨rfl, BM.out.trans (b9.mono NB.out)⟩
  | false =>
    have HB := Lib.hid (hb rfl)
    clear hb CG
    go_upto_region 3 with fail
    obtain ⟨M1, hM1⟩ : ∃ M : MadeW wm.heap.size, M = MadeW.row _ (fun b => .pointer (some ⟨b, 0, none⟩)) (clC (newCl a0 a1 a2 a3 a4 a5)) 31 := ⟨_, rfl⟩
    obtain ⟨M3, hM3⟩ : ∃ M : MadeW wm.heap.size, M = MadeW.row _ (fun b => .pointer (some ⟨b, 0, none⟩)) (rcC (newCl a0 a1 a2 a3 a4 a5)) 88 := ⟨_, rfl⟩
    obtain ⟨M4, hM4⟩ : ∃ M : MadeW wm.heap.size, M = MadeW.row _ (fun b => .pointer (some ⟨b, 0, none⟩)) (wdC (List.replicate 256 0) 0 0) 84 := ⟨_, rfl⟩
    obtain ⟨M6, hM6⟩ : ∃ M : MadeW wm.heap.size, M = MadeW.row _ (fun b => .pointer (some ⟨b, 0, none⟩)) #[.slice none 0 0] 61 := ⟨_, rfl⟩
    obtain ⟨M8, hM8⟩ : ∃ M : MadeW wm.heap.size, M = MadeW.row _ (fun b => .pointer (some ⟨b, 0, none⟩)) #[.pointer none, .pointer none, .pointer none, .pointer none] 63 := ⟨_, rfl⟩
    have H1 := Lib.hid hM1; have H3 := Lib.hid hM3; have H4 := Lib.hid hM4; have H6 := Lib.hid hM6; have H8 := Lib.hid hM8
    clear hM1 hM3 hM4 hM6 hM8
    have y0 : wm.cell? ⟨n, 0, none⟩ = some (B a0) := bk_cell v0 0
    have y1 : wm.cell? ⟨n, 1, none⟩ = some (B a1) := bk_cell v0 1
    have y2 : wm.cell? ⟨n, 2, none⟩ = some (B a2) := bk_cell v0 2
    have y3 : wm.cell? ⟨n, 3, none⟩ = some (B a3) := bk_cell v0 3
    have y4 : wm.cell? ⟨n, 4, none⟩ = some (B a4) := bk_cell v0 4
    have y5 : wm.cell? ⟨n, 5, none⟩ = some (B a5) := bk_cell v0 5
    clear v0
    refine wp_region_e (wm.heap.size) ([.row 1 H1, .row 3 H3, .row 4 H4, .row 6 H6, .row 8 H8, .store wm.heap.size 9 63 [7, 21]]) (fun k => (([(9, [8])] : List (Nat × List Nat)).lookup k).getD []) (Fs.nil) (by first | omega | (simp <;> omega)) (by kernel_rfl) (by kernel_rfl) (by kernel_rfl) (by kernel_rfl) EnvW.Ini.nil ?_
    refine walkW_segn 1 [] facts0 noneHx (by kernel_rfl) (by kernel_rfl) ?_
    simp only [List.take_succ_cons, List.take_zero, List.drop_succ_cons, List.drop_zero, Nat.reduceAdd]
    repeat (go_big_quiet_step (fail))
    (first | refine wpQuiet_nil ?_ | (go_big_quiet_want; (try go_big_quiet_op); trace_state; fail))
    refine walkW_mk (fun _ => M1) [] M1 ([]) facts0 (by kernel_rfl) (by kernel_rfl) (by kernel_rfl) rfl rfl (fun w' hb' hg' => ?_) (fun v1 h1 => ?_)
    · unfold madeAtW
      go_simp
      ((refine (inew_any a0 a1 a2 a3 a4 a5 w').mono ?_; rintro e w2 ⟨x, rfl, hx, hcl, hb⟩; obtain ⟨k1, k2, k3⟩ := row_mk H1 hb hb'.size (Nat.le_trans hb'.size hx) hcl.box; exact endW k1 k2 k3))
    obtain ⟨x, mx, rfl⟩ := row_T H1 h1
    simp only [Act.put, List.setIfInBounds_toArray, List.set_cons_succ, List.set_cons_zero, Nat.reduceAdd]
    refine walkW_segn 1 [] facts0 noneHx (by kernel_rfl) (by kernel_rfl) ?_
    simp only [List.take_succ_cons, List.take_zero, List.drop_succ_cons, List.drop_zero, Nat.reduceAdd]
    repeat (go_big_quiet_step (fail))
    (first | refine wpQuiet_nil ?_ | (go_big_quiet_want; (try go_big_quiet_op); trace_state; fail))
    refine walkW_mk (fun _ => M3) [] M3 ([]) facts0 (by kernel_rfl) (by kernel_rfl) (by kernel_rfl) rfl rfl (fun w' hb' hg' => ?_) (fun v3 h3 => ?_)
    · unfold madeAtW
      go_simp
      ((refine (rcnew_any a0 a1 a2 a3 a4 a5 w').mono ?_; rintro e w2 ⟨x, rfl, hx, hcl, hb⟩; obtain ⟨k1, k2, k3⟩ := row_mk H3 hb hb'.size (Nat.le_trans hb'.size hx) hcl.box; exact endW k1 k2 k3))
    obtain ⟨y, my, rfl⟩ := row_T H3 h3
    simp only [Act.put, List.setIfInBounds_toArray, List.set_cons_succ, List.set_cons_zero, Nat.reduceAdd]
    refine walkW_mk (fun _ => M4) [] M4 ([]) facts0 (by kernel_rfl) (by kernel_rfl) (by kernel_rfl) rfl rfl (fun w' hb' hg' => ?_) (fun v4 h4 => ?_)
    · unfold madeAtW
      go_simp
      ((refine (wnew_any w').mono ?_; rintro e w2 ⟨rfl, hcl, hb⟩; obtain ⟨k1, k2, k3⟩ := row_mk H4 hb hb'.size hb'.size hcl.box; exact endW k1 k2 k3))
    obtain ⟨g, mg, rfl⟩ := row_T H4 h4
    simp only [Act.put, List.setIfInBounds_toArray, List.set_cons_succ, List.set_cons_zero, Nat.reduceAdd]
    refine walkW_segn 1 [] facts0 noneHx (by kernel_rfl) (by kernel_rfl) ?_
    simp only [List.take_succ_cons, List.take_zero, List.drop_succ_cons, List.drop_zero, Nat.reduceAdd]
    repeat (go_big_quiet_step (fail))
    (first | refine wpQuiet_nil ?_ | (go_big_quiet_want; (try go_big_quiet_op); trace_state; fail))
    refine walkW_mk (fun _ => M6) [] M6 ([]) facts0 (by kernel_rfl) (by kernel_rfl) (by kernel_rfl) rfl rfl (fun w' hb' hg' => ?_) (fun v6 h6 => ?_)
    · unfold madeAtW
      go_simp
      ((exact (row_mk (b := w'.heap.size) H6 ((Below.refl _ _).alloc (Nat.le_refl _) _) hb'.size hb'.size (bk_alloc_at _ _ _ rfl) :)))
    obtain ⟨q, mq, rfl⟩ := row_T H6 h6
    simp only [Act.put, List.setIfInBounds_toArray, List.set_cons_succ, List.set_cons_zero, Nat.reduceAdd]
    have bw := builtWld x y q (some ⟨g, 0, none⟩)
    refine walkW_segn 1 [] facts0 noneHx (by kernel_rfl) (by kernel_rfl) ?_
    simp only [List.take_succ_cons, List.take_zero, List.drop_succ_cons, List.drop_zero, Nat.reduceAdd]
    repeat (go_big_quiet_step (fail))
    (first | refine wpQuiet_nil ?_ | (go_big_quiet_want; (try go_big_quiet_op); trace_state; fail))
    clear bw
    refine walkW_mk (fun _ => M8) [] M8 ([]) facts0 (by kernel_rfl) (by kernel_rfl) (by kernel_rfl) rfl rfl (fun w' hb' hg' => ?_) (fun v8 h8 => ?_)
    · unfold madeAtW
      go_simp
      ((exact (row_mk (b := w'.heap.size) H8 ((Below.refl _ _).alloc (Nat.le_refl _) _) hb'.size hb'.size (bk_alloc_at _ _ _ rfl) :)))
    obtain ⟨b8, m8, rfl⟩ := row_T H8 h8
    simp only [Act.put, List.setIfInBounds_toArray, List.set_cons_succ, List.set_cons_zero, Nat.reduceAdd]
    refine walkW_mk (MadeW.storeAt _ 63) [.pointer (some ⟨b8, 0, none⟩), .agg (wlC x y (some ⟨g, 0, none⟩) q)] (MadeW.store _ b8 (wlC x y (some ⟨g, 0, none⟩) q) 63) ([(8, M8.R (.pointer (some ⟨b8, 0, none⟩)))]) (facts1 fun w h => h.1 rfl) (by kernel_rfl) (by kernel_rfl) (by kernel_rfl) rfl rfl (fun w' hb' hg' => ?_) (fun v hT => ?_)
    · exact storeRow_mk (n := 4) (by kernel_rfl) (Lib.hid rfl) (row_R H8 ptr_inj (hg' _ (.head _))) m8 rfl rfl rfl rfl rfl
    clear hT
    simp only [Act.put]
    refine walkW_nil ?_
    intro w5 b5 hf
    have N5 : Hid (New26 w5 n x y q b8 (some ⟨g, 0, none⟩) (newCl a0 a1 a2 a3 a4 a5)) := Lib.hid ⟨row_R H1 ptr_inj ((hf 1 (by kernel_rfl)).2.2.2.2.2.1 rfl), row_R H3 ptr_inj ((hf 3 (by kernel_rfl)).2.2.2.2.1 rfl), row_R H6 ptr_inj ((hf 6 (by kernel_rfl)).2.2.1 rfl), store_R (Lib.hid rfl) ((hf 9 (by kernel_rfl)).1 rfl), by have := NB.out; omega, by have := NB.out; omega, by have := NB.out; omega, by have := NB.out; omega⟩
    have kg5 : bk w5 g = some (.cells (wdC (List.replicate 256 0) 0 0) 84 (0, 0)) := row_R H4 ptr_inj ((hf 4 (by kernel_rfl)).2.2.2.1 rfl)
    have G5 : Hid (WdR w5 g (List.replicate 256 0) 0 []) := Lib.hid ⟨kg5, by simp, by decide, by simp, fun i h => by simp at h, fun x h => by simp at h⟩
    have NG : Hid (n ≤ g) := Lib.hid (by have := NB.out; omega)
    have B5 := Lib.hid (BM.out.trans (b5.mono NB.out))
    have HR5 : Hid (RU w5 PA ws) := Lib.hid (HR.out.turn (Tn.of b5) (F := fun _ => False) fun _ b o e h => h)
    have HRN : Hid (0 < ws.length → ∀ b o, PA = some ⟨b, o, none⟩ → b < n) := Lib.hid fun h0 b o e => by
      obtain ⟨b', o', e', hlt, _⟩ := HR0.out 0 h0
      rw [e'] at e
      cases e
      rw [HN.out]
      exact hlt
    have HA5 : Hid (Ais w5 n A l) := Lib.hid (HA.out.below b5 (by have := NB.out; omega))
    have z2 : w5.cell? ⟨b8, 2, none⟩ = some (.pointer (some ⟨g, 0, none⟩)) := (bk_cell N5.out.kb 2).trans rfl
    have lz := bk_lt N5.out.kb
    have AG : Hid (g ≠ x ∧ g ≠ y ∧ g ≠ q ∧ g ≠ b8) := Lib.hid ⟨bk_apart kg5 N5.out.kx (by decide), bk_apart kg5 N5.out.ky (by decide), bk_apart kg5 N5.out.kq (by decide), bk_apart kg5 N5.out.kb (by decide)⟩
    have AX : Hid (x ≠ y ∧ x ≠ q ∧ y ≠ q ∧ b8 ≠ x ∧ b8 ≠ y ∧ b8 ≠ q) := Lib.hid ⟨bk_apart N5.out.kx N5.out.ky (by decide), bk_apart N5.out.kx N5.out.kq (by decide), bk_apart N5.out.ky N5.out.kq (by decide), bk_apart N5.out.kb N5.out.kx (by decide), bk_apart N5.out.kb N5.out.ky (by decide), bk_apart N5.out.kb N5.out.kq (by decide)⟩
    obtain ⟨m, hm⟩ : ∃ m, m = w5.heap.size := ⟨_, rfl⟩
    have HM : Hid (g < m ∧ x < m ∧ y < m ∧ q < m ∧ b8 < m ∧ n ≤ m) := Lib.hid (by rw [hm]; exact ⟨bk_lt kg5, bk_lt N5.out.kx, bk_lt N5.out.ky, bk_lt N5.out.kq, bk_lt N5.out.kb, by have h1 := NB.out; have h2 := b5.size; omega⟩)
    have Q5 : Hid (RWd w5 m q []) := Lib.hid (by rw [hm]; exact N5.out.rw)
    have CF := Lib.hid (wfeed_any g 0 _ [] ws PA pc w5 G5.out HR5.out (fun h0 b o e q => by have h1 := HRN.out h0 b o e; have h2 := NG.out; omega) (by have := HB.out.2.1; simpa using this))
    clear h1 h3 h4 h6 h8 hf kg5 H1 H3 H4 H6 H8 M1 M3 M4 M6 M8 b5 mx my mg mq m8 KM y0 y1 y2 y3 y4 y5 l0 HR HA BM hm G5
    go_wp2_with fail
    refine CF.out.mono ?_
    rintro e w6 ⟨⟨nf, rfl⟩, ⟨R6, hw6⟩, t6⟩
    rw [List.nil_append] at hw6
    have G6 := Lib.hid hw6
    have kb6 := t6.keep (fun e => AG.out.2.2.2 e.symm) N5.out.kb
    have KB6 := Lib.hid kb6
    have z3 : w6.cell? ⟨b8, 3, none⟩ = some (.pointer (some ⟨q, 0, none⟩)) := (bk_cell kb6 3).trans rfl
    have lz6 := bk_lt kb6
    have X6 := Lib.hid (N5.out.cl.keep t6 fun e => AG.out.1 e.symm)
    have Y6 := Lib.hid (N5.out.rc.keep t6 fun e => AG.out.2.1 e.symm)
    have Q6 := Lib.hid (Q5.out.keep t6 fun k hk => by subst hk; exact ⟨HM.out.1, AG.out.2.2.1⟩)
    have HR6 := Lib.hid (HR5.out.turn t6 fun h0 b o e q => by have h1 := HRN.out h0 b o e; have h2 := NG.out; omega)
    have B6 := Lib.hid (B5.out.trans (t6.below (n := n) (fun k hk => by subst hk; exact NG.out) (by have h1 := B5.out.size; have h2 := HN.out; omega)))
    have CR := Lib.hid (rwfeed_any m q ws PA pc w6 Q6.out HR6.out (fun h0 b o e => by have h1 := HRN.out h0 b o e; have h2 := N5.out.nq; have h3 := HM.out; omega) HB.out.2.1)
    have HA6 := Lib.hid (t6.size)
    clear z2 lz CF hw6 kb6 t6 Q5 HR5 B5
    go_wp2_with fail
    refine CR.out.mono ?_
    rintro e w7 ⟨⟨nf2, rfl⟩, hq7, t7⟩
    have P7 : Hid (Pl w w7 n x y (some ⟨g, 0, none⟩) m q b8) := Lib.hid (by
      have h1 := AG.out; have h2 := AX.out; have h3 := HM.out
      refine ⟨⟨newCl a0 a1 a2 a3 a4 a5, ws, ⟨X6.out.keep t7 (by omega), Y6.out.keep t7 (by omega), .inr ⟨g, R6, 0, rfl, ?_⟩, hq7, new_inv .., G6.out.u32, N5.out.nx, N5.out.ny, N5.out.nq, ?_, h3.2.1, h3.2.2.1, h2.1, h2.2.1, h2.2.2.1⟩⟩, t7.keep (by omega) KB6.out, ?_, B6.out.trans (t7.below (n := n) (fun k hk => by have := N5.out.nq; omega) (by have h1 := B6.out.size; have h2 := HN.out; omega)), HN.out⟩
      · exact ⟨t7.keep (by omega) G6.out.box, G6.out.ring, G6.out.f256, G6.out.few, G6.out.at', G6.out.u32⟩
      · rintro k ⟨o, e⟩
        cases e
        exact ⟨NG.out, by omega, h1.1, h1.2.1, h1.2.2.1⟩
      · rintro ((e | ⟨o, e⟩) | (e | e))
        · omega
        · cases e; omega
        · omega
        · omega)
    have HA7 : Hid (∀ wr, Pl w wr n x y (some ⟨g, 0, none⟩) m q b8 → Ais wr n A l) := Lib.hid fun wr hp => HAn.out.below hp.bl (Nat.le_refl _)
    clear t7 hq7 CR Q6 X6 Y6 G6 KB6 B6 HR6 z3 lz6 HA6 N5 AG AX NG
    have HLB : Hid (l.length ≤ 80) := Lib.hid HB.out.1
    have HSM : Hid (∀ x ∈ l, x.l.length ≤ 1500) := Lib.hid HB.out.2.2
    clear HB HA5 HM HWM HR0 NB nb HRN
    go_wp2_with fail
    go_loopw [8, 9] (fun tv iv wr => ∃ (k T : Nat), k ≤ l.length ∧ tv = .int .u64 (T : Int) ∧ iv = .int .i64 (k : Int) ∧ Hid (T ≤ k * 5000000) ∧ Hid (Pl w wr n x y (some ⟨g, 0, none⟩) m q b8)) (fun _ iv _ => l.length - (intOf iv).toNat)
    case atStart => exact ⟨0, 0, by omega, rfl, rfl, Lib.hid (by omega), P7⟩
    case round =>
      clear P7
      obtain ⟨k, T, hk, rfl, rfl, HT, HP⟩ := hrel
      by_cases hlt : k < l.length
      · have d1 : decide ((k : Int) < (l.length : Int)) = true := by simp; omega
        obtain ⟨ga, o, cc, t, fr, rfl, hgn, hka, hsz, hxt, hc⟩ := (HA7.out wr HP.out).at hlt
        have hok := (HA7.out wr HP.out).2 _ (List.getElem_mem hlt)
        have hsm := HSM.out _ (List.getElem_mem hlt)
        obtain ⟨a, ha⟩ : ∃ a, a = l[k] := ⟨_, rfl⟩
        rw [← ha] at hxt hc hok hsm
        have c0 : wr.cell? ⟨ga, o + k * 4 + 0, none⟩ = some (.int .u8 (a.kind.toNat : Int)) := hc 0 (by omega)
        have c1 : wr.cell? ⟨ga, o + k * 4 + 1, none⟩ = some (.slice a.A a.l.length a.c) := hc 1 (by omega)
        have c2 : wr.cell? ⟨ga, o + k * 4 + 2, none⟩ = some (.bool a.ours) := hc 2 (by omega)
        have c3 : wr.cell? ⟨ga, o + k * 4 + 3, none⟩ = some (.int .u32 (a.n : Int)) := hc 3 (by omega)
        rw [Nat.add_zero] at c0
        have hgl := bk_lt hka
        have ha32 := hok.n32
        obtain ⟨T2, f1, f2, f3, f4, hT2⟩ := pf_fit (a := a.n) HT.out (by have := HLB.out; omega)
        have HCE : Hid (∀ w', Pl w w' n x y (some ⟨g, 0, none⟩) m q b8 → AiC w' ga (o + k * 4) a) := Lib.hid fun w' hp => by rw [ha]; exact (HA7.out w' hp).cells hlt
        have HOK := Lib.hid hok
        have HSM1 := Lib.hid hsm
        have HT2 := Lib.hid hT2
        have HTF : Hid (T2 ≤ far) := Lib.hid (by unfold far; have := HLB.out; omega)
        clear ha hc hka hsz hxt hok hsm hT2
        go_upto_region 11 with (fail)
        clear f1 f2 f3 f4 ha32
        have bd : Below wr.heap.size wr wr.drew := (by (repeat (first | exact Below.refl _ _ | assumption | refine Below.drew ?_ | refine bdrewN ?_ _ | refine Below.alloc ?_ (by first | omega | (simp <;> omega) | (simp only [World.size_alloc] <;> omega)) _ | refine below_setRow ?_ (by first | omega | (simp <;> omega)) _ | refine Below.setCell ?_ (by first | omega | (simp <;> omega)) _)))
        have HPD := Lib.hid (HP.out.below bd)
        have CD : Hid (Calls Try.prog 21 #[.agg #[.pointer (some ⟨x, 0, none⟩), .pointer (some ⟨y, 0, none⟩), .pointer (some ⟨g, 0, none⟩), .pointer (some ⟨q, 0, none⟩)], .int .u64 (T2 : Int), .agg #[.int .u8 (a.kind.toNat : Int), .slice a.A a.l.length a.c, .bool a.ours, .int .u32 (a.n : Int)]] wr.drew fun e w' => e = .returned (.bool true) ∧ Pl w w' n x y (some ⟨g, 0, none⟩) m q b8) := Lib.hid (HPD.out.calls T2 a ⟨HOK.out.rd.below bd HPD.out.nw, HOK.out.nil, HOK.out.le, HOK.out.lt, HOK.out.n32⟩ HTF.out HSM1.out)
        have kb := HPD.out.kb
        have lb := bk_lt kb
        have z0 : wr.drew.cell? ⟨b8, 0, none⟩ = some (.pointer (some ⟨x, 0, none⟩)) := (bk_cell kb 0).trans rfl
        have z1 : wr.drew.cell? ⟨b8, 1, none⟩ = some (.pointer (some ⟨y, 0, none⟩)) := (bk_cell kb 1).trans rfl
        have z2 : wr.drew.cell? ⟨b8, 2, none⟩ = some (.pointer (some ⟨g, 0, none⟩)) := (bk_cell kb 2).trans rfl
        have z3 : wr.drew.cell? ⟨b8, 3, none⟩ = some (.pointer (some ⟨q, 0, none⟩)) := (bk_cell kb 3).trans rfl
        have y0 : wr.drew.cell? ⟨ga, o + k * 4, none⟩ = some (.int .u8 (a.kind.toNat : Int)) := c0
        have y1 : wr.drew.cell? ⟨ga, o + k * 4 + 1, none⟩ = some (.slice a.A a.l.length a.c) := c1
        have y2 : wr.drew.cell? ⟨ga, o + k * 4 + 2, none⟩ = some (.bool a.ours) := c2
        have y3 : wr.drew.cell? ⟨ga, o + k * 4 + 3, none⟩ = some (.int .u32 (a.n : Int)) := c3
        have hgl' : ga < wr.drew.heap.size := hgl
        clear bd HP c0 c1 c2 c3 kb
        go_region_held3 (fun w' => w'.cell? ⟨b8, 0, none⟩ = some (.pointer (some ⟨x, 0, none⟩)) ∧ w'.cell? ⟨b8, 1, none⟩ = some (.pointer (some ⟨y, 0, none⟩)) ∧ w'.cell? ⟨b8, 2, none⟩ = some (.pointer (some ⟨g, 0, none⟩)) ∧ w'.cell? ⟨b8, 3, none⟩ = some (.pointer (some ⟨q, 0, none⟩)) ∧ w'.cell? ⟨ga, o + k * 4, none⟩ = some (.int .u8 (a.kind.toNat : Int)) ∧ w'.cell? ⟨ga, o + k * 4 + 1, none⟩ = some (.slice a.A a.l.length a.c) ∧ w'.cell? ⟨ga, o + k * 4 + 2, none⟩ = some (.bool a.ours) ∧ w'.cell? ⟨ga, o + k * 4 + 3, none⟩ = some (.int .u32 (a.n : Int))) (first | assumption | go_keep)
          ((go_at_call 21; with_reducible refine CD.out.mono ?_; rintro e w8 ⟨rfl, p8⟩; have P8 := Lib.hid p8; obtain ⟨s0, s1, s2, s3⟩ := p8.cells; obtain ⟨r0, r1, r2, r3⟩ := HCE.out w8 p8; clear p8 CD HPD))
        clear z0 z1 z2 z3 y0 y1 y2 y3 s0 s1 s2 s3 r0 r1 r2 r3 HOK HSM1 HTF HCE hgl hgl' lb
        go_wp2_with fail
        go_roundw
        case rel => exact ⟨k + 1, T2, by omega, rfl, by go_num, HT2, P8⟩
        case measure => simp [intOf]; omega
      · obtain rfl : k = l.length := by omega
        have d1 : decide ((l.length : Int) < (l.length : Int)) = false := by simp
        have BF : Hid (Below w.heap.size w wr) := Lib.hid (by rw [← HN.out]; exact HP.out.bl)
        clear HT HP HA7 HAn HSM
        go_wp2_with fail
        refine (lives26_any _).mono ?_
        rintro e w9 ⟨rfl, b9⟩
        go_wp2_with fail
        go_ret
        exact ⟨rfl, by rw [HN.out]; exact BF.out.trans (b9.mono BF.out.size)⟩
end Go.Proofs.Ytfldoihindbdmaa

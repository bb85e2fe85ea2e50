/- The reference's scope and solicited address. -/
import Derived.Test.YtpjmpckddnjikaaDoorA15
import Derived.Test.YtpjmpckddnjikaaDoorL3
namespace Go.Proofs.YtpjmpckddnjikaaDoor
open Go.RowKit Ad
set_option maxRecDepth 100000
@[go_sem ↓] theorem qfAddr (dst : Option Tmp) (x : Operand) (t : TypeId) (pos : String) (af : Array Edge) (g : Option (Nat × Bool)) (a : Act) (m : Nat) (W : World) (gs : List (Nat × (World → Prop))) [Nonempty (LaterF m W gs)] (K : Act → Prop) :
    Oper.quiet Tryd.prog ⟨dst, .load 23 x, t, pos, af, g⟩ a (fun w' => ∃ x : LaterF m W gs, w' = x.w) K =
      ldF (quietHid Tryd.prog ⟨dst, .load 23 x, t, pos, af, g⟩ a (fun w' => ∃ x : LaterF m W gs, w' = x.w) K) gs m 16 W (fun c => K (a.put dst (.agg c))) (a.eval x) :=
  quiet_load_F 23 16 _ Tryd.underlying23 rfl (by kernel_rfl) dst x t pos af g a m W gs K
theorem rscope_any (l : List UInt8) (h : l.length = 16) (w : World) :
    Calls Tryd.prog 26 #[av l] w fun e w' => e = .returned (.int .i64 (scope l)) ∧ Below w.heap.size w w' := by
  have hfin : scope l = if isMul l then l[1].toNat % 16 else if isLL l || l == knownA 1 then 2 else if l == knownA 0 then 0 else 14 := by
    rw [scope]; simp [List.getD_eq_getElem?_getD, h]
  have HF := Lib.hid hfin; clear hfin
  have hq0 := eqAddr l (knownA 0) h rfl
  have hq1 := eqAddr l (knownA 1) h rfl
  obtain ⟨bm, hm⟩ : ∃ b, b = isMul l := ⟨_, rfl⟩
  obtain ⟨bl, hl⟩ : ∃ b, b = isLL l := ⟨_, rfl⟩
  obtain ⟨b1, h1⟩ : ∃ b, b = (l == knownA 1) := ⟨_, rfl⟩
  obtain ⟨b0, h0⟩ : ∃ b, b = (l == knownA 0) := ⟨_, rfl⟩
  have cm := rIsMul_any l h
  have cl := rIsLL_any l h
  rw [← hm] at cm; rw [← hl] at cl; rw [← h1] at hq1; rw [← h0] at hq0
  have HF : Hid (scope l = if bm then l[1].toNat % 16 else if bl || b1 then 2 else if b0 then 0 else 14) := by rw [hm, hl, h1, h0]; exact HF.out
  have CM := Lib.hid cm; have CL := Lib.hid cl
  clear hm hl h1 h0 cm cl
  go_enter Tryd.func26, Tryd.ntmps26
  go_wp2_with fail
  refine (CM.out _).mono ?_
  rintro e w1 ⟨rfl, hb1⟩
  have hb1w : Below w.heap.size w w1 := ((Below.refl _ _).alloc (Nat.le_refl _) _).trans (hb1.mono (by simp))
  have k1 : bk w1 w.heap.size = some (.cells (List.map B l).toArray 23 (0, 0)) := bk_keep hb1 (by simp) (bk_alloc_at _ _ _ rfl)
  have s1 : w.heap.size + 1 ≤ w1.heap.size := by simpa using hb1.size
  have c1 := bk_cell k1
  clear hb1
  cases bm
  case true =>
    go_wp2_with fail
    go_ret
    exact ⟨by rw [HF.out]; simp, hb1w⟩
  go_wp2_with fail
  cases bl
  case true =>
    refine wp_region_later (w.heap.size + 1) (by kernel_rfl) (by kernel_rfl) ?_
    repeat (go_big_quiet_step (((rename_i xq; exact later_call xq s1 (CL.out xq.w)))))
    (first | refine wpQuiet_nil ?_ | (go_big_quiet_want; (try go_big_quiet_op); trace_state; fail))
    intro w3 hw'
    have q3 := later_elim hw'
    clear hw'
    go_wp2_with fail
    go_ret
    exact ⟨by rw [HF.out]; rfl, hb1w.trans (q3.mono (by omega))⟩
  have lw := bk_lt k1
  have h6 : six.length = 96 := by rfl
  have hx1 : sl six 16 16 = knownA 1 := by rfl
  have hx0 : sl six 0 16 = knownA 0 := by rfl
  obtain ⟨M, hM⟩ : ∃ M : Made (w.heap.size + 1), M = Made.row (w.heap.size + 1) (fun b => .slice (some ⟨b, 0, none⟩) 6 6) (.cells (List.map B six).toArray 23 (0, 0)) := ⟨_, rfl⟩
  have HM := Lib.hid hM; clear hM
  refine wp_region_made (w.heap.size + 1) (fun k => ([(1, .val (.bool false)), (4, M)] : List (Nat × Made (w.heap.size + 1))).lookup k) (by first | omega | (simp <;> omega)) (by kernel_rfl) (by kernel_rfl) ?_
  refine walk_segn 1 ([]) facts0 (by kernel_rfl) (by kernel_rfl) ?_
  simp only [List.take_succ_cons, List.take_zero, List.drop_succ_cons, List.drop_zero, Nat.reduceAdd]
  repeat (go_big_quiet_step (fail))
  (first | refine wpQuiet_nil ?_ | (go_big_quiet_want; (try go_big_quiet_op); trace_state; fail))
  refine walk_val (.bool false) ([]) facts0 (by kernel_rfl) (by kernel_rfl) (by kernel_rfl) (fun w' hb' hg' => ?_) ?_
  · unfold madeAt
    go_simp
    ((exact (CL.out w').mono fun e w2 ⟨he, hb⟩ => by subst he; exact val_end hb))
  simp only [Act.put, List.setIfInBounds_toArray, List.set_cons_succ, List.set_cons_zero, Nat.reduceAdd]
  refine walk_segn 2 ([]) facts0 (by kernel_rfl) (by kernel_rfl) ?_
  simp only [List.take_succ_cons, List.take_zero, List.drop_succ_cons, List.drop_zero, Nat.reduceAdd]
  repeat (go_big_quiet_step (fail))
  (first | refine wpQuiet_nil ?_ | (go_big_quiet_want; (try go_big_quiet_op); trace_state; fail))
  refine walk_mkop M ([]) facts0 (by kernel_rfl) (by kernel_rfl) (by kernel_rfl) (fun w' hb' hg' => ?_) (fun v _ hAt => ?_)
  · unfold madeAt
    go_simp
    ((refine (rKnown_any w').mono ?_; rintro e w2 ⟨g, rfl, hg, hg2, hb⟩; exact row_end HM hb (by have := hb'.size; omega) hg))
  obtain ⟨b, hmb, rfl, hnb, hib, rb⟩ := made_at HM (by intro b b' h; simpa using h) 4 hAt
  clear hAt
  simp only [Act.put, List.setIfInBounds_toArray, List.set_cons_succ, List.set_cons_zero, Nat.reduceAdd]
  refine walk_segn 4 ([(4, M.R (.slice (some ⟨b, 0, none⟩) 6 6))]) (facts1 fun w h => h.1 rfl) (by kernel_rfl) (by kernel_rfl) ?_
  simp only [List.take_succ_cons, List.take_zero, List.drop_succ_cons, List.drop_zero, Nat.reduceAdd]
  repeat (go_big_quiet_step (fail))
  (first | refine wpQuiet_nil ?_ | (go_big_quiet_want; (try go_big_quiet_op); trace_state; fail))
  refine walk_nil ?_
  intro w3 hb3 _
  have k3 := bk_keep hb3 (by omega) k1
  have s3 := hb3.size
  have hb3w := hb1w.trans (hb3.mono (by omega))
  clear hb3
  cases b1
  case true =>
    go_wp2_with fail
    go_ret
    exact ⟨by rw [HF.out]; rfl, hb3w⟩
  go_wp2_with fail
  refine wp_region_made (w.heap.size + 1) (fun k => ([(1, M)] : List (Nat × Made (w.heap.size + 1))).lookup k) (by first | omega | (simp <;> omega)) (by kernel_rfl) (by kernel_rfl) ?_
  refine walk_segn 1 ([]) facts0 (by kernel_rfl) (by kernel_rfl) ?_
  simp only [List.take_succ_cons, List.take_zero, List.drop_succ_cons, List.drop_zero, Nat.reduceAdd]
  repeat (go_big_quiet_step (fail))
  (first | refine wpQuiet_nil ?_ | (go_big_quiet_want; (try go_big_quiet_op); trace_state; fail))
  refine walk_mkop M ([]) facts0 (by kernel_rfl) (by kernel_rfl) (by kernel_rfl) (fun w' hb' hg' => ?_) (fun v _ hAt => ?_)
  · unfold madeAt
    go_simp
    ((refine (rKnown_any w').mono ?_; rintro e w2 ⟨g, rfl, hg, hg2, hb⟩; exact row_end HM hb (by have := hb'.size; omega) hg))
  obtain ⟨b', hmb', rfl, hnb', hib', rb'⟩ := made_at HM (by intro b b' h; simpa using h) 1 hAt
  clear hAt
  simp only [Act.put, List.setIfInBounds_toArray, List.set_cons_succ, List.set_cons_zero, Nat.reduceAdd]
  refine walk_segn 3 ([(1, M.R (.slice (some ⟨b', 0, none⟩) 6 6))]) (facts1 fun w h => h.1 rfl) (by kernel_rfl) (by kernel_rfl) ?_
  simp only [List.take_succ_cons, List.take_zero, List.drop_succ_cons, List.drop_zero, Nat.reduceAdd]
  repeat (go_big_quiet_step (fail))
  (first | refine wpQuiet_nil ?_ | (go_big_quiet_want; (try go_big_quiet_op); trace_state; fail))
  refine walk_nil ?_
  intro w4 hb4 _
  have hb4w := hb3w.trans (hb4.mono (by omega))
  clear hb4
  cases b0
  case true =>
    go_wp2_with fail
    go_ret
    exact ⟨by rw [HF.out]; rfl, hb4w⟩
  go_wp2_with fail
  go_ret
  exact ⟨by rw [HF.out]; rfl, hb4w⟩
end Go.Proofs.YtpjmpckddnjikaaDoor

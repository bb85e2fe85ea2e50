/- AddrsKind: the law's walk. -/
import Derived.Test.YtpjmpckddnjikaaDoorA17
namespace Go.Proofs.YtpjmpckddnjikaaDoor
open Go.RowKit Ad
set_option maxRecDepth 100000
set_option maxHeartbeats 2000000 in
theorem addrsKind_walk (l : List UInt8) (h : l.length = 16) (w : World) (hg : GK w) :
    Calls Tryd.prog 6 #[av l] w fun e w' => e = .returned (.bool true) ∧ Below w.heap.size w w' := by
  have hw0 : 0 < w.heap.size := by obtain ⟨c, t, fr, h1, _⟩ := hg; exact bk_lt h1
  have HG := Lib.hid hg; clear hg
  have C1 := Lib.hid (isMul_any l h)
  have C2 := Lib.hid (isLL_any l h)
  have C3 := Lib.hid (scope_any l h)
  have C4 := Lib.hid (solic_any l h)
  have R1 := Lib.hid (rIsMul_any l h)
  have R2 := Lib.hid (rIsLL_any l h)
  have R3 := Lib.hid (rscope_any l h)
  have R4 := Lib.hid (rsolic_any l h)
  have q := eqAddr (solic l) (solic l) (solic_length l h) (solic_length l h)
  have hsl := solic_length l h
  rw [beq_self_eq_true] at q
  generalize isMul l = b1 at *
  generalize isLL l = b2 at *
  generalize scope l = s1 at *
  generalize solic l = z1 at *
  go_enter Tryd.func6, Tryd.ntmps6
  go_wp2_with fail
  refine (unspec_any _ (HG.out.below ((Below.refl _ _).alloc (Nat.le_refl _) _) hw0)).mono ?_
  rintro e w1 ⟨rfl, b1⟩
  have f1 := ((Below.refl w.heap.size w).alloc (Nat.le_refl _) (.cells (List.map B l).toArray 23 (0, 0))).trans (b1.mono (by simp))
  have k1 : bk w1 w.heap.size = some (.cells (List.map B l).toArray 23 (0, 0)) := bk_keep b1 (by simp) (bk_alloc_at _ _ _ rfl)
  have s1' : w.heap.size + 1 ≤ w1.heap.size := by simpa using b1.size
  clear b1
  go_wp2_with fail
  refine (loopback_any _ (HG.out.below f1 hw0)).mono ?_
  rintro e w2 ⟨rfl, b2⟩
  have f2 := f1.trans (b2.mono f1.size)
  have k2 := bk_keep b2 (bk_lt k1) k1
  have s2' := Nat.le_trans s1' b2.size
  clear f1 k1 s1' b2
  go_wp2_with fail
  refine (allNodes_any _ (HG.out.below f2 hw0)).mono ?_
  rintro e w3 ⟨rfl, b3⟩
  have f3 := f2.trans (b3.mono f2.size)
  have k3 := bk_keep b3 (bk_lt k2) k2
  have s3' := Nat.le_trans s2' b3.size
  clear f2 k2 s2' b3
  go_wp2_with fail
  refine (allRouters_any _ (HG.out.below f3 hw0)).mono ?_
  rintro e w4 ⟨rfl, b4⟩
  have f4 := f3.trans (b4.mono f3.size)
  have k4 := bk_keep b4 (bk_lt k3) k3
  have s4' := Nat.le_trans s3' b4.size
  clear f3 k3 s3' b4
  go_wp2_with fail
  refine (listeners_any _ (HG.out.below f4 hw0)).mono ?_
  rintro e w5 ⟨rfl, b5⟩
  have f5 := f4.trans (b5.mono f4.size)
  have k5 := bk_keep b5 (bk_lt k4) k4
  have s5' := Nat.le_trans s4' b5.size
  clear f4 k4 s4' b5
  go_wp2_with fail
  refine (servers_any _ (HG.out.below f5 hw0)).mono ?_
  rintro e w6 ⟨rfl, b6⟩
  have f6 := f5.trans (b6.mono f5.size)
  have k6 := bk_keep b6 (bk_lt k5) k5
  have s6' := Nat.le_trans s5' b6.size
  clear f5 k5 s5' b6
  have HB : builtSl Tryd.prog 35 6 [(0, av (knownA 0)), (1, av (knownA 1)), (2, av (knownA 2)), (3, av (knownA 3)), (4, av (knownA 4)), (5, av (knownA 5))] = some ((List.map B six).toArray, 23) := by
    rw [built6 _ _ _ _ _ _ rfl rfl rfl rfl rfl rfl, ← six_cat]
  go_wp2_with fail
  refine (rKnown_any _).mono ?_
  rintro e w7 ⟨g, rfl, hg, hg2, b7⟩
  have hk7 : bk w7 w6.heap.size = some (.cells (List.map B six).toArray 23 (0, 0)) := bk_keep b7 (by simp) (bk_alloc_at _ _ _ rfl)
  have f7 := (f6.alloc f6.size (.cells (List.map B six).toArray 23 (0, 0))).trans (b7.mono (by have := f6.size; simp <;> omega))
  have k7 : bk w7 w.heap.size = some (.cells (List.map B l).toArray 23 (0, 0)) := bk_keep b7 (by simp <;> omega) ((bk_alloc_past _ _ _ (by omega)).trans k6)
  have s7' : w.heap.size + 1 ≤ w7.heap.size := by have := b7.size; simp at this; omega
  clear HB f6 k6 b7
  go_wp2_with fail
  refine (sameAddrs_any _ _ 6 six _ _ _ _ rfl (by omega) w7 hk7 hg).mono ?_
  rintro e w8 ⟨rfl, b8⟩
  have f8 := f7.trans (b8.mono f7.size)
  have k8 := bk_keep b8 (bk_lt k7) k7
  have s8' := Nat.le_trans s7' b8.size
  clear f7 k7 s7' b8 hk7 hg hg2
  go_wp2_with fail
  cases b1 <;> cases b2
  all_goals
    refine wp_region_later (w.heap.size + 1) (by kernel_rfl) (by kernel_rfl) ?_
    repeat (go_big_quiet_step (((rename_i xq; first | (with_reducible exact later_call xq s8' (C1.out xq.w)) | (with_reducible exact later_call xq s8' (C2.out xq.w)) | (with_reducible exact later_call xq s8' (R1.out xq.w)) | (with_reducible exact later_call xq s8' (R2.out xq.w)) | (with_reducible exact later_call xq s8' (R3.out xq.w)) | (with_reducible exact later_call xq s8' (R4.out xq.w)) | (with_reducible exact later_call xq s8' (C3.out xq.w (HG.out.below (f8.trans (xq.h.mono (by omega))) hw0))) | (with_reducible exact later_call xq s8' (C4.out xq.w (HG.out.below (f8.trans (xq.h.mono (by omega))) hw0))) | (with_reducible exact later_call xq s8' (lives_any xq.w (HG.out.below (f8.trans (xq.h.mono (by omega))) hw0)))))))
    (first | refine wpQuiet_nil ?_ | (go_big_quiet_want; (try go_big_quiet_op); trace_state; fail))
    intro w9 hw'
    have q9 := later_elim hw'
    clear hw'
    go_wp2_with fail
    go_ret
    exact ⟨rfl, f8.trans (q9.mono (by omega))⟩
end Go.Proofs.YtpjmpckddnjikaaDoor

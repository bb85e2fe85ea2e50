/- AddrsScopes: the law's walk. -/
import Derived.Test.YtpjmpckddnjikaaDoorA7
namespace Go.Proofs.YtpjmpckddnjikaaDoor
open Go.RowKit Ad
set_option maxRecDepth 100000
theorem mul_not_ll (l : List UInt8) (h : isMul l = true) : isLL l = false := by
  unfold isMul at h; unfold isLL
  simp at h
  rw [List.getD_eq_getElem?_getD, h]; rfl
theorem addrsScopes_walk (l : List UInt8) (h : l.length = 16) (w : World) (hg : GK w) :
    Calls Tryd.prog 4 #[av l] w fun e w' => e = .returned (.bool true) ∧ Below w.heap.size w w' := by
  have hw0 : 0 < w.heap.size := by obtain ⟨c, t, fr, h1, _⟩ := hg; exact bk_lt h1
  have HG := Lib.hid hg; clear hg
  have hq0 := eqAddr l (knownA 0) h rfl
  have hq1 := eqAddr l (knownA 1) h rfl
  obtain ⟨b1, h1⟩ : ∃ b, b = (l == knownA 1) := ⟨_, rfl⟩
  obtain ⟨b0, h0⟩ : ∃ b, b = (l == knownA 0) := ⟨_, rfl⟩
  rw [← h1] at hq1; rw [← h0] at hq0
  have cm := isMul_any l h
  have cl := isLL_any l h
  have cs := scope_any l h
  have hsc : scope l = if isMul l then (l.getD 1 0).toNat % 16 else if isLL l || b1 then 2 else if b0 then 0 else 14 := by rw [h1, h0]; rfl
  have hml := mul_not_ll l
  generalize isMul l = bm at cm hsc hml
  generalize isLL l = bl at cl hsc hml
  generalize scope l = s at cs hsc
  clear h1 h0
  have hs : (bm = true → bl = false) ∧ (s ≤ 15) ∧ (bm = false → (s : Int) = if bl || b1 then 2 else if b0 then 0 else 14) := by
    cases bm <;> cases bl <;> cases b1 <;> cases b0 <;> simp_all <;> omega
  obtain ⟨hs1, hs2, hs3⟩ := hs
  have CM := Lib.hid cm; have CL := Lib.hid cl; have CS := Lib.hid cs
  have S1 := Lib.hid hs1; have S3 := Lib.hid hs3
  clear cm cl cs hsc hml hs1 hs3
  go_enter Tryd.func4, Tryd.ntmps4
  go_wp2_with fail
  refine (CM.out _).mono ?_
  rintro e w1 ⟨rfl, b1'⟩
  have k1 : bk w1 w.heap.size = some (.cells (List.map B l).toArray 23 (0, 0)) := bk_keep b1' (by simp) (bk_alloc_at _ _ _ rfl)
  have f1 : Below w.heap.size w w1 := ((Below.refl _ _).alloc (Nat.le_refl _) _).trans (b1'.mono (by simp))
  have s1 : w.heap.size + 1 ≤ w1.heap.size := by simpa using b1'.size
  clear b1'
  go_wp2_with fail
  refine (CL.out _).mono ?_
  rintro e w2 ⟨rfl, b2'⟩
  have k2 := bk_keep b2' (by omega) k1
  have f2 := f1.trans (b2'.mono (by omega))
  have s2 := Nat.le_trans s1 b2'.size
  clear b2' k1 s1
  go_wp2_with fail
  refine (CS.out _ (HG.out.below f2 hw0)).mono ?_
  rintro e w3 ⟨rfl, b3'⟩
  have k3 := bk_keep b3' (by omega) k2
  have f3 := f2.trans (b3'.mono (by omega))
  have s3 := Nat.le_trans s2 b3'.size
  clear b3' k2 s2 f1 f2
  cases bm
  case true =>
    obtain rfl := S1.out rfl
    have hd1 : decide ((s : Int) < 0) = false := by simp
    have hd2 : decide ((15 : Int) < (s : Int)) = false := by simp; omega
    go_wp2
    refine wp_region_later (w.heap.size + 1) (by kernel_rfl) (by kernel_rfl) ?_
    repeat (go_big_quiet_step (fail))
    (first | refine wpQuiet_nil ?_ | (go_big_quiet_want; (try go_big_quiet_op); trace_state; fail))
    intro _ hw'
    obtain ⟨⟨w4, q4⟩, rfl⟩ := hw'
    (try dsimp only)
    have f4 := f3.trans (q4.mono (by omega))
    have s4 := Nat.le_trans s3 q4.size
    go_wp2_with fail
    refine wp_region_later (w.heap.size + 1) (by kernel_rfl) (by kernel_rfl) ?_
    repeat (go_big_quiet_step (((rename_i xq; exact later_call xq s4 (lives_any xq.w (HG.out.below (f4.trans (xq.h.mono (by omega))) hw0))))))
    (first | refine wpQuiet_nil ?_ | (go_big_quiet_want; (try go_big_quiet_op); trace_state; fail))
    intro _ hw'
    obtain ⟨⟨w5, q5⟩, rfl⟩ := hw'
    (try dsimp only)
    go_wp2_with fail
    go_ret
    exact ⟨rfl, f4.trans (q5.mono (by omega))⟩
  case false =>
    have hsv := S3.out rfl
    rw [hsv]
    clear hsv S3 S1 hs2
    cases bl <;> cases b1 <;> cases b0
    all_goals
      simp only [Bool.or_true, Bool.or_false, Bool.false_eq_true, if_true, if_false]
      go_wp2_with fail
      refine wp_region_later (w.heap.size + 1) (by kernel_rfl) (by kernel_rfl) ?_
      repeat (go_big_quiet_step (((rename_i xq; exact later_call xq s3 (loopback_any xq.w (HG.out.below (f3.trans (xq.h.mono (by omega))) hw0))))))
      (first | refine wpQuiet_nil ?_ | (go_big_quiet_want; (try go_big_quiet_op); trace_state; fail))
      intro _ hw'
      obtain ⟨⟨w4, q4⟩, rfl⟩ := hw'
      (try dsimp only)
      have f4 := f3.trans (q4.mono (by omega))
      have s4 := Nat.le_trans s3 q4.size
      have k4 := bk_keep q4 (by omega) k3
      clear q4
      go_wp2_with fail
      refine wp_region_later (w.heap.size + 1) (by kernel_rfl) (by kernel_rfl) ?_
      repeat (go_big_quiet_step (((rename_i xq; first | (with_reducible exact later_call xq s4 (lives_any xq.w (HG.out.below (f4.trans (xq.h.mono (by omega))) hw0))) | (with_reducible exact later_call xq s4 (unspec_any xq.w (HG.out.below (f4.trans (xq.h.mono (by omega))) hw0)))))))
      (first | refine wpQuiet_nil ?_ | (go_big_quiet_want; (try go_big_quiet_op); trace_state; fail))
      intro _ hw'
      obtain ⟨⟨w5, q5⟩, rfl⟩ := hw'
      (try dsimp only)
      go_wp2_with fail
      go_ret
      exact ⟨rfl, f4.trans (q5.mono (by omega))⟩
end Go.Proofs.YtpjmpckddnjikaaDoor

/- The addresses' functions: scope. -/
import Derived.Test.YtcoonncedlbbkaaDoorA1
namespace Go.Proofs.YtcoonncedlbbkaaDoor
open Go.RowKit Ad
set_option maxRecDepth 100000
@[go_sem] theorem and15B (x : UInt8) : bits .and .u8 (x.toNat : Int) 15 = ((x.toNat % 16 : Nat) : Int) := by
  have h := x.toNat_lt
  have e : x.toNat &&& 15 = x.toNat % 16 := Nat.and_two_pow_sub_one_eq_mod x.toNat 4
  have := u8_and_nat x.toNat 15 (by omega) (by omega)
  rw [e] at this
  exact this
def scope (l : List UInt8) : Nat := if isMul l then (l.getD 1 0).toNat % 16 else if isLL l || l == knownA 1 then 2 else if l == knownA 0 then 0 else 14
theorem scope_any (l : List UInt8) (h : l.length = 16) (w : World) (hg : GK w) :
    Calls Tryd.prog 14 #[av l] w fun e w' => e = .returned (.int .i64 (scope l)) ∧ Below w.heap.size w w' := by
  have hfin : scope l = if isMul l then l[1].toNat % 16 else if isLL l || l == knownA 1 then 2 else if l == knownA 0 then 0 else 14 := by
    rw [scope]; simp [List.getD_eq_getElem?_getD, h]
  have HF := Lib.hid hfin; clear hfin
  have hw0 : 0 < w.heap.size := by obtain ⟨c, t, fr, h1, _⟩ := hg; exact bk_lt h1
  have HG := Lib.hid hg; clear hg
  have hq0 := eqAddr l (knownA 0) h rfl
  have hq1 := eqAddr l (knownA 1) h rfl
  unfold av
  go_enter Tryd.func14, Tryd.ntmps14
  obtain ⟨bm, hm⟩ : ∃ b, b = isMul l := ⟨_, rfl⟩
  obtain ⟨bl, hl⟩ : ∃ b, b = isLL l := ⟨_, rfl⟩
  obtain ⟨b1, h1⟩ : ∃ b, b = (l == knownA 1) := ⟨_, rfl⟩
  obtain ⟨b0, h0⟩ : ∃ b, b = (l == knownA 0) := ⟨_, rfl⟩
  have cm := isMul_any l h
  have cl := isLL_any l h
  rw [← hm] at cm; rw [← hl] at cl; rw [← h1] at hq1; rw [← h0] at hq0
  have HF : Hid (scope l = if bm then l[1].toNat % 16 else if bl || b1 then 2 else if b0 then 0 else 14) := by rw [hm, hl, h1, h0]; exact HF.out
  have CM := Lib.hid cm; have CL := Lib.hid cl
  clear hm hl h1 h0 cm cl
  go_wp2_with fail
  refine (CM.out _).mono ?_
  rintro e w1 ⟨rfl, hb1⟩
  have hb1w : Below w.heap.size w w1 := ((Below.refl _ _).alloc (Nat.le_refl _) _).trans (hb1.mono (by simp))
  have k1 : bk w1 w.heap.size = some (.cells (List.map B l).toArray 23 (0, 0)) := bk_keep hb1 (by simp) (bk_alloc_at _ _ _ rfl)
  have s1 : w.heap.size + 1 ≤ w1.heap.size := by simpa using hb1.size
  have c1 := bk_cell k1
  clear hb1
  cases bm
  case true =>
    go_wp2_with fail
    go_ret
    exact ⟨by rw [HF.out]; rfl, hb1w⟩
  go_wp2_with fail
  refine (CL.out _).mono ?_
  rintro e w2 ⟨rfl, hb2⟩
  have hb2w := hb1w.trans (hb2.mono (by omega))
  have k2 := bk_keep hb2 (by omega) k1
  have s2 := Nat.le_trans s1 hb2.size
  clear hb2 hb1w k1 s1 c1
  cases bl
  case true =>
    go_wp2_with fail
    go_ret
    exact ⟨by rw [HF.out]; rfl, hb2w⟩
  go_wp2_with fail
  refine wp_region_later (w.heap.size + 1) (by kernel_rfl) (by kernel_rfl) ?_
  repeat (go_big_quiet_step (((rename_i xq; exact later_call xq s2 (loopback_any xq.w (HG.out.below (hb2w.trans (xq.h.mono (by omega))) hw0))))))
  (first | refine wpQuiet_nil ?_ | (go_big_quiet_want; (try go_big_quiet_op); trace_state; fail))
  intro w3 hw'
  have q3 := later_elim hw'
  clear hw'
  have hb3w := hb2w.trans (q3.mono (by omega))
  have k3 := bk_keep q3 (by omega) k2
  have s3 := Nat.le_trans s2 q3.size
  clear q3 hb2w k2 s2
  cases b1
  case true =>
    go_wp2_with fail
    go_ret
    exact ⟨by rw [HF.out]; rfl, hb3w⟩
  go_wp2_with fail
  refine wp_region_later (w.heap.size + 1) (by kernel_rfl) (by kernel_rfl) ?_
  repeat (go_big_quiet_step (((rename_i xq; exact later_call xq s3 (unspec_any xq.w (HG.out.below (hb3w.trans (xq.h.mono (by omega))) hw0))))))
  (first | refine wpQuiet_nil ?_ | (go_big_quiet_want; (try go_big_quiet_op); trace_state; fail))
  intro w4 hw'
  have q4 := later_elim hw'
  clear hw'
  have hb4w := hb3w.trans (q4.mono (by omega))
  cases b0
  all_goals
    go_wp2_with fail
    go_ret
    exact ⟨by rw [HF.out]; rfl, hb4w⟩
end Go.Proofs.YtcoonncedlbbkaaDoor

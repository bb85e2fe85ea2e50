/- Selects, the law's own: the chapter's examples. -/
import Derived.Test.YtcoonncedlbbkaaDoorX14
namespace Go.Proofs.YtcoonncedlbbkaaDoor
open Go.RowKit Ad
set_option maxRecDepth 100000
set_option maxHeartbeats 2000000
def lv1 : Cd := ⟨[254, 128, 0, 0, 0, 0, 0, 0, 0, 0, 0, 0, 0, 0, 0, 1], false, false, rfl⟩
def lv2 : Cd := ⟨[32, 1, 13, 184, 0, 0, 0, 0, 0, 0, 0, 0, 0, 0, 0, 1], false, false, rfl⟩
def lv3 : Cd := ⟨[32, 1, 13, 184, 0, 0, 0, 0, 0, 0, 0, 0, 0, 0, 0, 2], false, true, rfl⟩
def lvC : Array Value := (List.map B lv1.a ++ [Value.bool false, Value.bool false] ++ List.map B lv2.a ++ [Value.bool false, Value.bool false] ++ List.map B lv3.a ++ [Value.bool false, Value.bool true]).toArray
theorem lvC_size : lvC.size = 54 := rfl
theorem lv_at : xt lvC 0 18 = lv1.row ∧ xt lvC 18 18 = lv2.row ∧ xt lvC 36 18 = lv3.row := by
  unfold Cd.row
  exact ⟨rfl, rfl, rfl⟩
theorem lv_adr : xt lvC 0 16 = (List.map B lv1.a).toArray ∧ xt lvC 36 16 = (List.map B lv3.a).toArray := ⟨rfl, rfl⟩
theorem lv_cs (w : World) : Cs (w.alloc (.cells lvC 33 (0, 0))) (w.heap.size + 1) (some ⟨w.heap.size, 0, none⟩) [lv1, lv2, lv3] := fun _ =>
  ⟨w.heap.size, 0, lvC, _, _, rfl, Nat.lt_succ_self _, bk_alloc_at _ _ _ rfl, fun j hj => by
    have h : j < 3 := hj
    rcases (show j = 0 ∨ j = 1 ∨ j = 2 by omega) with rfl | rfl | rfl
    · exact ⟨by rw [lvC_size]; omega, lv_at.1⟩
    · exact ⟨by rw [lvC_size]; omega, lv_at.2.1⟩
    · exact ⟨by rw [lvC_size]; omega, lv_at.2.2⟩⟩
def lvD : List UInt8 := [32, 1, 13, 184, 0, 0, 0, 0, 0, 0, 0, 0, 0, 0, 0, 9]
def lvE : List UInt8 := [254, 128, 0, 0, 0, 0, 0, 0, 0, 0, 0, 0, 0, 0, 0, 9]
def lvL : List UInt8 := [0, 0, 0, 0, 0, 0, 0, 0, 0, 0, 0, 0, 0, 0, 0, 1]
theorem lv_ch : choose lvD [lv1, lv2, lv3] = (lv3.a, true) ∧ choose lvE [lv1, lv2, lv3] = (lv1.a, true) ∧ choose zadr [] = (zadr, false) ∧ label lvL = 0 := by
  refine ⟨?_, ?_, ?_, ?_⟩ <;> decide +kernel
theorem lives23_any (w : World) (hk : GK w) : Calls Tryd.prog 6 #[] w fun e w' => e = .returned (.bool true) ∧ Below w.heap.size w w' := by
  have hw0 : 0 < w.heap.size := by obtain ⟨c, t, fr, h1, _⟩ := hk; exact bk_lt h1
  have HG : Hid (∀ w', Below w.heap.size w w' → GK w') := Lib.hid fun w' h => hk.below h hw0
  clear hk
  have bc : Below w.heap.size w (w.alloc (.cells lvC 33 (0, 0))) := (by (repeat (first | exact Below.refl _ _ | assumption | refine Below.drew ?_ | refine bdrewN ?_ _ | refine Below.alloc ?_ (by first | omega | (simp <;> omega) | (simp only [World.size_alloc] <;> omega)) _ | refine below_setRow ?_ (by first | omega | (simp <;> omega)) _ | refine Below.setCell ?_ (by first | omega | (simp <;> omega)) _)))
  have HC : Hid (∀ w', Below (w.heap.size + 1) (w.alloc (.cells lvC 33 (0, 0))) w' → Cs w' w'.heap.size (some ⟨w.heap.size, 0, none⟩) [lv1, lv2, lv3]) := Lib.hid fun w' h => ((lv_cs w).below h (Nat.le_refl _)).mono (by have := h.size; simpa using this)
  have HK : Hid (∀ w', Below (w.heap.size + 1) (w.alloc (.cells lvC 33 (0, 0))) w' → bk w' w.heap.size = some (.cells lvC 33 (0, 0))) := Lib.hid fun w' h => bk_keep h (by omega) (bk_alloc_at _ _ _ rfl)
  have HB : Hid (∀ w', Below (w.heap.size + 1) (w.alloc (.cells lvC 33 (0, 0))) w' → Below w.heap.size w w') := Lib.hid fun w' h => bc.trans (h.mono (by omega))
  have hz0 : (w.alloc (.cells lvC 33 (0, 0))).heap.size = w.heap.size + 1 := by simp
  have h3 : lv3.a.length = 16 := rfl
  have h1 : lv1.a.length = 16 := rfl
  clear bc
  go_enter Tryd.func6, Tryd.ntmps6
  go_wp2_with fail
  have C1 := choose_any lvD rfl (some ⟨w.heap.size, 0, none⟩) [lv1, lv2, lv3] 3 (w.alloc (.cells lvC 33 (0, 0))) (HG.out _ (HB.out _ (Below.refl _ _))) (HC.out _ (Below.refl _ _)) (Nat.le_refl _) (by decide)
  rw [lv_ch.1, hz0] at C1
  refine C1.mono ?_
  rintro e w1 ⟨rfl, b1⟩
  clear C1 hz0
  obtain ⟨q3, hq3⟩ : ∃ q, q = lv3.a := ⟨_, rfl⟩
  obtain ⟨q1, hq1⟩ : ∃ q, q = lv1.a := ⟨_, rfl⟩
  rw [← hq3] at h3 ⊢
  rw [← hq1] at h1
  have HQ := Lib.hid (And.intro hq1 hq3)
  clear hq1 hq3
  go_wp2_with fail
  have b2 := Lib.hid (b1.alloc (Nat.le_trans (by simp) b1.size) (.cells (List.map B q3).toArray 23 (0, 0)))
  have k2 := Lib.hid (bk_alloc_at w1 (.cells (List.map B q3).toArray 23 (0, 0)) _ rfl)
  clear b1
  generalize w1.alloc (.cells (List.map B q3).toArray 23 (0, 0)) = w2 at *
  generalize w1.heap.size = x1 at *
  have C2 := choose_any lvE rfl (some ⟨w.heap.size, 0, none⟩) [lv1, lv2, lv3] 3 w2 (HG.out _ (HB.out _ b2.out)) (HC.out _ b2.out) (Nat.le_refl _) (by decide)
  rw [lv_ch.2.1, ← HQ.out.1] at C2
  refine C2.mono ?_
  rintro e w3 ⟨rfl, b3⟩
  have bs3 : w.heap.size + 1 ≤ w2.heap.size := Nat.le_trans (by simp) b2.out.size
  have K3 := Lib.hid (bk_keep b3 (bk_lt k2.out) k2.out)
  have B3' := Lib.hid (b2.out.trans (b3.mono bs3))
  clear C2 b3 k2 b2 bs3
  go_wp2_with fail
  have hl3 := bk_lt K3.out
  have hs3 : w.heap.size + 1 ≤ w3.heap.size := Nat.le_trans (by simp) B3'.out.size
  have b4 := Lib.hid (B3'.out.alloc hs3 (.cells (List.map B q1).toArray 23 (0, 0)))
  have k4 := Lib.hid (bk_alloc_at w3 (.cells (List.map B q1).toArray 23 (0, 0)) _ rfl)
  have K4 := Lib.hid ((bk_alloc_past w3 (.cells (List.map B q1).toArray 23 (0, 0)) x1 hl3).trans K3.out)
  clear K3 B3' hl3 hs3
  generalize w3.alloc (.cells (List.map B q1).toArray 23 (0, 0)) = w4 at *
  generalize w3.heap.size = x3 at *
  have C3 := choose_any zadr rfl none [] 0 w4 (HG.out _ (HB.out _ b4.out)) (fun h => absurd rfl h) (Nat.le_refl _) (by decide)
  rw [lv_ch.2.2.1] at C3
  refine C3.mono ?_
  rintro e w5 ⟨rfl, b5⟩
  have bs5 : w.heap.size + 1 ≤ w4.heap.size := Nat.le_trans (by simp) b4.out.size
  have K5 := Lib.hid (bk_keep b5 (bk_lt k4.out) k4.out)
  have K6 := Lib.hid (bk_keep b5 (bk_lt K4.out) K4.out)
  have B5 := Lib.hid (b4.out.trans (b5.mono bs5))
  clear C3 b5 k4 K4 b4 bs5
  have hz : zadr.length = 16 := rfl
  go_upto_region 5 with fail
  have hs5 : w.heap.size + 1 ≤ w5.heap.size := Nat.le_trans (by simp) B5.out.size
  have b6 := Lib.hid (B5.out.alloc hs5 (.cells (List.map B zadr).toArray 23 (0, 0)))
  have l5 := bk_lt K5.out; have l6 := bk_lt K6.out
  have k5 := Lib.hid ((bk_alloc_past w5 (.cells (List.map B zadr).toArray 23 (0, 0)) x3 l5).trans K5.out)
  have k6 := Lib.hid ((bk_alloc_past w5 (.cells (List.map B zadr).toArray 23 (0, 0)) x1 l6).trans K6.out)
  clear K5 K6 B5 hs5 l5 l6
  generalize w5.alloc (.cells (List.map B zadr).toArray 23 (0, 0)) = w6 at *
  generalize w5.heap.size = x5 at *
  have v0 := HK.out _ b6.out; have v5 := k5.out; have v6 := k6.out
  have l0 := bk_lt v0; have l5 := bk_lt v5; have l6 := bk_lt v6
  have a1 : xt lvC 0 16 = (List.map B q1).toArray := by rw [HQ.out.1]; exact lv_adr.1
  have a3 : xt lvC 36 16 = (List.map B q3).toArray := by rw [HQ.out.2]; exact lv_adr.2
  have hcs := lvC_size
  have E1 := eqAddr q1 q1 h1 h1
  have E3 := eqAddr q3 q3 h3 h3
  have t1 : (q1 == q1) = true := by simp
  have t3 : (q3 == q3) = true := by simp
  rw [t1] at E1
  rw [t3] at E3
  have g6 := HG.out _ (HB.out _ b6.out)
  have CL : Hid (∀ w', Below w6.heap.size w6 w' → Calls Tryd.prog 10 #[.agg #[Value.int IntKind.u8 0, Value.int IntKind.u8 0, Value.int IntKind.u8 0, Value.int IntKind.u8 0, Value.int IntKind.u8 0, Value.int IntKind.u8 0, Value.int IntKind.u8 0, Value.int IntKind.u8 0, Value.int IntKind.u8 0, Value.int IntKind.u8 0, Value.int IntKind.u8 0, Value.int IntKind.u8 0, Value.int IntKind.u8 0, Value.int IntKind.u8 0, Value.int IntKind.u8 0, Value.int IntKind.u8 1]] w' fun e w2 => e = .returned (.int .i64 ((0 : Nat) : Int)) ∧ Below w'.heap.size w' w2) := Lib.hid fun w' h => by
    have := slabel_any lvL rfl w' (g6.below h (by omega))
    rw [lv_ch.2.2.2] at this
    exact this
  clear g6 t1 t3
  refine wp_region_later (w6.heap.size) (by kernel_rfl) (by kernel_rfl) ?_
  repeat (go_big_quiet_step (((rename_i xq; with_reducible exact later_call xq (Nat.le_refl _) (CL.out xq.w xq.h)))))
  (first | refine wpQuiet_nil ?_ | (go_big_quiet_want; (try go_big_quiet_op); trace_state; fail))
  intro w7 hw'
  have q7 := later_elim hw'
  clear hw'
  have B7 := Lib.hid (HB.out _ (b6.out.trans (q7.mono (by have := b6.out.size; simp at this; omega))))
  clear q7 v0 v5 v6
  go_wp2_with fail
  go_ret
  exact ⟨rfl, B7.out⟩
end Go.Proofs.YtcoonncedlbbkaaDoor

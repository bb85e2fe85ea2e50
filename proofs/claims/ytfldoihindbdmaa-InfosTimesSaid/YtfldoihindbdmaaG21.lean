/- InfosPlay: world.does where time passes. -/
import Derived.Test.YtfldoihindbdmaaG20
namespace Go.Proofs.Ytfldoihindbdmaa
open Go.RowKit
set_option maxRecDepth 100000
set_option maxHeartbeats 2000000
theorem run_len {nw : Nat} {c d : Cl} {l m : List Nat} {os : List (List UInt8)} (h : Run nw c l d m os) : ∀ r ∈ os, r.length = 34 := by
  induction h with
  | done => intro r h; simp at h
  | again _ _ _ _ _ _ _ _ _ _ ih => exact ih
  | ask c l d m os _ _ _ _ _ ih =>
    intro r h
    rcases List.mem_cons.1 h with rfl | h
    · exact (reqB_len _ _).2.2
    · exact ih r h
theorem does_tick (n x y m q now : Nat) (p : Option Addr) (c : Cl) (l : List Nat) (a : Ai) (w : World) (h : Wv w n x y p m q c l) (ha : AiOk w n a) (hn : now ≤ far) (hk0 : ¬ (a.kind.toNat : Int) % 5 = 0) (hk1 : ¬ (a.kind.toNat : Int) % 5 = 1) (hk2 : ¬ (a.kind.toNat : Int) % 5 = 2) :
    Calls Try.prog 21 #[.agg (wlC x y p q), .int .u64 (now : Int), .agg a.row] w (Does w n x y p m q) := by
  obtain ⟨nw, hnw⟩ : ∃ nw, nw = max now c.tm := ⟨_, rfl⟩
  have hnf : nw ≤ far := by have := h.inv.t64; omega
  obtain ⟨d, mm, os, hrun, hdi, hmm, hos⟩ := run_day c h.inv nw hnf l h.u32
  have hpx : ¬ WF p x := fun e => (h.pn x e).2.2.1 rfl
  have ST := Lib.hid h.st
  have CP : Hid (∀ W, Px W x p c l → Calls Try.prog 11 #[.pointer (some ⟨x, 0, none⟩), .int .u64 (now : Int), .pointer p] W fun e w' => ∃ A, e = .returned (.slice A os.length os.length) ∧ Got w' W.heap.size A os ∧ Px w' x p (d.goes nw) mm ∧ Tn (XF x p) W w') := Lib.hid fun W hW => by
    refine (ptick_any x c now p l W hW.cl hW.wd hpx hn d mm os (by rw [← hnw]; exact hrun) hos).mono ?_
    rintro e w' ⟨A, rfl, h1, h2, h3, h4⟩
    exact ⟨A, rfl, h1, ⟨by rw [hnw]; exact h2, h3⟩, h4⟩
  have CD : Hid (∀ W, Dy W y m q c l → Calls Try.prog 45 #[.pointer (some ⟨y, 0, none⟩), .int .u64 (now : Int), .pointer (some ⟨q, 0, none⟩)] W fun e w' => ∃ A cc, e = .returned (.slice A os.length cc) ∧ Got w' W.heap.size A os ∧ Dy w' y m q (d.goes nw) mm ∧ Tn (YF y q) W w') := Lib.hid fun W hW => by
    refine (rtick_any y q m c now l W hW.cl hW.wd ⟨ST.out.ym, ST.out.yq⟩ hn d mm os (by rw [← hnw]; exact hrun) hos).mono ?_
    rintro e w' ⟨A, cc, rfl, _, h1, h2, h3, h4⟩
    exact ⟨A, cc, rfl, h1, ⟨by rw [hnw]; exact h2, h3⟩, h4⟩
  have HI := Lib.hid (And.intro (goes_inv d hdi nw hnf) hmm)
  have HL := Lib.hid (run_len hrun)
  have HV := Lib.hid h
  have HNM := Lib.hid h.nm
  clear hrun hdi hmm h ha hn hnw hnf hpx
  generalize d.goes nw = c1 at CP CD HI
  obtain ⟨N, hN⟩ : ∃ N, N = os.length := ⟨_, rfl⟩
  rw [← hN] at CP CD hos
  have HN := Lib.hid hN
  obtain ⟨bx, hbx⟩ : ∃ b, b = w.heap.size := ⟨_, rfl⟩
  have HBX := Lib.hid hbx
  have hk5 : decide ((a.kind.toNat : Int) % 5 = 0) = false := by simpa using hk0
  have hk6 : decide ((a.kind.toNat : Int) % 5 = 1) = false := by simpa using hk1
  have hk7 : decide ((a.kind.toNat : Int) % 5 = 2) = false := by simpa using hk2
  have B2 : Hid (Below w.heap.size w ((w.alloc (.cells (wlC x y p q) 63)).alloc (.cells a.row 25))) := Lib.hid (((Below.refl _ _).alloc (Nat.le_refl _) _).alloc (by simp) _)
  have K2 : Hid (bk ((w.alloc (.cells (wlC x y p q) 63)).alloc (.cells a.row 25)) bx = some (.cells (wlC x y p q) 63 (0, 0))) := Lib.hid (by rw [hbx, bk_alloc_past _ _ _ (by simp)]; exact bk_alloc_at _ _ _ rfl)
  have A2 : Hid (bk ((w.alloc (.cells (wlC x y p q) 63)).alloc (.cells a.row 25)) (w.heap.size + 1) = some (.cells a.row 25 (0, 0))) := Lib.hid (bk_alloc_at _ _ _ (by simp))
  clear hbx hN
  go_enter Try.func21, Try.ntmps21
  go_upto_region 1 with fail
  rw [← HBX.out]
  rw [← HBX.out] at A2
  generalize (w.alloc (.cells (wlC x y p q) 63)).alloc (.cells a.row 25) = w2 at *
  have u0 : w2.cell? ⟨bx + 1, 0, none⟩ = some (.int .u8 (a.kind.toNat : Int)) := (bk_cell A2.out 0).trans rfl
  have V2 := Lib.hid (HV.out.below B2.out)
  have BN : Hid (Tn (DF x y q p) w w2) := Lib.hid (Tn.of B2.out)
  have HBXn : Hid (m ≤ bx ∧ bx < w2.heap.size) := Lib.hid ⟨by rw [HBX.out]; exact HNM.out.2, bk_lt K2.out⟩
  have FX : Hid (¬ XF x p bx) := Lib.hid fun e => by have h1 := HBXn.out.1; have h2 := ST.out.xm; rcases e with e | e; omega; have := ST.out.pn bx e; omega
  have FY : Hid (¬ YF y q bx) := Lib.hid fun e => by have h1 := HBXn.out.1; have h2 := ST.out.ym; have h3 := V2.out.wq.lt; rcases e with e | e <;> omega
  have NX : Hid (∀ k, XF x p k → n ≤ k) := Lib.hid fun k e => by
    rcases e with rfl | e
    · exact ST.out.xn
    · exact (ST.out.pn k e).1
  have NY : Hid (∀ k, YF y q k → n ≤ k ∧ k < w2.heap.size) := Lib.hid fun k e => by
    rcases e with rfl | rfl
    · exact ⟨ST.out.yn, bk_lt V2.out.cy.box⟩
    · exact ⟨ST.out.qn, by have := V2.out.wq.lt; have := V2.out.nm; omega⟩
  have z0 : w2.cell? ⟨bx, 0, none⟩ = some (.pointer (some ⟨x, 0, none⟩)) := (bk_cell K2.out 0).trans z0_rfl
  have z2 : w2.cell? ⟨bx, 2, none⟩ = some (.pointer p) := (bk_cell K2.out 2).trans z2_rfl
  clear HV B2 A2
  go_wp2_with fail
  refine (CP.out _ V2.out.px).mono ?_
  rintro e w3 ⟨A1, rfl, hg3, hp3, t3⟩
  have P3 := Lib.hid hp3; have G3 := Lib.hid hg3
  have D3 := Lib.hid (V2.out.dy.turn ST.out t3)
  have K3 := Lib.hid (t3.keep FX.out K2.out)
  have S3 : Hid (w2.heap.size ≤ w3.heap.size) := Lib.hid t3.size
  have B3 := Lib.hid (BN.out.dx t3)
  have z1 : w3.cell? ⟨bx, 1, none⟩ = some (.pointer (some ⟨y, 0, none⟩)) := (bk_cell K3.out 1).trans z1_rfl
  have z3 : w3.cell? ⟨bx, 3, none⟩ = some (.pointer (some ⟨q, 0, none⟩)) := (bk_cell K3.out 3).trans z3_rfl
  clear hg3 hp3 t3 K2 BN z0 z2 u0 CP
  go_wp2_with fail
  refine (CD.out _ D3.out).mono ?_
  rintro e w4 ⟨A2, cc, rfl, hg4, hd4, t4⟩
  have G4 := Lib.hid hg4
  have G3' := Lib.hid (G3.out.turn t4 fun k hk => (NY.out k hk).2)
  have V4 := Lib.hid (ST.out.wv (P3.out.turn ST.out t4) hd4 HI.out.1 HI.out.2)
  have K4 := Lib.hid (t4.keep FY.out K3.out)
  have B4 := Lib.hid (B3.out.dy t4)
  clear hg4 hd4 t4 K3 z1 z3 CD G3 P3 D3 B3
  go_wp2_with fail
  go_loopw [16] (fun iv wr => ∃ k : Nat, k ≤ N ∧ iv = .int .i64 (k : Int) ∧ Hid (Below w4.heap.size w4 wr)) (fun iv _ => N - (intOf iv).toNat)
  case atStart => exact ⟨0, by omega, rfl, Lib.hid (Below.refl _ _)⟩
  case round =>
    obtain ⟨k, hk, rfl, HB⟩ := hrel
    by_cases hlt : k < N
    · have d1 : decide ((k : Int) < (N : Int)) = true := by simp; omega
      have d2 : decide (k < N) = true := by simp; omega
      have hko : k < os.length := by rw [← HN.out]; exact hlt
      obtain ⟨b1, o1, E1, k1, rfl, _, hb1, hc1, hr1, _⟩ := (G3'.out.below HB.out) k hko
      obtain ⟨b2, o2, E2, k2, rfl, _, hb2, hc2, hr2, _⟩ := (G4.out.below HB.out) k hko
      have hl34 : os[k].length = 34 := HL.out _ (List.getElem_mem hko)
      rw [hl34] at hc1 hc2
      have CS : Hid (∀ xq : Later wr.heap.size wr, Calls Try.prog 46 #[.slice E1 34 k1, .slice E2 34 k2] xq.w fun e w' => e = .returned (.bool true) ∧ Below xq.w.heap.size xq.w w') := Lib.hid fun xq => by
        have := sameBytes_any E1 E2 os[k] os[k] k1 k2 xq.w ((hr1.below xq.h (Nat.le_refl _)).mono xq.h.size) ((hr2.below xq.h (Nat.le_refl _)).mono xq.h.size) (by rw [hl34]; decide) (by rw [hl34]; decide)
        rw [beq_self_eq_true, hl34] at this
        exact this
      clear hr1 hr2 hl34 hko
      go_wp2_with fail
      refine wp_region_later (wr.heap.size) (by kernel_rfl) (by kernel_rfl) ?_
      repeat (go_big_quiet_step (((rename_i xq; with_reducible exact later_call xq (Nat.le_refl _) (CS.out xq)))))
      (first | refine wpQuiet_nil ?_ | (go_big_quiet_want; (try go_big_quiet_op); trace_state; fail))
      intro w6 hw'
      have q6 := later_elim hw'
      clear hw'
      have HB6 := Lib.hid (HB.out.trans (q6.mono HB.out.size))
      clear q6 CS
      go_wp2_with fail
      go_roundw
      case rel => exact ⟨k + 1, by omega, by go_num, HB6⟩
      case measure => simp [intOf]; omega
    · have d1 : decide ((k : Int) < (N : Int)) = false := by simp; omega
      obtain rfl : k = N := by omega
      have V8 := Lib.hid (V4.out.below HB.out)
      have K8 := Lib.hid (bk_keep HB.out (bk_lt K4.out) K4.out)
      have B8 := Lib.hid (B4.out.next HB.out)
      clear hlt
      go_upto_region 31 with fail
      have l8 := bk_lt (K8).out
      have z0 : (wr).cell? ⟨bx, 0, none⟩ = some (.pointer (some ⟨x, 0, none⟩)) := (bk_cell (K8).out 0).trans rfl
      have z1 : (wr).cell? ⟨bx, 1, none⟩ = some (.pointer (some ⟨y, 0, none⟩)) := (bk_cell (K8).out 1).trans rfl
      have z2 : (wr).cell? ⟨bx, 2, none⟩ = some (.pointer p) := (bk_cell (K8).out 2).trans rfl
      have z3 : (wr).cell? ⟨bx, 3, none⟩ = some (.pointer (some ⟨q, 0, none⟩)) := (bk_cell (K8).out 3).trans rfl
      have ly8 := bk_lt (V8).out.cy.box
      have z6 := bk_cell (V8).out.cy.box 6
      have CE := Lib.hid (fin_calls (V8).out)
      simp [rcC] at z6
      refine wp_region_later ((wr).heap.size) (by kernel_rfl) (by kernel_rfl) ?_
      repeat (go_big_quiet_step (((rename_i xq; first | (with_reducible exact later_call xq (Nat.le_refl _) (CE.out xq.w xq.h).1) | (with_reducible exact later_call xq (Nat.le_refl _) (CE.out xq.w xq.h).2.1) | (with_reducible exact later_call xq (Nat.le_refl _) (CE.out xq.w xq.h).2.2.1) | (with_reducible exact later_call xq (Nat.le_refl _) (CE.out xq.w xq.h).2.2.2.1) | (with_reducible exact later_call xq (Nat.le_refl _) (CE.out xq.w xq.h).2.2.2.2)))))
      (first | refine wpQuiet_nil ?_ | (go_big_quiet_want; (try go_big_quiet_op); trace_state; fail))
      intro w9 hw'
      have q9 := later_elim hw'
      clear hw'
      have FZ := Lib.hid (And.intro ((V8).out.below q9) ((B8).out.next q9))
      clear q9 z0 z1 z2 z3 z6 CE
      go_wp2_with fail
      go_ret
      exact ⟨rfl, _, _, FZ.out⟩
end Go.Proofs.Ytfldoihindbdmaa

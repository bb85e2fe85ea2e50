/- Streams: an end of writing: what is cut. -/
import Derived.Test.YtjnfdpakpdahkaaZ11
namespace Go.Proofs.Ytjnfdpakpdahkaa
open Go.RowKit
set_option maxRecDepth 100000
set_option maxHeartbeats 1000000
def On.cuts (o : On) (d : Nat) (most : Int) : Nat := min (o.b.length - d) most.toNat
theorem ocut_any (n x : Nat) (v : Value) (o : On) (w : World) (h : OutB w n x v o) (a : Nat) (ha : a < m32) (hd : dist a o.first ≤ o.b.length) (most : Int) :
    Calls Try.prog 22 #[.pointer (some ⟨x, 0, none⟩), .int .u32 (a : Int), .int .i64 most] w fun r w' => ∃ A, r = .returned (.tuple #[.slice A (o.cuts (dist a o.first) most) (o.cuts (dist a o.first) most), .bool (o.ended && !o.acked && (dist a o.first + o.cuts (dist a o.first) most == o.b.length))]) ∧
      Rd w' w'.heap.size A ((o.b.drop (dist a o.first)).take (o.cuts (dist a o.first) most)) ∧ Below w.heap.size w w' := by
  have C := there_later h
  have CS := span_later h
  have HI := Lib.hid h
  have hrm := h.room
  obtain ⟨d, hdd⟩ : ∃ d, d = dist a o.first := ⟨_, rfl⟩
  have hD : ((a : Int) - (o.first : Int)) % 4294967296 = (d : Int) := by
    have := h.f32
    subst hdd
    unfold dist m32 at *
    omega
  rw [← hdd] at hd ⊢
  obtain ⟨sp, hsp⟩ : ∃ sp, sp = o.span := ⟨_, rfl⟩
  have hspd : d ≤ sp := by subst hsp; unfold On.span; omega
  rw [← hsp] at CS
  have hg : ¬ (sp : Int) < (d : Int) := by omega
  have hg' : decide ((d : Int) > (sp : Int)) = false := by simp; omega
  obtain ⟨N, hN⟩ : ∃ N, N = o.cuts d most := ⟨_, rfl⟩
  rw [← hN]
  obtain ⟨M, hM⟩ : ∃ M, M = most.toNat := ⟨_, rfl⟩
  have hmx : (if (0 : Int) < most then most else 0) = (M : Int) := by subst hM; split <;> omega
  obtain ⟨A0, k0, hv, hrd, hA0, hle⟩ := Rd.of_own h.row rfl
  subst hv
  obtain ⟨L, hL⟩ : ∃ L, L = o.b.length := ⟨_, rfl⟩
  have hmn : (if (M : Int) < (L : Int) - (d : Int) then (M : Int) else (L : Int) - (d : Int)) = (N : Int) := by
    subst hN
    unfold On.cuts
    rw [← hM, ← hL, Nat.min_def]
    split <;> split <;> omega
  obtain ⟨T, hT⟩ : ∃ T, T = d + N := ⟨_, rfl⟩
  have hNL : N ≤ L - d := by subst hN; unfold On.cuts; omega
  rw [← hL] at hd hrm hle
  have hTI : (d : Int) + (N : Int) = (T : Int) := by omega
  have hTd : T - d = N := by omega
  have hmin1 : (if (L : Int) < (d : Int) then (L : Int) else (d : Int)) = (d : Int) := by split <;> omega
  have hdT : (d : Int) ≤ (T : Int) := by omega
  have hTk : (T : Int) ≤ (k0 : Int) := by omega
  have hdL : decide ((d : Int) ≤ (L : Int)) = true := by simp; omega
  obtain ⟨q, hq⟩ : ∃ q, q = (T == L) := ⟨_, rfl⟩
  have hqI : ((T : Int) == (L : Int)) = q := by rw [hq]; exact Bool.eq_iff_iff.2 (by simp only [beq_iff_eq]; omega)
  have hqI' : decide ((T : Int) = (L : Int)) = q := by rw [← hqI]; rfl
  obtain ⟨en, hen⟩ : ∃ en, en = o.ended := ⟨_, rfl⟩
  obtain ⟨ac, hac⟩ : ∃ ac, ac = o.acked := ⟨_, rfl⟩
  rw [← hT, ← hL, ← hq, ← hen, ← hac]
  have hll : ((o.b.drop d).take N).length = N := by rw [List.length_take, List.length_drop]; omega
  have CC : Hid (∀ (w2 : World) (A : Option Addr) (c : Nat), Below w.heap.size w w2 → Rd w2 w2.heap.size A ((o.b.drop d).take N) → (A = none → (o.b.drop d).take N = [] ∧ c = 0) → Calls Try.prog 41 #[.slice A N c] w2 fun e w' => ∃ v, e = .returned v ∧ w'.ownsRow w2.heap.size 5 1 v N (((o.b.drop d).take N).map B) ∧ Below w2.heap.size w2 w') := Lib.hid fun w2 A c hb hr hA => by
    have := clone_both A ((o.b.drop d).take N) c w2 hr hA (by omega)
    rwa [hll] at this
  have HT := Lib.hid hNL
  have HRD := Lib.hid hrd
  have HA := Lib.hid hA0
  have HL := Lib.hid hL.symm
  have BX := Lib.hid h.box
  have HEN := Lib.hid hen; have HAC := Lib.hid hac
  have c0 := bk_cell h.box 0
  have c1 := bk_cell h.box 1
  have c2 := bk_cell h.box 2
  have c3 := bk_cell h.box 3
  simp only [outC, ← hL, ← hen, ← hac] at c0 c1 c2 c3
  simp at c0 c1 c2 c3
  have lx := bk_lt h.box
  clear h hdd hsp hrd hA0 hL hN hM hT hq hen hac hll
  go_enter Try.func22, Try.ntmps22
  go_upto_region 1 with fail
  refine wp_region_later (w.heap.size) (by kernel_rfl) (by kernel_rfl) ?_
  repeat (go_big_quiet_step ((rename_i xq; first | exact later_call xq (Nat.le_refl _) (C.out xq.w xq.h) | exact later_call xq (Nat.le_refl _) (CS.out xq.w xq.h))))
  (first | refine wpQuiet_nil ?_ | (go_big_quiet_want; (try go_big_quiet_op); trace_state; fail))
  intro w0 hw'
  have b0 := later_elim hw'
  clear hw'
  clear C CS c0 c1 c2 c3
  have lx := Nat.lt_of_lt_of_le (bk_lt BX.out) (Below.size b0)
  have c0 := bk_cell (bk_keep b0 (bk_lt BX.out) BX.out) 0
  have c1 := bk_cell (bk_keep b0 (bk_lt BX.out) BX.out) 1
  have c2 := bk_cell (bk_keep b0 (bk_lt BX.out) BX.out) 2
  have c3 := bk_cell (bk_keep b0 (bk_lt BX.out) BX.out) 3
  simp only [outC, HL.out, ← HEN.out, ← HAC.out] at c0 c1 c2 c3
  simp at c0 c1 c2 c3
  go_upto_region 3 with fail
  refine wp_region_later (w0.heap.size) (by kernel_rfl) (by kernel_rfl) ?_
  repeat (go_big_quiet_step ((fail)))
  (first | refine wpQuiet_nil ?_ | (go_big_quiet_want; (try go_big_quiet_op); trace_state; fail))
  intro w1 hw'
  have b1 := later_elim hw'
  clear hw'
  clear c0 c1 c2 c3
  have b1' := b0.trans (b1.mono b0.size)
  have lx := Nat.lt_of_lt_of_le (bk_lt BX.out) (Below.size b1')
  have c0 := bk_cell (bk_keep b1' (bk_lt BX.out) BX.out) 0
  have c1 := bk_cell (bk_keep b1' (bk_lt BX.out) BX.out) 1
  have c2 := bk_cell (bk_keep b1' (bk_lt BX.out) BX.out) 2
  have c3 := bk_cell (bk_keep b1' (bk_lt BX.out) BX.out) 3
  simp only [outC, HL.out, ← HEN.out, ← HAC.out] at c0 c1 c2 c3
  simp at c0 c1 c2 c3
  go_upto_region 5 with fail
  have HB1 := Lib.hid b1'
  clear b0 b1 b1'
  cases en <;> cases ac <;> cases q
  all_goals
    refine wp_region_later (w1.heap.size) (by kernel_rfl) (by kernel_rfl) ?_
    repeat (go_big_quiet_step ((fail)))
    (first | refine wpQuiet_nil ?_ | (go_big_quiet_want; (try go_big_quiet_op); trace_state; fail))
    intro w2 hw'
    have b2 := later_elim hw'
    clear hw'
    clear c0 c1 c2 c3
    have B1 := Lib.hid (HB1.out.trans (b2.mono HB1.out.size))
    have b2' := B1.out
    have lx := Nat.lt_of_lt_of_le (bk_lt BX.out) (Below.size b2')
    have c0 := bk_cell (bk_keep b2' (bk_lt BX.out) BX.out) 0
    have c1 := bk_cell (bk_keep b2' (bk_lt BX.out) BX.out) 1
    have c2 := bk_cell (bk_keep b2' (bk_lt BX.out) BX.out) 2
    have c3 := bk_cell (bk_keep b2' (bk_lt BX.out) BX.out) 3
    simp only [outC, HL.out, ← HEN.out, ← HAC.out] at c0 c1 c2 c3
    simp at c0 c1 c2 c3
    clear b2 b2' HB1
    go_wp2_with fail
    · refine (CC.out w2 _ _ B1.out (fun h0 => ?_) (fun h0 => ?_)).mono ?_
      · rw [List.length_take, List.length_drop] at h0
        have := HL.out
        omega
      · obtain ⟨h1, h2⟩ := HA.out h0
        rw [h1]
        simp
      · skip
        rintro r w3 ⟨u, rfl, ho, hb⟩
        obtain ⟨A4, c4, hv4, hr4, hA4, hc4⟩ := Rd.of_own ho (by rw [List.length_take, List.length_drop, HL.out]; have := HT.out; omega)
        rw [List.length_take, List.length_drop, HL.out, Nat.min_eq_left (by have := HT.out; omega)] at hv4 hc4
        have CL := Lib.hid (clip_any A4 N c4 hc4 w3)
        have B3 := Lib.hid (B1.out.trans (hb.mono B1.out.size))
        have HR4 := Lib.hid hr4
        clear ho hb CC hr4 hA4
        subst hv4
        go_wp2_with fail
        refine (CL.out).mono ?_
        rintro e w4 ⟨rfl, b4⟩
        go_wp2_with fail
        go_ret2
        exact ⟨A4, rfl, (HR4.out.below b4 (Nat.le_refl _)).mono b4.size, B3.out.trans (b4.mono B3.out.size)⟩
    · refine (CC.out w2 _ _ B1.out ?_ (fun h0 => ?_)).mono ?_
      · have := HRD.out.adv (c := k0) (m := d) (by have := HL.out; omega)
        unfold adv at this
        rw [if_neg (by assumption)] at this
        exact (this.take.below B1.out (Nat.le_refl _)).mono B1.out.size
      · have h1 := HA.out (by simpa using h0)
        have h2 := HL.out
        rw [h1.1] at h2
        simp at h2
        omega
      · skip
        rintro r w3 ⟨u, rfl, ho, hb⟩
        obtain ⟨A4, c4, hv4, hr4, hA4, hc4⟩ := Rd.of_own ho (by rw [List.length_take, List.length_drop, HL.out]; have := HT.out; omega)
        rw [List.length_take, List.length_drop, HL.out, Nat.min_eq_left (by have := HT.out; omega)] at hv4 hc4
        have CL := Lib.hid (clip_any A4 N c4 hc4 w3)
        have B3 := Lib.hid (B1.out.trans (hb.mono B1.out.size))
        have HR4 := Lib.hid hr4
        clear ho hb CC hr4 hA4
        subst hv4
        go_wp2_with fail
        refine (CL.out).mono ?_
        rintro e w4 ⟨rfl, b4⟩
        go_wp2_with fail
        go_ret2
        exact ⟨A4, rfl, (HR4.out.below b4 (Nat.le_refl _)).mono b4.size, B3.out.trans (b4.mono B3.out.size)⟩
end Go.Proofs.Ytjnfdpakpdahkaa

/- EthersBack, walked. -/
import Derived.Test.YtdmmfffoikelgaaE10
namespace Go.Proofs.Ytdmmfffoikelgaa
open Go.RowKit
set_option maxRecDepth 100000
set_option maxHeartbeats 1000000 in
theorem ethersBack_walk (d s : List UInt8) (k : Nat) (A : Option Addr) (l : List UInt8) (c : Nat) (x : UInt8) (w : World) (hd : d.length = 6) (hs : s.length = 6) (hk : k < 65536) (h : Rd w w.heap.size A l) (hA : A = none → l = [] ∧ c = 0) (hl : l.length ≤ 5000) :
    Calls Try.prog 6 #[.agg (frc d s k A l.length c), B x] w fun e w' => e = .returned (.bool true) ∧ Below w.heap.size w w' := by
  have H := Lib.hid h; have HA := Lib.hid hA
  have d1 : decide (5000 < (l.length : Int)) = false := by simp; omega
  have d2 : decide (5000 < l.length) = false := by simp; omega
  have hfl := frb_length d s k l hd hs
  obtain ⟨p, hp⟩ : ∃ p, p = x.toNat % 14 := ⟨_, rfl⟩
  have hp14 : p < 14 := by omega
  have hm : (x.toNat : Int).tmod 14 = (p : Int) := by rw [Int.tmod_eq_emod_of_nonneg (by omega)]; omega
  have hm' : (x.toNat : Int) % 14 = (p : Int) := by omega
  have w14 : IntKind.i64.wrap (14 + (l.length : Int)) = 14 + (l.length : Int) := by rw [IntKind.wrap_i64]; omega
  have HP := Lib.hid hp
  clear h hA hp
  go_enter Try.func6, Try.ntmps6
  have a0 : Below w.heap.size w (w.alloc (.cells (frc d s k A l.length c) 27)) := (Below.refl _ _).alloc (Nat.le_refl _) _
  have k0 : bk (w.alloc (.cells (frc d s k A l.length c) 27)) w.heap.size = some (.cells (frc d s k A l.length c) 27 (0, 0)) := bk_alloc_at _ _ _ rfl
  have K0 := Lib.hid k0
  clear k0
  go_wp2_with fail
  have hlt0 : w.heap.size < (w.alloc (.cells (frc d s k A l.length c) 27)).heap.size := by simp
  refine (eput_any d s k A l c _ hd hs hk ((H.out.below a0 (Nat.le_refl _)).mono a0.size) HA.out (by omega)).mono ?_
  rintro e w1 ⟨v, rfl, ho, b1⟩
  obtain ⟨A1, c1, rfl, hR1, hN1, hC1⟩ := Rd.of_own ho rfl
  have f1 := a0.trans (b1.mono a0.size)
  have k1 := bk_keep b1 hlt0 K0.out
  have c13 := (bk_cell k1 13).trans (frc_body hd hs)
  have HR1 := Lib.hid hR1; have HN1 := Lib.hid hN1; have F1 := Lib.hid f1; have K1 := Lib.hid k1
  have s1 : w.heap.size < w1.heap.size := bk_lt k1
  have hc14 : 14 ≤ c1 := by omega
  have hpc : p ≤ c1 := by omega
  have HC1 := Lib.hid hC1
  clear ho hR1 hN1 hC1 b1 f1 a0 k1 K0
  rw [hfl]
  go_wp2_with fail
  refine (eget_short A1 p c1 w1 hp14).mono ?_
  rintro e w2 ⟨rfl, b2⟩
  have f2 := F1.out.trans (b2.mono F1.out.size)
  have k2 := bk_keep b2 s1 K1.out
  have s2 : w.heap.size < w2.heap.size := bk_lt k2
  have c13 := (bk_cell k2 13).trans (frc_body hd hs)
  have HR2 := Lib.hid ((HR1.out.below b2 (Nat.le_refl _)).mono b2.size)
  have F2 := Lib.hid f2; have K2 := Lib.hid k2
  clear b2 f2 k2 F1 K1 HR1
  unfold zfr
  go_wp2_with fail
  have a3 := (Below.refl w2.heap.size w2).alloc (Nat.le_refl _) (.cells (frc [0, 0, 0, 0, 0, 0] [0, 0, 0, 0, 0, 0] 0 none 0 0) 27 (0, 0))
  have f3 := F2.out.trans (a3.mono F2.out.size)
  have k3 := bk_keep a3 s2 K2.out
  have CG := eget_any A1 (frb d s k l) c1 _ ((HR2.out.below a3 (Nat.le_refl _)).mono a3.size) HN1.out
  rw [hfl, gE_frb _ _ _ _ hd hs] at CG
  refine CG.mono ?_
  clear CG
  rintro e w4 ⟨A4, rfl, hG4, b4⟩
  have f4 := f3.trans (b4.mono f3.size)
  have k4 := bk_keep b4 (bk_lt k3) k3
  have s4 : w.heap.size < w4.heap.size := bk_lt k4
  have c13 := (bk_cell k4 13).trans (frc_body hd hs)
  have HG4 := Lib.hid hG4; have F4 := Lib.hid f4
  clear hG4 f4 b4 a3 f3 k3 F2 K2 HR2
  have a5 := fun n => (Below.refl w4.heap.size w4).alloc (Nat.le_refl _) (.cells n 27 (0, 0))
  by_cases hg : l.length ≤ 1500
  · obtain ⟨e1, e2, e3, e4⟩ := got_put d s k l hd hs hk hg
    have hgr := HG4.out.rd
    rw [e4] at hgr
    have HGR := Lib.hid hgr
    rw [e1, e2, e3, e4, if_pos hg]
    have dd : decide ((l.length : Int) ≤ 1500) = true := by simp; omega
    clear e1 e2 e3 e4 hgr HG4
    go_wp2_with fail
    have a5' := a5 (frc d s k A4 l.length l.length)
    have f5 := F4.out.trans (a5'.mono F4.out.size)
    refine (sameFrame_any d s d s k k A4 A l l l.length c _ hd hs hd hs ((HGR.out.below a5' (Nat.le_refl _)).mono a5'.size) ((H.out.below f5 (Nat.le_refl _)).mono f5.size) (by omega) (by omega)).mono ?_
    rintro e w6 ⟨rfl, b6⟩
    simp only [beq_self_eq_true, decide_true, Bool.and_true]
    have f6 := f5.trans (b6.mono f5.size)
    clear b6
    go_wp2_with fail
    refine (lives8_any _).mono ?_
    rintro e w7 ⟨rfl, b7⟩
    have f7 := f6.trans (b7.mono f6.size)
    clear b7
    go_wp2_with fail
    go_ret
    exact ⟨rfl, f7⟩
  · have hgb : gB (frb d s k l) = false := by rw [gB_frb _ _ _ _ hd hs]; simpa using hg
    have e1 : gD (frb d s k l) = List.replicate 6 0 := by simp [gD, hgb]
    have e2 : gS (frb d s k l) = List.replicate 6 0 := by simp [gS, hgb]
    have e3 : gK (frb d s k l) = 0 := by simp [gK, hgb]
    have e4 : gR (frb d s k l) = [] := by simp [gR, hgb]
    rw [e1, e2, e3, e4, if_neg hg]
    have dd : decide ((l.length : Int) ≤ 1500) = false := by simp; omega
    clear e1 e2 e3 e4 hgb
    go_wp2_with fail
    have a5' := a5 (frc [0, 0, 0, 0, 0, 0] [0, 0, 0, 0, 0, 0] 0 A4 0 0)
    have f5 := F4.out.trans (a5'.mono F4.out.size)
    refine (sameFrame_any [0, 0, 0, 0, 0, 0] [0, 0, 0, 0, 0, 0] [0, 0, 0, 0, 0, 0] [0, 0, 0, 0, 0, 0] 0 0 A4 none [] [] 0 0 _ rfl rfl rfl rfl Rd.nil Rd.nil (by simp) (by simp)).mono ?_
    rintro e w6 ⟨rfl, b6⟩
    simp only [beq_self_eq_true, decide_true, Bool.and_true]
    have f6 := f5.trans (b6.mono f5.size)
    clear b6
    go_wp2_with fail
    refine (lives8_any _).mono ?_
    rintro e w7 ⟨rfl, b7⟩
    have f7 := f6.trans (b7.mono f6.size)
    clear b7
    go_wp2_with fail
    go_ret
    exact ⟨rfl, f7⟩
theorem ethersBack_long (d s : List UInt8) (k : Nat) (A : Option Addr) (n c : Nat) (x : UInt8) (w : World) (hd : d.length = 6) (hs : s.length = 6) (hl : 5000 < n) (h63 : n < 2 ^ 63) :
    Calls Try.prog 6 #[.agg (frc d s k A n c), B x] w fun e w' => e = .returned (.bool true) ∧ Below w.heap.size w w' := by
  have d1 : decide (5000 < (n : Int)) = true := by simp; omega
  have d2 : decide (5000 < n) = true := by simp; omega
  go_enter Try.func6, Try.ntmps6
  have a0 : Below w.heap.size w (w.alloc (.cells (frc d s k A n c) 27)) := (Below.refl _ _).alloc (Nat.le_refl _) _
  go_wp2_with fail
  refine (lives8_any _).mono ?_
  rintro e w1 ⟨rfl, b1⟩
  have f1 := a0.trans (b1.mono a0.size)
  clear b1 a0
  go_wp2_with fail
  go_ret
  exact ⟨rfl, f1⟩
end Go.Proofs.Ytdmmfffoikelgaa

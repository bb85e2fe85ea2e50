/- EthersBack, EthersOnly: plain laws; EthersOnly, walked. -/
import Derived.Test.YtdmmfffoikelgaaE8
import Derived.Test.YtdmmfffoikelgaaE3
namespace Go.Proofs.Ytdmmfffoikelgaa
open Go.RowKit
set_option maxRecDepth 100000
theorem gB_frb (d s : List UInt8) (k : Nat) (l : List UInt8) (hd : d.length = 6) (hs : s.length = 6) : gB (frb d s k l) = decide (l.length ≤ 1500) := by
  unfold gB
  rw [frb_length _ _ _ _ hd hs, Bool.eq_iff_iff]
  simp
  omega
theorem gE_frb (d s : List UInt8) (k : Nat) (l : List UInt8) (hd : d.length = 6) (hs : s.length = 6) : gE (frb d s k l) = if l.length ≤ 1500 then 0 else 3 := by
  unfold gE
  rw [frb_length _ _ _ _ hd hs, if_neg (by omega)]
  by_cases h : l.length ≤ 1500
  · rw [if_pos h, if_neg (by omega)]
  · rw [if_neg h, if_pos (by omega)]
theorem frb_d (d s : List UInt8) (k : Nat) (l : List UInt8) (hd : d.length = 6) : (frb d s k l).take 6 = d := by
  unfold frb; rw [List.append_assoc, List.append_assoc, List.take_append_of_le_length (by omega), List.take_of_length_le (by omega)]
theorem frb_s (d s : List UInt8) (k : Nat) (l : List UInt8) (hd : d.length = 6) (hs : s.length = 6) : ((frb d s k l).drop 6).take 6 = s := by
  unfold frb; rw [List.append_assoc, List.append_assoc, List.drop_append_of_le_length (by omega), List.drop_of_length_le (by omega), List.nil_append, List.take_append_of_le_length (by omega), List.take_of_length_le (by omega)]
theorem frb_k (d s : List UInt8) (k : Nat) (l : List UInt8) (hd : d.length = 6) (hs : s.length = 6) : ((frb d s k l).drop 12).take 2 = nb 2 k := by
  unfold frb; rw [List.append_assoc, List.drop_append_of_le_length (by simp [hd, hs]), List.drop_of_length_le (by simp [hd, hs]), List.nil_append, List.take_append_of_le_length (by rw [nb_length]; omega), List.take_of_length_le (by rw [nb_length]; omega)]
theorem frb_l (d s : List UInt8) (k : Nat) (l : List UInt8) (hd : d.length = 6) (hs : s.length = 6) : (frb d s k l).drop 14 = l := by
  unfold frb; rw [List.drop_append_of_le_length (by simp [hd, hs, nb_length]), List.drop_of_length_le (by simp [hd, hs, nb_length]), List.nil_append]
theorem got_put (d s : List UInt8) (k : Nat) (l : List UInt8) (hd : d.length = 6) (hs : s.length = 6) (hk : k < 65536) (hl : l.length ≤ 1500) :
    gD (frb d s k l) = d ∧ gS (frb d s k l) = s ∧ gK (frb d s k l) = k ∧ gR (frb d s k l) = l := by
  have hg : gB (frb d s k l) = true := by rw [gB_frb _ _ _ _ hd hs]; simpa using hl
  refine ⟨by rw [gD, if_pos hg, frb_d _ _ _ _ hd], by rw [gS, if_pos hg, frb_s _ _ _ _ hd hs], ?_, by rw [gR, if_pos hg, frb_l _ _ _ _ hd hs]⟩
  rw [gK, if_pos hg, frb_k _ _ _ _ hd hs, nb2]
  simp only [val, List.foldl_cons, List.foldl_nil, UInt8.toNat_ofNat']
  omega
theorem put_got (l : List UInt8) (h : gB l = true) : frb (gD l) (gS l) (gK l) (gR l) = l := by
  obtain ⟨h1, h2⟩ := gB_len h
  rw [gD, gS, gK, gR, if_pos h, if_pos h, if_pos h, if_pos h]
  unfold frb
  have hn : nb 2 (val ((l.drop 12).take 2)) = (l.drop 12).take 2 := by
    rw [List.drop_eq_getElem_cons (by omega), List.drop_eq_getElem_cons (by omega)]
    simp only [List.take_succ_cons, List.take_zero, val, List.foldl_cons, List.foldl_nil]
    rw [nb2]
    congr 1
    · apply UInt8.toNat.inj
      rw [UInt8.toNat_ofNat']
      have := (l[12]).toNat_lt
      have := (l[12 + 1]).toNat_lt
      omega
    · congr 1
      apply UInt8.toNat.inj
      rw [UInt8.toNat_ofNat']
      have := (l[12]).toNat_lt
      have := (l[12 + 1]).toNat_lt
      omega
  rw [hn]
  conv => rhs; rw [← List.take_append_drop 6 l, ← List.take_append_drop 6 (l.drop 6), List.drop_drop, ← List.take_append_drop 2 (l.drop (6 + 6)), List.drop_drop]
  simp [List.append_assoc]
set_option maxHeartbeats 1000000 in
theorem ethersOnly_walk (A : Option Addr) (l : List UInt8) (c : Nat) (w : World) (h : Rd w w.heap.size A l) (hA : A = none → l = [] ∧ c = 0) (hl : l.length ≤ 5000) :
    Calls Try.prog 7 #[.slice A l.length c] w fun e w' => e = .returned (.bool true) ∧ Below w.heap.size w w' := by
  have H := Lib.hid h
  have d1 : decide (5000 < (l.length : Int)) = false := by simp; omega
  have d2 : decide (5000 < l.length) = false := by simp; omega
  have hgd := gD_len l
  have hgs := gS_len l
  have hgr := gR_len l
  have hgk := gK_lt l
  have HG := Lib.hid (eget_any A l c w h hA)
  clear h hA
  go_enter Try.func7, Try.ntmps7
  go_wp2_with fail
  refine HG.out.mono ?_
  rintro e w1 ⟨A1, rfl, hG1, b1⟩
  have HG1 := Lib.hid hG1; have F1 := Lib.hid b1
  clear hG1 b1
  cases hb : gB l
  · have e1 : gD l = List.replicate 6 0 := by simp [gD, hb]
    have e2 : gS l = List.replicate 6 0 := by simp [gS, hb]
    have e3 : gK l = 0 := by simp [gK, hb]
    have e4 : gR l = [] := by simp [gR, hb]
    have R1 : Hid (Rd w1 w1.heap.size A1 []) := Lib.hid (by have := HG1.out.rd; rwa [e4] at this)
    rw [e1, e2, e3, e4]
    have a2 := (Below.refl w1.heap.size w1).alloc (Nat.le_refl _) (.cells (frc [0, 0, 0, 0, 0, 0] [0, 0, 0, 0, 0, 0] 0 A1 0 0) 27 (0, 0))
    have f2 := F1.out.trans (a2.mono F1.out.size)
    have CS := sameFrame_any [0, 0, 0, 0, 0, 0] [0, 0, 0, 0, 0, 0] [0, 0, 0, 0, 0, 0] [0, 0, 0, 0, 0, 0] 0 0 A1 none [] [] 0 0 _ rfl rfl rfl rfl ((R1.out.below a2 (Nat.le_refl _)).mono a2.size) Rd.nil (by simp) (by simp)
    have HCS := Lib.hid CS
    clear CS a2
    by_cases h1 : l.length < 14
    · have e5 : gE l = 5 := by simp [gE, h1]
      have dd1 : decide ((l.length : Int) < 14) = true := by simp; omega
      have dd2 : decide (1514 < (l.length : Int)) = false := by simp; omega
      rw [e5]
      go_wp2_with fail
      refine HCS.out.mono ?_
      rintro e w2 ⟨rfl, b2⟩
      simp only [beq_self_eq_true, decide_true, Bool.and_true]
      have f3 := f2.trans (b2.mono f2.size)
      clear b2
      go_wp2_with fail
      refine (lives8_any _).mono ?_
      rintro e w4 ⟨rfl, b4⟩
      have f5 := f3.trans (b4.mono f3.size)
      clear b4
      go_wp2_with fail
      go_ret
      exact ⟨rfl, f5⟩
    · have h2 : 1514 < l.length := by
        rcases Nat.lt_or_ge 1514 l.length with h | h
        · exact h
        · rw [gB_good (by omega) h] at hb; cases hb
      have e5 : gE l = 3 := by simp [gE, h1, h2]
      have dd1 : decide ((l.length : Int) < 14) = false := by simp; omega
      have dd2 : decide (1514 < (l.length : Int)) = true := by simp; omega
      rw [e5]
      go_wp2_with fail
      refine HCS.out.mono ?_
      rintro e w2 ⟨rfl, b2⟩
      simp only [beq_self_eq_true, decide_true, Bool.and_true]
      have f3 := f2.trans (b2.mono f2.size)
      clear b2
      go_wp2_with fail
      refine (lives8_any _).mono ?_
      rintro e w4 ⟨rfl, b4⟩
      have f5 := f3.trans (b4.mono f3.size)
      clear b4
      go_wp2_with fail
      go_ret
      exact ⟨rfl, f5⟩
  · have e5 : gE l = 0 := by
      obtain ⟨h1, h2⟩ := gB_len hb
      simp [gE, show ¬ l.length < 14 by omega, show ¬ 1514 < l.length by omega]
    rw [e5]
    have e6 := put_got l hb
    go_wp2_with fail
    have a2 := (Below.refl w1.heap.size w1).alloc (Nat.le_refl _) (.cells (frc (gD l) (gS l) (gK l) A1 (gR l).length (gR l).length) 27 (0, 0))
    have f2 := F1.out.trans (a2.mono F1.out.size)
    have HG2 := HG1.out.below a2
    have CP := eput_any (gD l) (gS l) (gK l) A1 (gR l) (gR l).length _ hgd hgs hgk HG2.rd HG2.nn (by omega)
    rw [e6] at CP
    refine CP.mono ?_
    rintro e w3 ⟨v, rfl, ho, b3⟩
    obtain ⟨A3, c3, rfl, hR3, _, _⟩ := Rd.of_own ho rfl
    have f3 := f2.trans (b3.mono f2.size)
    have HR3 := Lib.hid hR3; have F3 := Lib.hid f3
    clear CP e6 HG2 a2 f2 b3 f3 ho hR3 HG1
    go_wp2_with fail
    refine (sameBytes_any A3 A l l c3 c w3 HR3.out ((H.out.below F3.out (Nat.le_refl _)).mono F3.out.size) (by omega) (by omega)).mono ?_
    rintro e w4 ⟨rfl, b4⟩
    simp only [beq_self_eq_true]
    have f4 := F3.out.trans (b4.mono F3.out.size)
    clear b4
    go_wp2_with fail
    refine (lives8_any w4).mono ?_
    rintro e w5 ⟨rfl, b5⟩
    have f5 := f4.trans (b5.mono f4.size)
    clear b5
    go_wp2_with fail
    go_ret
    exact ⟨rfl, f5⟩
theorem ethersOnly_long (A : Option Addr) (n c : Nat) (w : World) (hl : 5000 < n) (h63 : n < 2 ^ 63) :
    Calls Try.prog 7 #[.slice A n c] w fun e w' => e = .returned (.bool true) ∧ Below w.heap.size w w' := by
  have d1 : decide (5000 < (n : Int)) = true := by simp; omega
  have d2 : decide (5000 < n) = true := by simp; omega
  go_enter Try.func7, Try.ntmps7
  go_wp2_with fail
  refine (lives8_any _).mono ?_
  rintro e w1 ⟨rfl, b1⟩
  go_wp2_with fail
  go_ret
  exact ⟨rfl, b1⟩
end Go.Proofs.Ytdmmfffoikelgaa

/- EthersGet, walked. -/
import Derived.Test.YtdmmfffoikelgaaE8
namespace Go.Proofs.Ytdmmfffoikelgaa
open Go.RowKit
set_option maxRecDepth 100000
set_option maxHeartbeats 1000000 in
theorem ethersGet_walk (A : Option Addr) (l : List UInt8) (c : Nat) (w : World) (h : Rd w w.heap.size A l) (hA : A = none → l = [] ∧ c = 0) (hc : l.length ≤ c) (hl : l.length ≤ 5000) :
    Calls Try.prog 5 #[.slice A l.length c] w fun e w' => e = .returned (.bool true) ∧ Below w.heap.size w w' := by
  have H := Lib.hid h; have HA := Lib.hid hA
  clear h hA
  have d1 : decide (5000 < (l.length : Int)) = false := by simp; omega
  have d2 : decide (5000 < l.length) = false := by simp; omega
  have hgd := gD_len l
  have hgs := gS_len l
  have hgr := gR_len l
  have hr4 : IntKind.i64.wrap (gE l) = gE l := by unfold gE; split <;> (try split) <;> rfl
  go_enter Try.func5, Try.ntmps5
  go_wp2_with fail
  refine (twinBytes_any A l c w H.out (by omega)).mono ?_
  rintro e w1 ⟨rfl, hT, b1⟩
  have HT := Lib.hid hT; have HB1 := Lib.hid b1
  have s1 : w.heap.size < w1.heap.size := bk_lt hT
  clear hT b1
  go_wp2_with fail
  refine (eget_any (some ⟨w.heap.size, 0, none⟩) l (l.length + 4) w1 (Rd.of_bk HT.out s1 (tw_head l 199)) (fun h => by cases h)).mono ?_
  rintro e w2 ⟨A2, rfl, hG2, b2⟩
  have HG2 := Lib.hid hG2; have F2 := Lib.hid (HB1.out.trans (b2.mono HB1.out.size))
  have HT2 := Lib.hid (bk_keep b2 s1 HT.out)
  have s2 := b2.size
  clear hG2 b2 HB1 HT
  go_wp2_with fail
  have a2 := (Below.refl w2.heap.size w2).alloc (Nat.le_refl _) (.cells (frc (gD l) (gS l) (gK l) A2 (gR l).length (gR l).length) 27 (0, 0))
  have kf := bk_alloc_at w2 (.cells (frc (gD l) (gS l) (gK l) A2 (gR l).length (gR l).length) 27 (0, 0)) _ rfl
  have f2 := F2.out.trans (a2.mono F2.out.size)
  refine (rfget_any A l c _ ((H.out.below f2 (Nat.le_refl _)).mono f2.size) HA.out hc).mono ?_
  rintro e w3 ⟨A3, c3, rfl, hR3, b3⟩
  have f3 := f2.trans (b3.mono f2.size)
  have kf3 := bk_keep b3 (bk_lt kf) kf
  have HT3 := Lib.hid (bk_keep (a2.trans (b3.mono a2.size)) (bk_lt HT2.out) HT2.out)
  have s3 : w2.heap.size + 1 ≤ w3.heap.size := by have := b3.size; simpa using this
  have HG3 : Hid (GotBody l w1.heap.size A2 w3) := Lib.hid (HG2.out.below (a2.trans (b3.mono a2.size)))
  have HR3 := Lib.hid hR3; have F3 := Lib.hid f3
  clear HG2 F2 HT2 a2 kf f2 hR3 b3 f3
  go_wp2_with fail
  have a4 := (Below.refl w3.heap.size w3).alloc (Nat.le_refl _) (.cells (frc (gD l) (gS l) (gK l) A3 (gR l).length c3) 27 (0, 0))
  have kg := bk_alloc_at w3 (.cells (frc (gD l) (gS l) (gK l) A3 (gR l).length c3) 27 (0, 0)) _ rfl
  have f4 := F3.out.trans (a4.mono F3.out.size)
  have HG4 := HG3.out.below a4
  refine (sameFrame_any (gD l) (gS l) (gD l) (gS l) (gK l) (gK l) A2 A3 (gR l) (gR l) (gR l).length c3 _ hgd hgs hgd hgs HG4.rd ((HR3.out.below a4 (Nat.le_refl _)).mono a4.size) (by omega) (by omega)).mono ?_
  rintro e w5 ⟨rfl, b5⟩
  simp only [beq_self_eq_true, decide_true, Bool.and_true]
  have f5 := f4.trans (b5.mono f4.size)
  have kf5 := bk_keep (a4.trans (b5.mono a4.size)) (bk_lt kf3) kf3
  have HT5 := Lib.hid (bk_keep (a4.trans (b5.mono a4.size)) (bk_lt HT3.out) HT3.out)
  have HG5 := Lib.hid (HG4.below b5)
  have s5 : w3.heap.size + 1 ≤ w5.heap.size := by have := b5.size; simpa using this
  have F5 := Lib.hid f5
  have KF5 := Lib.hid kf5
  clear HG4 HG3 HT3 F3 kf3 a4 f4 b5 f5 kf5 HR3 kg
  go_wp2_with fail
  refine (leftBytes_any A l c w.heap.size w5 ((H.out.below F5.out (Nat.le_refl _)).mono F5.out.size) (by omega) HT5.out).mono ?_
  rintro e w6 ⟨rfl, b6⟩
  have f6 := F5.out.trans (b6.mono F5.out.size)
  have HT6 := Lib.hid (bk_keep b6 (bk_lt HT5.out) HT5.out)
  have HG6 := Lib.hid (HG5.out.below b6)
  have KF6 := Lib.hid (bk_keep b6 (bk_lt KF5.out) KF5.out)
  have s6 := b6.size
  clear b6 HT5 HG5 KF5 F5
  go_wp2_with fail
  have a7 := (Below.refl w6.heap.size w6).alloc (Nat.le_refl _) (.cells #[.slice none 0 0] 38 (0, 0))
  have K7 : Bk (w6.alloc (.cells #[.slice none 0 0] 38)) w6.heap.size w.heap.size [] := Bk.new (bk_alloc_at _ _ _ rfl)
  have x7 := bk_keep a7 (bk_lt KF6.out) KF6.out
  have T7 := bk_keep a7 (bk_lt HT6.out) HT6.out
  have G7 := HG6.out.below a7
  have f7 := f6.trans (a7.mono f6.size)
  have hg6 := f6.size
  have hlt7 := f7.size
  have HK7 := Lib.hid K7; have HT7 := Lib.hid T7; have HG7 := Lib.hid G7
  have HX7 := Lib.hid x7; have F7 := Lib.hid f7
  have hfb : ∀ w', bk w' w2.heap.size = some (.cells (frc (gD l) (gS l) (gK l) A2 (gR l).length (gR l).length) 27 (0, 0)) → w'.cell? ⟨w2.heap.size, 13, none⟩ = some (.slice A2 (gR l).length (gR l).length) := fun w' h => (bk_cell h 13).trans (frc_body hgd hgs)
  have HFB := Lib.hid hfb
  clear K7 T7 G7 x7 f7 HT6 HG6 KF6 a7 hfb
  generalize w6.alloc (.cells #[.slice none 0 0] 38) = w7 at *
  refine (bytes_Bk w6.heap.size w.heap.size [] (some ⟨w.heap.size, 0, none⟩) l.length (l.length + 4) w7 HK7.out (by simp) hg6 hlt7 (fun _ => ⟨w.heap.size, 0, _, rfl, HT7.out, by simp [tw_length]⟩) (by omega) (by omega) (fun b j ⟨o, e, _⟩ => by cases e; exact Nat.le_refl _) (fun l' hl' => by cases hl')).mono ?_
  rintro e w8 ⟨i1, x1, rfl, K8, B8, b8⟩
  have f8 := F7.out.trans b8
  have s8 := B8.size
  have R8 := B8.room' HG7.out.room fun b o cur e hb => by rintro rfl; obtain ⟨hv, hh⟩ := HK7.out.book.objAt; rw [hh] at hb; cases hb
  have X8 : Hid (bk w8 w2.heap.size = some (.cells (frc (gD l) (gS l) (gK l) A2 (gR l).length (gR l).length) 27 (0, 0))) := Lib.hid (B8.keep _ _ HX7.out (by omega) (fun cur' e => by cases e))
  have c13 := HFB.out _ X8.out
  have HK8 := Lib.hid K8; have HR8 := Lib.hid R8
  clear K8 B8 b8 R8 HT7 HK7
  go_wp2_with fail
  refine (bytes_Bk w6.heap.size w.heap.size _ A2 (gR l).length (gR l).length w8 HK8.out (by simp) hg6 (by omega) HR8.out (Nat.le_refl _) (by omega) (fun b j hr => by have := HG7.out.lo b j hr; omega) (fun l' hl' b j h1 h2 => by
    simp at hl'
    subst hl'
    obtain ⟨o, e, _⟩ := h1
    cases e
    have := HG7.out.lo _ _ h2
    omega)).mono ?_
  rintro e w9 ⟨i2, x2, rfl, K9, B9, b9⟩
  have f9 := f8.trans b9
  have s9 := B9.size
  have HK9 := Lib.hid K9
  clear K9 B9 b9 HK8 HR8
  go_wp2_with fail
  refine (apart_Bk w6.heap.size w.heap.size _ w9 HK9.out hg6 (by omega) (by simp)).mono ?_
  rintro e w10 ⟨rfl, b10⟩
  have f10 := f9.trans b10
  clear b10 HK9
  go_wp2_with fail
  refine (lives8_any w10).mono ?_
  rintro e w11 ⟨rfl, b11⟩
  have f11 := f10.trans (b11.mono f10.size)
  clear b11
  go_wp2_with fail
  go_ret
  exact ⟨rfl, f11⟩
theorem ethersGet_long (A : Option Addr) (n c : Nat) (w : World) (hl : 5000 < n) (h63 : n < 2 ^ 63) :
    Calls Try.prog 5 #[.slice A n c] w fun e w' => e = .returned (.bool true) ∧ Below w.heap.size w w' := by
  have d1 : decide (5000 < (n : Int)) = true := by simp; omega
  have d2 : decide (5000 < n) = true := by simp; omega
  go_enter Try.func5, Try.ntmps5
  go_wp2_with fail
  refine (lives8_any _).mono ?_
  rintro e w1 ⟨rfl, b1⟩
  go_wp2_with fail
  go_ret
  exact ⟨rfl, b1⟩
end Go.Proofs.Ytdmmfffoikelgaa

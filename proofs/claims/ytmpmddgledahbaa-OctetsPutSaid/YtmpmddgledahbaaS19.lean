/- OctetsPut, walked. -/
import Derived.Test.YtmpmddgledahbaaS18
import Derived.Test.YtmpmddgledahbaaS12
namespace Go.Proofs.Ytmpmddgledahbaa
open Go.RowKit
set_option maxRecDepth 100000
theorem room_of_bk {w : World} {g n : Nat} {cur : Array Value} {t : TypeId} (h : bk w g = some (.cells cur t (0, 0))) (hn : n ≤ cur.size) : Room w (some ⟨g, 0, none⟩) n t := fun _ => ⟨g, 0, cur, rfl, h, by omega⟩
theorem rg_some {g n b j : Nat} (h : rg (some ⟨g, 0, none⟩) 0 n b j) : b = g := by
  obtain ⟨o, e, _⟩ := h
  cases e
  rfl
theorem octetsPut_long (A : Option Addr) (l : List UInt8) (c n : Nat) (m : Int) (w : World) (hl : 5000 < l.length) (h63 : l.length < 2 ^ 63) :
    Calls Try.prog 4 #[.slice A l.length c, .int .u64 n, .int .i64 m] w fun e w' => e = .returned (.bool true) ∧ Below w.heap.size w w' := by
  have d1 : decide (5000 < (l.length : Int)) = true := by simp; omega
  have d2 : decide (5000 < l.length) = true := by simp; omega
  go_enter Try.func4, Try.ntmps4
  go_wp2_with fail
  refine (lives_any w).mono ?_
  rintro e w1 ⟨rfl, b1⟩
  go_wp2_with fail
  go_ret
  exact ⟨rfl, b1⟩
set_option maxHeartbeats 2000000 in
theorem octetsPut_walk (A : Option Addr) (l : List UInt8) (c n : Nat) (m : Int) (w : World) (h : Rd w w.heap.size A l) (hA : A = none → l = [] ∧ c = 0) (hl : l.length ≤ 5000) (hn : n < 2 ^ 64) (hm : -2 ^ 63 ≤ m ∧ m < 2 ^ 63) :
    Calls Try.prog 4 #[.slice A l.length c, .int .u64 n, .int .i64 m] w fun e w' => e = .returned (.bool true) ∧ Below w.heap.size w w' := by
  have H := Lib.hid h; have HA := Lib.hid hA
  clear h hA
  obtain ⟨M, hM⟩ : ∃ M, M = wid m := ⟨_, rfl⟩
  have hMl := wid_le m
  rw [← hM] at hMl
  have HM := Lib.hid hM
  clear hM
  obtain ⟨N, hN⟩ : ∃ N, N = l.length := ⟨_, rfl⟩
  have HN := Lib.hid hN
  rw [← hN] at hl
  rw [← hN]
  clear hN
  have d1 : decide (5000 < (N : Int)) = false := by simp; omega
  have d2 : decide (5000 < N) = false := by simp; omega
  go_enter Try.func4, Try.ntmps4
  go_wp2_with fail
  rw [HN.out]
  refine (twinBytes_any A l c w H.out (by rw [← HN.out]; omega)).mono ?_
  rw [← HN.out]
  rintro e w1 ⟨rfl, hT, b1⟩
  obtain ⟨T, hTe⟩ : ∃ T, T = w.heap.size := ⟨_, rfl⟩
  rw [← hTe] at hT
  rw [← hTe]
  have HTE := Lib.hid hTe
  have HT := Lib.hid hT
  have hTl := bk_lt hT
  clear hT hTe
  go_wp2_with fail
  rw [HN.out]
  refine (put_any (some ⟨T, 0, none⟩) l (l.length + 4) n m w1 (Rd.of_bk HT.out hTl (tw_head l 199)) (fun h => by cases h) (by rw [← HN.out]; omega) hn hm).mono ?_
  rw [← HN.out]
  rintro e w2 ⟨g, cur, rfl, hg, hgb, hgs, hgt, b2⟩
  rw [← HM.out] at hgs hgt ⊢
  have f2 : Below w.heap.size w w2 := b1.trans (b2.mono b1.size)
  have HG := Lib.hid hgb; have HGT := Lib.hid hgt; have HGS := Lib.hid hgs
  have HT2 := Lib.hid (bk_keep b2 hTl HT.out)
  have hTl2 := bk_lt HT2.out
  have hgl := bk_lt hgb
  clear hgb hgt hgs HT
  go_wp2_with fail
  rw [HN.out]
  refine (rput_any A l c n m w2 ((H.out.below f2 (Nat.le_refl _)).mono f2.size) HA.out (by rw [← HN.out]; omega) hn hm).mono ?_
  rw [← HN.out]
  rintro e w3 ⟨A', c', rfl, hr', b3⟩
  rw [← HM.out] at hr' ⊢
  have f3 := f2.trans (b3.mono f2.size)
  have HG3 := Lib.hid (bk_keep b3 hgl HG.out)
  have HT3 := Lib.hid (bk_keep b3 hTl2 HT2.out)
  have hXl : (l ++ nb M n).length = N + M := by rw [List.length_append, nb_length, HN.out]
  have C := sameBytes_any (some ⟨g, 0, none⟩) A' (l ++ nb M n) (l ++ nb M n) (N + M) c' w3 (Rd.of_take HG3.out HGT.out (bk_lt HG3.out)) hr' (by omega) (by omega)
  rw [hXl, beq_self_eq_true] at C
  have HC := Lib.hid C
  have hgl3 := bk_lt HG3.out
  have hTl3 := bk_lt HT3.out
  clear C hXl hr' HG HT2
  go_wp2_with fail
  refine (HC.out).mono ?_
  rintro e w4 ⟨rfl, b4⟩
  have f4 := f3.trans (b4.mono f3.size)
  have HG4 := Lib.hid (bk_keep b4 hgl3 HG3.out)
  have HT4 := Lib.hid (bk_keep b4 hTl3 HT3.out)
  have hgl4 := bk_lt HG4.out
  have hTl4 := bk_lt HT4.out
  clear HC HG3 HT3
  go_wp2_with fail
  rw [HN.out]
  refine (leftBytes_any A l c T w4 ((H.out.below f4 (Nat.le_refl _)).mono f4.size) (by rw [← HN.out]; omega) HT4.out).mono ?_
  rw [← HN.out]
  rintro e w5 ⟨rfl, b5⟩
  have f5 := f4.trans (b5.mono f4.size)
  have HG5 := Lib.hid (bk_keep b5 hgl4 HG4.out)
  have HT5 := Lib.hid (bk_keep b5 hTl4 HT4.out)
  have hgl5 := bk_lt HG5.out
  have hTl5 := bk_lt HT5.out
  clear HG4 HT4
  go_wp2_with fail
  have hbT : T ≤ w.heap.size := by rw [HTE.out]; exact Nat.le_refl _
  have s51 : w.heap.size ≤ w1.heap.size := b1.size
  have s5 : w.heap.size ≤ w5.heap.size := f5.size
  have a6 : Below w5.heap.size w5 (w5.alloc (.cells #[.slice none 0 0] 32)) := (Below.refl _ _).alloc (Nat.le_refl _) _
  obtain ⟨kb, hkb⟩ : ∃ kb, kb = w5.heap.size := ⟨_, rfl⟩
  obtain ⟨w6, hw6⟩ : ∃ w6, w6 = w5.alloc (.cells #[.slice none 0 0] 32) := ⟨_, rfl⟩
  rw [← hw6] at a6
  have K6 : Bk w6 kb T [] := Bk.new (by rw [hw6]; exact bk_alloc_at _ _ _ hkb)
  have s6 : w6.heap.size = kb + 1 := by rw [hw6, hkb]; simp
  rw [← hw6, ← hkb]
  have hkb5 : w5.heap.size ≤ kb := by omega
  have hkb6 : kb < w6.heap.size := by omega
  have f6 : Below T w w6 := (f5.mono hbT).trans (a6.mono (by omega))
  have HG6 := Lib.hid (bk_keep a6 hgl5 HG5.out)
  have HT6 := Lib.hid (bk_keep a6 hTl5 HT5.out)
  have HK6 := Lib.hid K6
  clear hw6 hkb K6 s6 a6 HG5 HT5
  refine (bytes_Bk kb T [] (some ⟨g, 0, none⟩) (N + M) (N + M) w6 HK6.out (by simp) (by omega) (by omega) (room_of_bk HG6.out HGS.out) (Nat.le_refl _) (by omega) (fun b j h => by have := rg_some h; omega) (fun l h => by cases h)).mono ?_
  rintro e w7 ⟨i1, x1, rfl, K7, q7, b7⟩
  have f7 : Below T w w7 := f6.trans b7
  have s7 := q7.size
  have HT7 := Lib.hid (q7.keepBytes HK6.out HT6.out)
  have hTl7 := bk_lt HT7.out
  have HK7 := Lib.hid K7
  clear K7 q7 b7 HK6 HT6 HG6
  go_wp2_with fail
  rw [HN.out]
  refine (put_any (some ⟨T, 0, none⟩) l (l.length + 4) n m w7 (Rd.of_bk HT7.out hTl7 (tw_head l 199)) (fun h => by cases h) (by rw [← HN.out]; omega) hn hm).mono ?_
  rw [← HN.out]
  rintro e w8 ⟨g2, cur2, rfl, hg2, hgb, hgs, _, b8⟩
  rw [← HM.out] at hgs ⊢
  have f8 : Below T w w8 := f7.trans (b8.mono (by omega))
  have s8 := b8.size
  have HK8 := Lib.hid (HK7.out.below b8)
  have HT8 := Lib.hid (bk_keep b8 hTl7 HT7.out)
  have hT8 := bk_lt HT8.out
  have HG8 := Lib.hid hgb; have HGS8 := Lib.hid hgs
  clear HK7 HT7 hgb hgs b8
  go_wp2_with fail
  refine (bytes_Bk kb T _ (some ⟨g2, 0, none⟩) (N + M) (N + M) w8 HK8.out (by simp) (by omega) (by omega) (room_of_bk HG8.out HGS8.out) (Nat.le_refl _) (by omega) (fun b j h => by have := rg_some h; omega) (fun l' h k q r1 r2 => by
    simp at h
    subst h
    have h1 := rg_some r1
    have h2 := rg_some r2
    omega)).mono ?_
  rintro e w9 ⟨i2, x2, rfl, K9, q9, b9⟩
  have f9 : Below T w w9 := f8.trans b9
  have s9 := q9.size
  have HT9 := Lib.hid (q9.keepBytes HK8.out HT8.out)
  have HK9 := Lib.hid K9
  clear K9 q9 b9 HK8 HT8 HG8
  go_wp2_with fail
  refine (bytes_Bk kb T _ (some ⟨T, 0, none⟩) N (N + 4) w9 HK9.out (by simp) (by omega) (by omega) (room_of_bk HT9.out (by simp [tw_length]; rw [HN.out]; omega)) (by omega) (by omega) (fun b j h => by have := rg_some h; omega) (fun l' h k q r1 r2 => by
    have h2 := rg_some r2
    simp at h
    rcases h with h | h
    all_goals
      subst h
      have h1 := rg_some r1
      omega)).mono ?_
  rintro e w10 ⟨i3, x3, rfl, K10, q10, b10⟩
  have f10 : Below T w w10 := f9.trans b10
  have s10 := q10.size
  have HK10 := Lib.hid K10
  clear K10 q10 b10 HK9 HT9
  go_wp2_with fail
  refine (apart_Bk kb T _ w10 HK10.out (by omega) (by omega) (by simp)).mono ?_
  rintro e w11 ⟨rfl, b11⟩
  have f11 : Below T w w11 := f10.trans b11
  have s11 := b11.size
  clear HK10 b11
  go_wp2_with fail
  refine (lives_any w11).mono ?_
  rintro e w12 ⟨rfl, b12⟩
  have f12 : Below T w w12 := f11.trans (b12.mono (by omega))
  clear b12
  go_wp2_with fail
  go_ret
  exact ⟨rfl, by rw [← HTE.out]; exact f12⟩
end Go.Proofs.Ytmpmddgledahbaa

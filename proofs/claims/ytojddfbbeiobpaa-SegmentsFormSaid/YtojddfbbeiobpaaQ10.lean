/- SegmentsGet, SegmentsPut, walked. -/
import Derived.Test.YtojddfbbeiobpaaQ8
namespace Go.Proofs.Ytojddfbbeiobpaa
open Go.RowKit
set_option maxRecDepth 100000
theorem sl_src {s d : List UInt8} (h : s.length = 16) : sl (s ++ d) 0 16 = s := by simp [sl, List.extract_eq_take_drop, h]
theorem sl_dst {s d : List UInt8} (h : s.length = 16) (h' : d.length = 16) : sl (s ++ d) 16 16 = d := by simp [sl, List.extract_eq_take_drop, h]; exact List.take_of_length_le (by omega)
theorem zD_len (src dst l : List UInt8) : (zD src dst l).length ≤ l.length := by
  unfold zD; split
  · rw [List.length_drop]; omega
  · simp
theorem zE_range (src dst l : List UInt8) : 0 ≤ zE src dst l ∧ zE src dst l ≤ 6 := by unfold zE; split <;> (try split) <;> (try split) <;> (try split) <;> omega
set_option maxHeartbeats 1000000 in
theorem segmentsGet_walk (src dst : List UInt8) (A : Option Addr) (l : List UInt8) (c : Nat) (w : World) (h1 : src.length = 16) (h2 : dst.length = 16) (h : Rd w w.heap.size A l) (hA : A = none → l = [] ∧ c = 0) (hc : l.length ≤ c) (hl : l.length ≤ 3000) :
    Calls Try.prog 4 #[av (src ++ dst), .slice A l.length c] w fun e w' => e = .returned (.bool true) ∧ Below w.heap.size w w' := by
  have RI := Lib.hid h; have HA := Lib.hid hA
  clear h hA
  have d1 : decide (3000 < (l.length : Int)) = false := by simp; omega
  have d2 : decide (3000 < l.length) = false := by simp; omega
  have hgd := zD_len src dst l
  obtain ⟨E, hE⟩ : ∃ E, E = src ++ dst := ⟨_, rfl⟩
  have q0 : sl E 0 16 = src := by rw [hE]; exact sl_src h1
  have q1 : sl E 16 16 = dst := by rw [hE]; exact sl_dst h1 h2
  have qn : E.length = 32 := by rw [hE, List.length_append]; omega
  rw [← hE]
  clear hE
  go_enter Try.func4, Try.ntmps4
  go_wp2_with fail
  have a0 := (Below.refl w.heap.size w).alloc (Nat.le_refl _) (.cells (List.map B E).toArray 25 (0, 0))
  have KE := Lib.hid (bk_alloc_at w (.cells (List.map B E).toArray 25 (0, 0)) _ rfl)
  have F := Lib.hid a0
  replace RI := Lib.hid ((RI.out.below a0 (Nat.le_refl _)).mono a0.size)
  clear a0
  generalize w.alloc (.cells (List.map B E).toArray 25 (0, 0)) = w0 at *
  have n0 := F.out.size
  refine (twinBytes_any A l c w0 RI.out (by omega)).mono ?_
  rintro e w1 ⟨rfl, hT, b1⟩
  have KT := Lib.hid hT
  have ltT := bk_lt hT
  replace KE := Lib.hid (bk_keep b1 (bk_lt KE.out) KE.out)
  replace F := Lib.hid (F.out.trans (b1.mono F.out.size))
  replace RI := Lib.hid ((RI.out.below b1 (Nat.le_refl _)).mono b1.size)
  clear hT b1
  have ke := KE.out
  have le := bk_lt ke
  obtain ⟨T, hT⟩ : ∃ T, T = w0.heap.size := ⟨_, rfl⟩
  rw [← hT] at KT ltT n0
  rw [← hT]
  clear hT
  go_wp2_with fail
  refine (sget_any src dst (some ⟨T, 0, none⟩) l (l.length + 4) w1 h1 h2 (Rd.of_bk KT.out ltT (tw_head l 199)) (fun h => by cases h) (by omega)).mono ?_
  rintro e w2 ⟨A2, rfl, hG2, b2⟩
  have GD := Lib.hid hG2
  replace KE := Lib.hid (bk_keep b2 (bk_lt KE.out) KE.out)
  replace KT := Lib.hid (bk_keep b2 (bk_lt KT.out) KT.out)
  replace F := Lib.hid (F.out.trans (b2.mono F.out.size))
  replace RI := Lib.hid ((RI.out.below b2 (Nat.le_refl _)).mono b2.size)
  have s2 := b2.size
  clear hG2 b2 ke le
  have ke := KE.out
  have le := bk_lt ke
  go_wp2_with fail
  have a3 := (Below.refl w2.heap.size w2).alloc (Nat.le_refl _) (.cells (sgc (zS src dst l) A2 (zD src dst l).length (zD src dst l).length) 30 (0, 0))
  have KX := Lib.hid (bk_alloc_at w2 (.cells (sgc (zS src dst l) A2 (zD src dst l).length (zD src dst l).length) 30 (0, 0)) _ rfl)
  replace KE := Lib.hid (bk_keep a3 (bk_lt KE.out) KE.out)
  replace KT := Lib.hid (bk_keep a3 (bk_lt KT.out) KT.out)
  replace GD := Lib.hid (GD.out.below a3)
  replace F := Lib.hid (F.out.trans (a3.mono F.out.size))
  replace RI := Lib.hid ((RI.out.below a3 (Nat.le_refl _)).mono a3.size)
  have s3 := a3.size
  have ltx := bk_lt KX.out
  clear a3 ke le
  generalize w2.alloc (.cells (sgc (zS src dst l) A2 (zD src dst l).length (zD src dst l).length) 30 (0, 0)) = w3 at *
  refine (rsget_any src dst A l c w3 h1 h2 RI.out HA.out hc (by omega)).mono ?_
  rintro e w4 ⟨A4, c4, rfl, hR4, b4⟩
  have RJ := Lib.hid hR4
  replace KE := Lib.hid (bk_keep b4 (bk_lt KE.out) KE.out)
  replace KT := Lib.hid (bk_keep b4 (bk_lt KT.out) KT.out)
  replace KX := Lib.hid (bk_keep b4 (bk_lt KX.out) KX.out)
  replace GD := Lib.hid (GD.out.below b4)
  replace F := Lib.hid (F.out.trans (b4.mono F.out.size))
  replace RI := Lib.hid ((RI.out.below b4 (Nat.le_refl _)).mono b4.size)
  have s4 := b4.size
  have kx := KX.out
  have lx := bk_lt kx
  clear hR4 b4
  go_wp2_with fail
  have a5 := (Below.refl w4.heap.size w4).alloc (Nat.le_refl _) (.cells (sgc (zS src dst l) A4 (zD src dst l).length c4) 30 (0, 0))
  replace KE := Lib.hid (bk_keep a5 (bk_lt KE.out) KE.out)
  replace KT := Lib.hid (bk_keep a5 (bk_lt KT.out) KT.out)
  replace KX := Lib.hid (bk_keep a5 (bk_lt KX.out) KX.out)
  replace GD := Lib.hid (GD.out.below a5)
  replace F := Lib.hid (F.out.trans (a5.mono F.out.size))
  replace RI := Lib.hid ((RI.out.below a5 (Nat.le_refl _)).mono a5.size)
  replace RJ := Lib.hid ((RJ.out.below a5 (Nat.le_refl _)).mono a5.size)
  have s5 := a5.size
  clear a5 kx lx
  generalize w4.alloc (.cells (sgc (zS src dst l) A4 (zD src dst l).length c4) 30 (0, 0)) = w5 at *
  have CS := sameSegment_any (zS src dst l) A2 A4 (zD src dst l) (zD src dst l).length c4 w5 GD.out.rd RJ.out (by omega)
  refine CS.mono ?_
  clear CS
  rintro e w6 ⟨rfl, b6⟩
  replace KE := Lib.hid (bk_keep b6 (bk_lt KE.out) KE.out)
  replace KT := Lib.hid (bk_keep b6 (bk_lt KT.out) KT.out)
  replace KX := Lib.hid (bk_keep b6 (bk_lt KX.out) KX.out)
  replace GD := Lib.hid (GD.out.below b6)
  replace F := Lib.hid (F.out.trans (b6.mono F.out.size))
  replace RI := Lib.hid ((RI.out.below b6 (Nat.le_refl _)).mono b6.size)
  have s6 := b6.size
  clear b6
  go_wp2_with fail
  refine (leftBytes_any A l c T w6 RI.out (by omega) KT.out).mono ?_
  rintro e w7 ⟨rfl, b7⟩
  replace KT := Lib.hid (bk_keep b7 (bk_lt KT.out) KT.out)
  replace KX := Lib.hid (bk_keep b7 (bk_lt KX.out) KX.out)
  replace GD := Lib.hid (GD.out.below b7)
  replace F := Lib.hid (F.out.trans (b7.mono F.out.size))
  have s7 := b7.size
  clear b7
  go_wp2_with fail
  have a8 := (Below.refl (w7).heap.size w7).alloc (Nat.le_refl _) (.cells #[.slice none 0 0] 40 (0, 0))
  have HK8 : Hid (Bk ((w7).alloc (.cells #[.slice none 0 0] 40 (0, 0))) (w7).heap.size w.heap.size []) := Lib.hid (Bk.new (bk_alloc_at _ _ _ rfl))
  have hf7 := F.out.size
  replace KT := Lib.hid (bk_keep a8 (bk_lt KT.out) KT.out)
  replace KX := Lib.hid (bk_keep a8 (bk_lt KX.out) KX.out)
  replace GD := Lib.hid (GD.out.below a8)
  replace F := Lib.hid (F.out.trans (a8.mono F.out.size))
  have hlt8 := F.out.size
  have s8 := a8.size
  clear a8
  generalize (w7).alloc (.cells #[.slice none 0 0] 40 (0, 0)) = w8 at *
  refine (bytes_Bk w7.heap.size w.heap.size [] (some ⟨T, 0, none⟩) l.length (l.length + 4) w8 HK8.out (by simp) hf7 hlt8 (fun _ => ⟨T, 0, _, rfl, KT.out, by simp [tw_length]⟩) (by omega) (by omega) (fun b j ⟨o, e, _⟩ => by cases e; omega) (fun l' hl' => by cases hl')).mono ?_
  rintro e w9 ⟨i1, x1, rfl, K9, B9, b9⟩
  replace F := Lib.hid (F.out.trans b9)
  have s9 := B9.size
  have R9 := Lib.hid (B9.room' GD.out.room fun b o cur e hb => by rintro rfl; obtain ⟨hv, hh⟩ := HK8.out.book.objAt; rw [hh] at hb; cases hb)
  have X9 := Lib.hid (B9.keep _ _ KX.out (by omega) (fun cur' e => by cases e))
  have hlo := Lib.hid GD.out.lo
  have HK9 := Lib.hid K9
  have cx : w9.cell? ⟨w2.heap.size, 7, none⟩ = _ := (bk_cell X9.out 7).trans sgc_7
  clear K9 B9 b9 HK8 GD KX KT
  go_wp2_with fail
  refine (bytes_Bk w7.heap.size w.heap.size _ A2 (zD src dst l).length (zD src dst l).length w9 HK9.out (by simp) hf7 (by omega) R9.out (Nat.le_refl _) (by omega) (fun b j hr => by have := hlo.out b j hr; omega) (fun l' hl' b j h1 h2 => by
    simp at hl'
    subst hl'
    obtain ⟨o, e, _⟩ := h1
    cases e
    have := hlo.out _ _ h2
    omega)).mono ?_
  rintro e w10 ⟨i2, x2, rfl, K10, B10, b10⟩
  replace F := Lib.hid (F.out.trans b10)
  have s10 := B10.size
  have HK10 := Lib.hid K10
  clear K10 B10 b10 HK9 R9 X9 cx
  go_wp2_with fail
  refine (apart_Bk (w7).heap.size w.heap.size _ w10 (HK10).out hf7 (by omega) (by simp)).mono ?_
  rintro e wq ⟨rfl, bq⟩
  replace F := Lib.hid (F.out.trans bq)
  clear bq HK10
  go_wp2_with fail
  refine (lives17_any wq).mono ?_
  rintro e wr ⟨rfl, br⟩
  replace F := Lib.hid (F.out.trans (br.mono F.out.size))
  clear br
  go_wp2_with fail
  go_ret
  exact ⟨rfl, F.out⟩
theorem segmentsGet_long (src dst : List UInt8) (A : Option Addr) (n c : Nat) (w : World) (h1 : src.length = 16) (h2 : dst.length = 16) (hl : 3000 < n) (h63 : n < 2 ^ 63) :
    Calls Try.prog 4 #[av (src ++ dst), .slice A n c] w fun e w' => e = .returned (.bool true) ∧ Below w.heap.size w w' := by
  have d1 : decide (3000 < (n : Int)) = true := by simp; omega
  have d2 : decide (3000 < n) = true := by simp; omega
  obtain ⟨E, hE⟩ : ∃ E, E = src ++ dst := ⟨_, rfl⟩
  have q0 : sl E 0 16 = src := by rw [hE]; exact sl_src h1
  have q1 : sl E 16 16 = dst := by rw [hE]; exact sl_dst h1 h2
  have qn : E.length = 32 := by rw [hE, List.length_append]; omega
  rw [← hE]
  clear hE
  go_enter Try.func4, Try.ntmps4
  go_wp2_with fail
  have a0 := (Below.refl w.heap.size w).alloc (Nat.le_refl _) (.cells (List.map B E).toArray 25 (0, 0))
  refine (lives17_any _).mono ?_
  rintro e w1 ⟨rfl, b1⟩
  go_wp2_with fail
  go_ret
  exact ⟨rfl, a0.trans (b1.mono a0.size)⟩
end Go.Proofs.Ytojddfbbeiobpaa

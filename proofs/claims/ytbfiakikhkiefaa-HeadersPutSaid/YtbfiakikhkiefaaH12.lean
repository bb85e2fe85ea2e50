/- HeadersPut, walked. -/
import Derived.Test.YtbfiakikhkiefaaH8
import Derived.Test.YtbfiakikhkiefaaH11
namespace Go.Proofs.Ytbfiakikhkiefaa
open Go.RowKit
set_option maxRecDepth 100000
set_option maxHeartbeats 2000000
/-- What Put answers. -/
def putD (p : Pk) (l : List UInt8) : List UInt8 := if pkBad p l then [] else pkB p l
def putE (p : Pk) (l : List UInt8) : Nat := if pkBad p l then 3 else 0
theorem PutGot.open {p : Pk} {l : List UInt8} {n : Nat} {e : Ending} {w : World} (h : PutGot p l n e w) : ∃ A' c', e = .returned (.tuple #[.slice A' (putD p l).length c', .int .i64 (putE p l : Int)]) ∧ w.ownsRow n 5 1 (.slice A' (putD p l).length c') (putD p l).length ((putD p l).map B) := by
  unfold PutGot at h
  unfold putD putE
  split at h
  · rename_i hb
    rw [if_pos hb, if_pos hb]
    exact ⟨none, 0, h, World.ownsRow_nil _ _ _ _⟩
  · rename_i hb
    rw [if_neg hb, if_neg hb]
    exact h
theorem putD_len (p : Pk) (l : List UInt8) : (putD p l).length ≤ 56 + l.length := by
  unfold putD
  split
  · simp
  · have h := more_length p
    unfold pkB
    simp only [List.length_append, nb_length, p.hs, p.hd, h, List.length_cons, List.length_nil]
    split <;> split <;> omega
theorem headersPut_long (p : Pk) (A : Option Addr) (n c : Nat) (w : World) (hl : 3000 < n) (h63 : n < 2 ^ 63) :
    Calls Try.prog 3 #[.agg (pkC p A n c)] w fun e w' => e = .returned (.bool true) ∧ Below w.heap.size w w' := by
  have d1 : decide (3000 < (n : Int)) = true := by simp; omega
  have d2 : decide (3000 < n) = true := by simp; omega
  go_enter Try.func3, Try.ntmps3
  go_wp2_with fail
  have a0 : Below w.heap.size w (w.alloc (.cells (pkC p A n c) 30)) := (by (repeat (first | exact Below.refl _ _ | assumption | refine Below.drew ?_ | refine bdrewN ?_ _ | refine Below.alloc ?_ (by first | omega | (simp <;> omega) | (simp only [World.size_alloc] <;> omega)) _ | refine below_setRow ?_ (by first | omega | (simp <;> omega)) _ | refine Below.setCell ?_ (by first | omega | (simp <;> omega)) _)))
  refine (lives9_any _).mono ?_
  rintro e w1 ⟨rfl, b1⟩
  go_wp2_with fail
  go_ret
  exact ⟨rfl, a0.trans (b1.mono a0.size)⟩
theorem headersPut_walk (p : Pk) (A : Option Addr) (l : List UInt8) (c : Nat) (w : World) (h : Rd w w.heap.size A l) (hA : A = none → l = [] ∧ c = 0) (hl : l.length ≤ 3000) :
    Calls Try.prog 3 #[.agg (pkC p A l.length c)] w fun e w' => e = .returned (.bool true) ∧ Below w.heap.size w w' := by
  have RI := Lib.hid h; have HA := Lib.hid hA
  clear h hA
  have d1 : decide (3000 < (l.length : Int)) = false := by simp; omega
  have d2 : decide (3000 < l.length) = false := by simp; omega
  have hdl := putD_len p l
  obtain ⟨D, hD⟩ : ∃ D, D = putD p l := ⟨_, rfl⟩
  obtain ⟨E, hE⟩ : ∃ E, E = putE p l := ⟨_, rfl⟩
  rw [← hD] at hdl
  have HD := Lib.hid (And.intro hD hE); have HDL := Lib.hid hdl
  clear hD hdl hE
  go_enter Try.func3, Try.ntmps3
  go_wp2_with fail
  have a0 : Below w.heap.size w (w.alloc (.cells (pkC p A l.length c) 30)) := (by (repeat (first | exact Below.refl _ _ | assumption | refine Below.drew ?_ | refine bdrewN ?_ _ | refine Below.alloc ?_ (by first | omega | (simp <;> omega) | (simp only [World.size_alloc] <;> omega)) _ | refine below_setRow ?_ (by first | omega | (simp <;> omega)) _ | refine Below.setCell ?_ (by first | omega | (simp <;> omega)) _)))
  have KD := Lib.hid (bk_alloc_at w (.cells (pkC p A l.length c) 30 (0, 0)) w.heap.size rfl)
  have F := Lib.hid a0
  replace RI := Lib.hid ((RI.out.below a0 (Nat.le_refl _)).mono a0.size)
  clear a0
  generalize w.alloc (.cells (pkC p A l.length c) 30) = w0 at *
  have n0 := bk_lt KD.out
  refine (twinPacket_any p A l c w0 RI.out (by omega)).mono ?_
  rintro e w1 ⟨T, rfl, nT, hT, b1⟩
  have KT := Lib.hid hT
  replace KD := Lib.hid (bk_keep b1 (bk_lt KD.out) KD.out)
  replace F := Lib.hid (F.out.trans (b1.mono F.out.size))
  replace RI := Lib.hid ((RI.out.below b1 (Nat.le_refl _)).mono b1.size)
  have s1 := b1.size
  clear hT b1
  go_wp2_with fail
  have a2 := (Below.refl w1.heap.size w1).alloc (Nat.le_refl _) (.cells (pkC p (some ⟨T, 0, none⟩) l.length (l.length + 4)) 30 (0, 0))
  have KX := Lib.hid (bk_alloc_at w1 (.cells (pkC p (some ⟨T, 0, none⟩) l.length (l.length + 4)) 30 (0, 0)) _ rfl)
  replace KD := Lib.hid (bk_keep a2 (bk_lt KD.out) KD.out)
  replace KT := Lib.hid (bk_keep a2 (bk_lt KT.out) KT.out)
  replace F := Lib.hid (F.out.trans (a2.mono F.out.size))
  replace RI := Lib.hid ((RI.out.below a2 (Nat.le_refl _)).mono a2.size)
  have ltx := bk_lt KX.out
  have ltT := bk_lt KT.out
  clear a2
  generalize w1.alloc (.cells (pkC p (some ⟨T, 0, none⟩) l.length (l.length + 4)) 30 (0, 0)) = w2 at *
  refine (hput_any p (some ⟨T, 0, none⟩) l (l.length + 4) w2 (Rd.of_bk KT.out (bk_lt KT.out) (tw_head l 199)) (fun h => by cases h) (by omega)).mono ?_
  rintro e w3 ⟨hp, b3⟩
  obtain ⟨Ab, cb, rfl, ho⟩ := hp.open
  rw [← HD.out.1] at ho
  rw [← HD.out.1, ← HD.out.2]
  obtain ⟨_, _, e3, hRb, _, hcb⟩ := Rd.of_own ho rfl
  cases e3
  have RB := Lib.hid hRb
  have RO := Lib.hid (Room.of_own ho)
  replace KD := Lib.hid (bk_keep b3 (bk_lt KD.out) KD.out)
  replace KT := Lib.hid (bk_keep b3 (bk_lt KT.out) KT.out)
  replace KX := Lib.hid (bk_keep b3 (bk_lt KX.out) KX.out)
  replace F := Lib.hid (F.out.trans (b3.mono F.out.size))
  replace RI := Lib.hid ((RI.out.below b3 (Nat.le_refl _)).mono b3.size)
  have s3 := b3.size
  clear ho hRb b3 hp
  have vKD := KD.out; have wKD := bk_lt vKD
  go_wp2_with fail
  refine (rput9_any p A l c w3 RI.out HA.out (by omega)).mono ?_
  rintro e w4 ⟨hp, b4⟩
  obtain ⟨Ac, cc, rfl, ho⟩ := hp.open
  rw [← HD.out.1] at ho
  rw [← HD.out.1, ← HD.out.2]
  obtain ⟨_, _, e3, hRc, _, hcc⟩ := Rd.of_own ho rfl
  cases e3
  clear vKD wKD
  replace KD := Lib.hid (bk_keep b4 (bk_lt KD.out) KD.out)
  replace KT := Lib.hid (bk_keep b4 (bk_lt KT.out) KT.out)
  replace KX := Lib.hid (bk_keep b4 (bk_lt KX.out) KX.out)
  replace F := Lib.hid (F.out.trans (b4.mono F.out.size))
  replace RI := Lib.hid ((RI.out.below b4 (Nat.le_refl _)).mono b4.size)
  replace RB := Lib.hid ((RB.out.below b4 (Nat.le_refl _)).mono b4.size)
  have GR := Lib.hid (RO.out.1.below b4)
  have s4 := b4.size
  have RC := Lib.hid hRc
  clear ho hRc b4 hp
  have vKX := KX.out; have wKX := bk_lt vKX
  have vKD := KD.out; have wKD := bk_lt vKD
  go_wp2_with fail
  have CS := sameBytes_any Ab Ac D D cb cc w4 RB.out RC.out (by have := HDL.out; omega) (by have := HDL.out; omega)
  rw [beq_self_eq_true] at CS
  refine CS.mono ?_
  clear CS
  rintro e w5 ⟨rfl, b5⟩
  clear vKX wKX
  clear vKD wKD
  replace KD := Lib.hid (bk_keep b5 (bk_lt KD.out) KD.out)
  replace KT := Lib.hid (bk_keep b5 (bk_lt KT.out) KT.out)
  replace KX := Lib.hid (bk_keep b5 (bk_lt KX.out) KX.out)
  replace F := Lib.hid (F.out.trans (b5.mono F.out.size))
  replace RI := Lib.hid ((RI.out.below b5 (Nat.le_refl _)).mono b5.size)
  replace GR := Lib.hid (GR.out.below b5)
  have s5 := b5.size
  clear b5 RB RC
  have vKX := KX.out; have wKX := bk_lt vKX
  have vKD := KD.out; have wKD := bk_lt vKD
  go_wp2_with fail
  refine (leftPacket_any p A l c T w5 RI.out (by omega) KT.out).mono ?_
  rintro e w6 ⟨rfl, b6⟩
  clear vKX wKX
  clear vKD wKD
  replace KT := Lib.hid (bk_keep b6 (bk_lt KT.out) KT.out)
  replace KX := Lib.hid (bk_keep b6 (bk_lt KX.out) KX.out)
  replace F := Lib.hid (F.out.trans (b6.mono F.out.size))
  have s6 := b6.size
  have GD := Lib.hid (GR.out.below b6)
  clear b6 GR
  have vKX := KX.out; have wKX := bk_lt vKX
  have cx : w6.cell? ⟨w1.heap.size, 39, none⟩ = _ := (bk_cell KX.out 39).trans (pkC_body p (some ⟨T, 0, none⟩) l.length (l.length + 4))
  go_wp2_with fail
  clear cx
  clear vKX wKX
  have a8 := (Below.refl (w6).heap.size w6).alloc (Nat.le_refl _) (.cells #[.slice none 0 0] 40 (0, 0))
  have HK8 : Hid (Bk ((w6).alloc (.cells #[.slice none 0 0] 40 (0, 0))) (w6).heap.size w.heap.size []) := Lib.hid (Bk.new (bk_alloc_at _ _ _ rfl))
  have hf7 := F.out.size
  replace KT := Lib.hid (bk_keep a8 (bk_lt KT.out) KT.out)
  replace KX := Lib.hid (bk_keep a8 (bk_lt KX.out) KX.out)
  replace GD := Lib.hid (GD.out.below a8)
  replace F := Lib.hid (F.out.trans (a8.mono F.out.size))
  have hlt8 := F.out.size
  have s8 := a8.size
  clear a8
  generalize (w6).alloc (.cells #[.slice none 0 0] 40 (0, 0)) = w8 at *
  refine (bytes_Bk w6.heap.size w.heap.size [] (some ⟨T, 0, none⟩) l.length (l.length + 4) w8 HK8.out (by simp) hf7 hlt8 (fun _ => ⟨T, 0, _, rfl, KT.out, by simp [tw_length]⟩) (by omega) (by omega) (fun b j ⟨o, e, _⟩ => by cases e; omega) (fun l' hl' => by cases hl')).mono ?_
  rintro e w9 ⟨i1, x1, rfl, K9, B9, b9⟩
  replace F := Lib.hid (F.out.trans b9)
  have s9 := B9.size
  have R9 := Lib.hid (B9.room' GD.out fun b o cur e hb => by rintro rfl; obtain ⟨hv, hh⟩ := HK8.out.book.objAt; rw [hh] at hb; cases hb)
  obtain ⟨_, hle9, hmx9, hrg9⟩ := RO.out
  have HRG := Lib.hid hrg9
  have HK9 := Lib.hid K9
  clear K9 B9 b9 HK8 GD KX KT hrg9
  go_wp2_with fail
  refine (bytes_Bk w6.heap.size w.heap.size _ Ab D.length cb w9 HK9.out (by simp) hf7 (by omega) R9.out hle9 hmx9 (fun b j hr => by have := (HRG.out b j hr).1; omega) (fun l' hl' b j h1 h2 => by
    simp at hl'
    subst hl'
    obtain ⟨o, e, _⟩ := h1
    cases e
    have := HRG.out _ _ h2
    omega)).mono ?_
  rintro e w10 ⟨i2, x2, rfl, K10, B10, b10⟩
  replace F := Lib.hid (F.out.trans b10)
  have s10 := B10.size
  have HK10 := Lib.hid K10
  clear K10 B10 b10 HK9 R9
  go_wp2_with fail
  refine (apart_Bk (w6).heap.size w.heap.size _ w10 (HK10).out hf7 (by omega) (by simp)).mono ?_
  rintro e wq ⟨rfl, bq⟩
  replace F := Lib.hid (F.out.trans bq)
  clear bq HK10
  go_wp2_with fail
  refine (lives9_any wq).mono ?_
  rintro e wr ⟨rfl, br⟩
  replace F := Lib.hid (F.out.trans (br.mono F.out.size))
  clear br
  go_wp2_with fail
  go_ret
  exact ⟨rfl, F.out⟩
end Go.Proofs.Ytbfiakikhkiefaa

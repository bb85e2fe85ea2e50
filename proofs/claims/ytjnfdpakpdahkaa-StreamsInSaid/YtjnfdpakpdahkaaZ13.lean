/- Streams: lives. -/
import Derived.Test.YtjnfdpakpdahkaaZ12
import Derived.Lib.SlBytesConst
namespace Go.Proofs.Ytjnfdpakpdahkaa
open Go.RowKit
set_option maxRecDepth 100000
set_option maxHeartbeats 2000000
theorem put_below {n x g : Nat} {v : Value} {w w' : World} (h : ∀ k, Ft x g v k → n ≤ k ∧ k < w.heap.size) (hn : n ≤ w.heap.size) (ht : Tn (Ft x g v) w w') : Below n w w' := ht.below (fun k hk => (h k hk).1) hn
theorem Rd.litm (w : World) (l : List UInt8) (t : TypeId) (fr : Nat × Nat) : Rd (w.alloc (.cells (l.map B).toArray t fr)) (w.alloc (.cells (l.map B).toArray t fr)).heap.size (some ⟨w.heap.size, 0, none⟩) l :=
  Rd.of_bk (bk_alloc_at _ _ _ rfl) (by simp) fun j h => by simp [List.getElem?_eq_getElem h]
def sA : Sn := ⟨10, [], [], false, 0⟩
def sB : Sn := (sA.put 12 [99, 100] false).1
def sC : Sn := (sB.put 10 [97, 98] false).1
theorem InB.keepy {y n x g e : Nat} {v : Value} {s : Sn} {F : Nat → Prop} {w w' : World} (h : InB w n x g e v s) (hy : ∀ k, Ft x g v k → k < y) (hF : ∀ k, F k → y ≤ k) (ht : Tn F w w') : InB w' n x g e v s :=
  h.keep ht fun k hk hf => by have := hy k hf; have := hF k hk; omega
theorem lives27_any (w : World) : Calls Try.prog 7 #[] w fun e w' => e = .returned (.bool true) ∧ Below w.heap.size w w' := by
  have kc := fun (w : World) (C : Array Value) (n c : Nat) => Lib.run_convert_bytes_const (P := Try.prog) w 23 5 C n c Try.underlying23 Try.underlying5
  go_enter Try.func7, Try.ntmps7
  go_wp2_with fail
  refine (newin_any 10 w (by decide)).mono ?_
  rintro e w1 ⟨x, g, rfl, I1, b1⟩
  have HI1 := Lib.hid I1
  have B1 := Lib.hid b1
  clear I1 b1
  go_wp2_with fail
  have a1 : Below w1.heap.size w1 (w1.alloc (.cells (List.map B [99, 100]).toArray 5 (2, 3))) := (Below.refl _ _).alloc (Nat.le_refl _) _
  have C1 := iput_any w.heap.size x g 0 (.slice none 0 0) sA _ (HI1.out.below a1) (Nat.le_trans B1.out.size a1.size) 12 (by decide) (some ⟨w1.heap.size, 0, none⟩) [99, 100] 2 false (Rd.litm w1 [99, 100] 5 (2, 3)) (by
    rintro - bb o h
    have := HI1.out.lt g (.inr (.inl rfl))
    cases h
    omega) (fun h => by cases h) (by decide) (by decide)
  rw [show (sA.put 12 [99, 100] false).2 = true by decide +kernel, show (sA.put 12 [99, 100] false).1 = sB from rfl] at C1
  refine C1.mono ?_
  rintro e w2 ⟨rfl, e2, v2, I2, V2, T2⟩
  have B2 := Lib.hid (B1.out.trans ((a1.mono B1.out.size).trans (put_below (HI1.out.below a1).lt (Nat.le_trans B1.out.size a1.size) T2)))
  have HI2 := Lib.hid I2
  clear a1 C1 I2 V2 T2 B1 HI1
  go_wp2_with fail
  have C2 := iready_any w.heap.size x g e2 v2 sB w2 HI2.out
  rw [show sB.ready.length = 0 by decide +kernel] at C2
  refine C2.mono ?_
  rintro e w3 ⟨rfl, rfl⟩
  clear C2
  go_wp2_with fail
  have a1 : Below w2.heap.size w2 (w2.alloc (.cells (List.map B [97, 98]).toArray 5 (2, 3))) := (Below.refl _ _).alloc (Nat.le_refl _) _
  have C1 := iput_any w.heap.size x g e2 v2 sB _ (HI2.out.below a1) (Nat.le_trans B2.out.size a1.size) 10 (by decide) (some ⟨w2.heap.size, 0, none⟩) [97, 98] 2 false (Rd.litm w2 [97, 98] 5 (2, 3)) (by
    rintro - bb o h
    have := HI2.out.lt g (.inr (.inl rfl))
    cases h
    omega) (fun h => by cases h) (by decide) (by decide)
  rw [show (sB.put 10 [97, 98] false).2 = true by decide +kernel, show (sB.put 10 [97, 98] false).1 = sC from rfl] at C1
  refine C1.mono ?_
  rintro e w3 ⟨rfl, e3, v3, I3, V3, T3⟩
  have B3 := Lib.hid (B2.out.trans ((a1.mono B2.out.size).trans (put_below (HI2.out.below a1).lt (Nat.le_trans B2.out.size a1.size) T3)))
  have HI3 := Lib.hid I3
  clear a1 C1 I3 V3 T3 B2 HI2
  go_wp2_with fail
  have C3 := iread_any w.heap.size x g e3 v3 sC w3 HI3.out B3.out.size 3
  rw [show sC.reads 3 = 3 by decide +kernel, show sC.ready.take 3 = [97, 98, 99] by decide +kernel] at C3
  refine C3.mono ?_
  rintro e w4 ⟨u, v4, rfl, ho, I4, V4, T4⟩
  have B4 := Lib.hid (B3.out.trans (T4.below (fun k hk => by subst hk; exact (HI3.out.lt _ (.inl rfl)).1) B3.out.size))
  have HI4 := Lib.hid I4
  obtain ⟨A5, c5, rfl, hr5, hA5, hc5⟩ := Rd.of_own (l := [97, 98, 99]) ho rfl
  have R4 := Lib.hid hr5
  clear C3 I4 V4 T4 B3 HI3 ho hr5 hA5 hc5
  go_wp2_with fail
  have LT0 : ∀ k, Ft x g v4 k → k < w4.heap.size := fun k hk => (HI4.out.lt k hk).2
  have YW0 := B4.out.size
  refine (newout_any 5 w4 (by decide)).mono ?_
  rintro e w5 ⟨rfl, O5, b5⟩
  have R5 := Lib.hid (R4.out.below b5 (Nat.le_refl _))
  have HI5 := Lib.hid (HI4.out.below b5)
  have HO5 := Lib.hid O5
  have B5 := Lib.hid (B4.out.trans (b5.mono B4.out.size))
  have S5 := Lib.hid b5.size
  clear O5 b5 R4 B4 HI4
  obtain ⟨y, hy⟩ : ∃ y, y = w4.heap.size := ⟨_, rfl⟩
  rw [← hy] at HO5 S5 LT0 YW0 R5 ⊢
  have LT := Lib.hid LT0
  have YW := Lib.hid YW0
  clear hy LT0 YW0
  go_wp2_with fail
  have a5 : Below w5.heap.size w5 (w5.alloc (.cells (List.map B [120, 121]).toArray 5 (2, 3))) := (Below.refl _ _).alloc (Nat.le_refl _) _
  have C5 := owrite_any y y (.slice none 0 0) ⟨5, [], false, false⟩ _ (HO5.out.below a5) (Nat.le_trans S5.out a5.size) rfl (some ⟨w5.heap.size, 0, none⟩) [120, 121] 2 (Rd.litm w5 [120, 121] 5 (2, 3)) (fun h => by cases h) (by decide) (by decide)
  rw [show On.takes ⟨5, [], false, false⟩ [120, 121] = 2 by decide +kernel, show ([] ++ List.take 2 [120, 121] : List UInt8) = [120, 121] from rfl] at C5
  refine C5.mono ?_
  rintro e w6 ⟨rfl, v6, O6, V6, T6⟩
  have HO6 := Lib.hid O6
  have T6' : Tn (Fo y (.slice none 0 0)) w5 w6 := (Tn.of a5).trans T6 fun j hj => .inl hj
  have bb := Tn.below T6' (fun k hk => ((HO5.out.below a5).lt k hk).1) S5.out
  have B6 := Lib.hid (B5.out.trans (bb.mono (Nat.le_trans YW.out (Nat.le_refl _))))
  have HI6 := Lib.hid (HI5.out.keepy LT.out (fun k hk => ((HO5.out.below a5).lt k hk).1) T6')
  have R6 := Lib.hid (R5.out.below bb (Nat.le_refl _))
  have S6 := Lib.hid (Nat.le_trans S5.out bb.size)
  clear bb B5 HI5 R5 S5
  clear C5 O6 V6 T6 T6' a5 HO5
  go_wp2_with fail
  refine (oend_any y y v6 _ w6 HO6.out rfl).mono ?_
  rintro e w7 ⟨rfl, O7, T7⟩
  have HO7 := Lib.hid O7
  have bb := Tn.below T7 (fun k hk => by subst hk; exact Nat.le_refl _) S6.out
  have B7 := Lib.hid (B6.out.trans (bb.mono (Nat.le_trans YW.out (Nat.le_refl _))))
  have HI7 := Lib.hid (HI6.out.keepy LT.out (fun k hk => by subst hk; exact Nat.le_refl _) T7)
  have R7 := Lib.hid (R6.out.below bb (Nat.le_refl _))
  have S7 := Lib.hid (Nat.le_trans S6.out bb.size)
  clear bb B6 HI6 R6 S6
  clear O7 T7 HO6
  go_wp2_with fail
  have C8 := otop_any y y v6 _ w7 HO7.out
  rw [show (((5 + On.span ⟨5, [120, 121], true, false⟩) % m32 : Nat) : Int) = 8 by decide +kernel] at C8
  refine C8.mono ?_
  rintro e w8 ⟨rfl, b8⟩
  have HO8 := Lib.hid (HO7.out.below b8)
  have T8 : Tn (fun _ => False) w7 w8 := Tn.of b8
  have bb := Tn.below T8 (fun k hk => hk.elim) S7.out
  have B8 := Lib.hid (B7.out.trans (bb.mono (Nat.le_trans YW.out (Nat.le_refl _))))
  have HI8 := Lib.hid (HI7.out.keepy LT.out (fun k hk => hk.elim) T8)
  have R8 := Lib.hid (R7.out.below bb (Nat.le_refl _))
  have S8 := Lib.hid (Nat.le_trans S7.out bb.size)
  clear bb B7 HI7 R7 S7
  clear C8 b8 T8 HO7
  go_wp2_with fail
  have C9 := oack_yes y y v6 _ w8 HO8.out S8.out 7 (by decide) (by decide)
  rw [show (dist 7 5 : Nat) = 2 by decide +kernel, show ([120, 121] : List UInt8).drop 2 = [] from rfl] at C9
  refine C9.mono ?_
  rintro e w9 ⟨rfl, v9, O9, V9, T9⟩
  have HO9 := Lib.hid O9
  have bb := Tn.below T9 (fun k hk => by subst hk; exact Nat.le_refl _) S8.out
  have B9 := Lib.hid (B8.out.trans (bb.mono (Nat.le_trans YW.out (Nat.le_refl _))))
  have HI9 := Lib.hid (HI8.out.keepy LT.out (fun k hk => by subst hk; exact Nat.le_refl _) T9)
  have R9 := Lib.hid (R8.out.below bb (Nat.le_refl _))
  have S9 := Lib.hid (Nat.le_trans S8.out bb.size)
  clear bb B8 HI8 R8 S8
  clear C9 O9 V9 T9 HO8
  go_wp2_with fail
  have C10 := ocut_any y y v9 _ w9 HO9.out 7 (by decide) (by decide) 9
  rw [show (dist 7 7 : Nat) = 0 by decide +kernel, show On.cuts ⟨7, [], true, false⟩ 0 9 = 0 by decide +kernel] at C10
  refine C10.mono ?_
  rintro e w10 ⟨A10, rfl, _, b10⟩
  have T10 : Tn (fun _ => False) w9 w10 := Tn.of b10
  have bb := Tn.below T10 (fun k hk => hk.elim) S9.out
  have B10 := Lib.hid (B9.out.trans (bb.mono (Nat.le_trans YW.out (Nat.le_refl _))))
  have HI10 := Lib.hid (HI9.out.keepy LT.out (fun k hk => hk.elim) T10)
  have R10 := Lib.hid (R9.out.below bb (Nat.le_refl _))
  have S10 := Lib.hid (Nat.le_trans S9.out bb.size)
  clear bb B9 HI9 R9 S9
  clear C10 b10 T10 HO9
  have hq : (({ first := 7, b := [], ended := true, acked := false } : On).ended && !({ first := 7, b := [], ended := true, acked := false } : On).acked && (0 + 0 == ({ first := 7, b := [], ended := true, acked := false } : On).b.length)) = true := rfl
  rw [hq]
  obtain ⟨b5, o5, rfl, _, _⟩ := R10.out (by simp)
  have hs := run_convert_bytes_back (P := Try.prog) w10 23 9 5 ⟨b5, o5, none⟩ c5 [97, 98, 99] Try.underlying23 Try.underlying5 Try.underlying9 (fun j hj => by
    have h := R10.out.news j (B [97, 98, 99][j]) (by rw [List.getElem?_map, List.getElem?_eq_getElem hj]; rfl)
    exact h)
  rw [show ([97, 98, 99] : List UInt8).length = 3 from rfl] at hs
  have CN := inext_any w.heap.size x g e3 v4 _ w10 HI10.out
  rw [show (sC.read 3).next = 14 by decide +kernel] at CN
  have HCN := Lib.hid CN
  clear hq CN LT YW S10 R10
  go_wp2_with fail
  refine HCN.out.mono ?_
  rintro e w11 ⟨rfl, b11⟩
  have CW := iwindow_any w.heap.size x g e3 v4 _ w11 (HI10.out.below b11)
  rw [show (sC.read 3).win = 8191 by decide +kernel] at CW
  have HCW := Lib.hid CW
  have B11 := Lib.hid (B10.out.trans (b11.mono B10.out.size))
  clear HCN CW B10 b11
  go_wp2_with fail
  refine HCW.out.mono ?_
  rintro e w12 ⟨rfl, rfl⟩
  go_wp2_with fail
  go_ret
  exact ⟨rfl, B11.out⟩
end Go.Proofs.Ytjnfdpakpdahkaa

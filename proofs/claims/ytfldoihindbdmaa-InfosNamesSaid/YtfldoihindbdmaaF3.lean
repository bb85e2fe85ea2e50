/- Infos: a client starts; how long it waits. -/
import Derived.Test.YtfldoihindbdmaaF2
namespace Go.Proofs.Ytfldoihindbdmaa
open Go.RowKit
set_option maxRecDepth 100000
set_option maxHeartbeats 1000000
/-- What a client and its words are behind a start. -/
def Cl.start (c : Cl) (now : Nat) (l : List Nat) : Cl := { c with asks := true, fresh := false, wait := 0, id := l.headD 0 / 256, next := addT (max c.tm now) (belT (l.tail.headD 0) 1000), tm := max c.tm now }
def XF (x : Nat) (p : Option Addr) (k : Nat) : Prop := k = x ∨ WF p k
theorem start_busy (x : Nat) (c : Cl) (now : Nat) (p : Option Addr) (w : World) (h : ClB w x c) (hn : now ≤ far) (ha : c.asks = true) :
    Calls Try.prog 10 #[.pointer (some ⟨x, 0, none⟩), .int .u64 (now : Int), .pointer p] w fun e w' => e = .returned (.bool false) ∧ ClB w' x { c with tm := max c.tm now } ∧ Tn (fun k => k = x) w w' := by
  have C := Lib.hid (there_any x c w h)
  have CG := Lib.hid (goes_any x c now w h hn)
  have HA := Lib.hid ha
  clear h hn ha
  go_enter Try.func10, Try.ntmps10
  go_wp2_with fail
  refine (C.out).mono ?_
  rintro e w1 ⟨rfl, hw⟩
  subst hw
  go_wp2_with fail
  refine CG.out.mono ?_
  rintro e w1 ⟨rfl, h1, t1⟩
  have c7 := bk_cell h1.box 7
  simp [clC] at c7
  rw [HA.out] at c7
  have lx := bk_lt h1.box
  have HH := Lib.hid (And.intro h1 t1)
  clear h1 t1 CG C
  go_wp2_with fail
  go_ret
  exact ⟨rfl, HH.out⟩
theorem start_any (x : Nat) (c : Cl) (now : Nat) (p : Option Addr) (l : List Nat) (w : World) (h : ClB w x c) (hw : WdB w p l) (hp : ¬ WF p x) (hn : now ≤ far) (ha : c.asks = false) :
    Calls Try.prog 10 #[.pointer (some ⟨x, 0, none⟩), .int .u64 (now : Int), .pointer p] w fun e w' => e = .returned (.bool true) ∧ ClB w' x (c.start now l) ∧ WdB w' p l.tail.tail ∧ Tn (XF x p) w w' := by
  have C := Lib.hid (there_any x c w h)
  have CG := Lib.hid (goes_any x c now w h hn)
  have HA := Lib.hid ha
  have HW := Lib.hid hw
  have HP := Lib.hid hp
  have hx1 := hw.head
  have HT : Hid (max c.tm now ≤ far) := Lib.hid (by have := h.t64; omega)
  obtain ⟨T, hT⟩ : ∃ T, T = max c.tm now := ⟨_, rfl⟩
  obtain ⟨a, haa⟩ : ∃ a, a = l.headD 0 := ⟨_, rfl⟩
  obtain ⟨d, hd⟩ : ∃ d, d = a / 256 := ⟨_, rfl⟩
  obtain ⟨b, hbb⟩ : ∃ b, b = belT (l.tail.headD 0) 1000 := ⟨_, rfl⟩
  obtain ⟨s, hs⟩ : ∃ s, s = addT T b := ⟨_, rfl⟩
  unfold Cl.start
  rw [← hT] at CG HT
  rw [← hT, ← haa, ← hbb, ← hs, ← hd]
  have HAA := Lib.hid haa; have HD := Lib.hid hd; have HBB := Lib.hid hbb; have HS := Lib.hid hs
  rw [← haa] at hx1
  clear h hn ha hw hp hT haa hd hbb hs
  go_enter Try.func10, Try.ntmps10
  go_wp2_with fail
  refine (C.out).mono ?_
  rintro e w1 ⟨rfl, hw⟩
  subst hw
  go_wp2_with fail
  refine CG.out.mono ?_
  rintro e w1 ⟨rfl, h1, t1⟩
  have HW1 := Lib.hid (HW.out.keep t1 (fun k hk e => HP.out (e ▸ hk)))
  have c7 := bk_cell h1.box 7
  simp [clC] at c7
  rw [HA.out] at c7
  have lx := bk_lt h1.box
  have f7 := bk_frozen h1.box 7
  have f8 := bk_frozen h1.box 8
  have f13 := bk_frozen h1.box 13
  have c8 := bk_cell h1.box 8
  have c13 := bk_cell h1.box 13
  simp [clC] at c8 c13
  have H2 : ClB (((w1.setCell ⟨x, 7, none⟩ (.bool true)).setCell ⟨x, 8, none⟩ (.bool false)).setCell ⟨x, 13, none⟩ (.int .u64 0)) x { c with asks := true, fresh := false, wait := 0, tm := T } := ⟨by
    rw [bk_setCell_same, bk_setCell_same, bk_setCell_same, h1.box]; rfl, h1.n64, h1.t64, h1.i24, h1.s64, Nat.zero_le _⟩
  have T2 : Tn (fun k => k = x) w (((w1.setCell ⟨x, 7, none⟩ (.bool true)).setCell ⟨x, 8, none⟩ (.bool false)).setCell ⟨x, 13, none⟩ (.int .u64 0)) := ((t1.set (.inl rfl)).set (.inl rfl)).set (.inl rfl)
  have W2 := HW.out.keep T2 (fun k hk e => HP.out (e ▸ hk))
  have H2' := Lib.hid H2
  have T2' := Lib.hid T2
  have W2' := Lib.hid W2
  clear h1 t1 CG C H2 T2 W2 HW1 HW
  go_upto_region 7 with fail
  clear c7 c8 c13 f7 f8 f13 lx
  change Code.wp _ _ _ _ (((w1.setCell ⟨x, 7, none⟩ (.bool true)).setCell ⟨x, 8, none⟩ (.bool false)).setCell ⟨x, 13, none⟩ (.int .u64 0))
  generalize (((w1.setCell ⟨x, 7, none⟩ (.bool true)).setCell ⟨x, 8, none⟩ (.bool false)).setCell ⟨x, 13, none⟩ (.int .u64 0)) = w2 at *
  have CN := Lib.hid (wnext_any p l w2 W2'.out)
  rw [← HAA.out] at CN
  go_wp2_with fail
  refine CN.out.mono ?_
  rintro e w3 ⟨rfl, W3, t3⟩
  have H3 := H2'.out.keep t3 HP.out
  have T3 : Tn (XF x p) w w3 := (T2'.out.mono (G := XF x p) fun k hk => .inl hk).trans t3 fun j hj => .inl (.inr hj)
  have lx := bk_lt H3.box
  have f11 := bk_frozen H3.box 11
  have c11 := bk_cell H3.box 11
  simp [clC] at c11
  have e1 : (a : Int) / 256 = (d : Int) := by have := HD.out; omega
  have H4 : ClB (w3.setCell ⟨x, 11, none⟩ (.int .u32 (d : Int))) x { c with asks := true, fresh := false, wait := 0, tm := T, id := d } := ⟨by
    rw [bk_setCell_same, H3.box]; rfl, H3.n64, H3.t64, by have := HD.out; show d < 16777216; omega, H3.s64, Nat.zero_le _⟩
  have T4 : Tn (XF x p) w (w3.setCell ⟨x, 11, none⟩ (.int .u32 (d : Int))) := T3.set (.inl (.inl rfl))
  have W4 : WdB (w3.setCell ⟨x, 11, none⟩ (.int .u32 (d : Int))) p l.tail := W3.keep ((Tn.refl (fun k => k = x) w3).set (.inl rfl)) (fun k hk e => HP.out (e ▸ hk))
  have H4' := Lib.hid H4
  have T4' := Lib.hid T4
  have W4' := Lib.hid W4
  clear H3 T3 W3 t3 H4 T4 W4 CN H2' T2' W2'
  go_upto_region 8 with fail
  clear c11 f11 lx
  change Code.wp _ _ _ _ (w3.setCell ⟨x, 11, none⟩ (.int .u32 (d : Int)))
  generalize (w3.setCell ⟨x, 11, none⟩ (.int .u32 (d : Int))) = w4 at *
  have CB := Lib.hid (wbelow_any p l.tail 1000 w4 W4'.out (by decide))
  have hb := belT_lt (n := 1000) W4'.out.head (by decide)
  rw [← HBB.out] at CB hb
  go_wp2_with fail
  refine CB.out.mono ?_
  rintro e w5 ⟨rfl, W5, t5⟩
  have H5 := H4'.out.keep t5 HP.out
  have T5 : Tn (XF x p) w w5 := T4'.out.trans t5 fun j hj => .inl (.inr hj)
  have CA := Lib.hid (cadd_any T b w5 (by have := HT.out; unfold far at this; omega) (by omega))
  have hadd := addT_le T b
  rw [← HS.out] at CA hadd
  have lx := bk_lt H5.box
  have f9 := bk_frozen H5.box 9
  have c9 := bk_cell H5.box 9
  simp [clC] at c9
  have H6 : ClB (w5.setCell ⟨x, 9, none⟩ (.int .u64 (s : Int))) x { c with asks := true, fresh := false, wait := 0, tm := T, id := d, next := s } := ⟨by
    rw [bk_setCell_same, H5.box]; rfl, hadd, H5.t64, H5.i24, H5.s64, Nat.zero_le _⟩
  have T6 : Tn (XF x p) w (w5.setCell ⟨x, 9, none⟩ (.int .u64 (s : Int))) := T5.set (.inl (.inl rfl))
  have W6 : WdB (w5.setCell ⟨x, 9, none⟩ (.int .u64 (s : Int))) p l.tail.tail := W5.keep ((Tn.refl (fun k => k = x) w5).set (.inl rfl)) (fun k hk e => HP.out (e ▸ hk))
  have FIN := Lib.hid (And.intro H6 (And.intro W6 T6))
  clear H5 T5 W5 t5 H6 T6 W6 CB H4' T4' W4'
  go_wp2_with fail
  refine CA.out.mono ?_
  rintro e w6 ⟨rfl, rfl⟩
  go_wp2_with fail
  go_ret
  exact ⟨rfl, FIN.out⟩
end Go.Proofs.Ytfldoihindbdmaa

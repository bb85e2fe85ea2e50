/- Infos: the document's client: its box, when it is due, that it starts. -/
import Derived.Test.YtfldoihindbdmaaG1
import Derived.Test.YtfldoihindbdmaaF7
import Derived.Deep.RegionHeld3
namespace Go.Proofs.Ytfldoihindbdmaa
open Go.RowKit
set_option maxRecDepth 100000
set_option maxHeartbeats 2000000
def rcC (c : Cl) : Array Value := #[B c.a0, B c.a1, B c.a2, B c.a3, B c.a4, B c.a5, .bool c.asks, .bool c.fresh, .int .u64 (c.next : Int), .int .u64 (c.tm : Int), .int .u32 (c.id : Int), .int .u64 (c.since : Int), .int .u64 (c.wait : Int)]
structure RClB (w : World) (y : Nat) (c : Cl) : Prop where
  box : bk w y = some (.cells (rcC c) 88 (0, 0))
  n64 : c.next ≤ far
  t64 : c.tm ≤ far
  i24 : c.id < 16777216
  s64 : c.since ≤ far
  w22 : c.wait ≤ 3960000
theorem RClB.keep {F : Nat → Prop} {w w' : World} {x : Nat} {c : Cl} (h : RClB w x c) (ht : Tn F w w') (hF : ¬ F x) : RClB w' x c := ⟨ht.keep hF h.box, h.n64, h.t64, h.i24, h.s64, h.w22⟩
theorem RClB.below {w w' : World} {x : Nat} {c : Cl} (h : RClB w x c) (hb : Below w.heap.size w w') : RClB w' x c := ⟨bk_keep hb (bk_lt h.box) h.box, h.n64, h.t64, h.i24, h.s64, h.w22⟩
theorem rcnew_any (a0 a1 a2 a3 a4 a5 : UInt8) (w : World) :
    Calls Try.prog 20 #[.agg #[B a0, B a1, B a2, B a3, B a4, B a5]] w fun e w' => ∃ x, e = .returned (.pointer (some ⟨x, 0, none⟩)) ∧ w.heap.size ≤ x ∧ RClB w' x (newCl a0 a1 a2 a3 a4 a5) ∧ Below w.heap.size w w' := by
  go_enter Try.func20, Try.ntmps20
  go_wp2_with fail
  have b2 : Below w.heap.size w ((w.alloc (.cells #[B a0, B a1, B a2, B a3, B a4, B a5] 28)).alloc (.cells (rcC (newCl a0 a1 a2 a3 a4 a5)) 88)) := (by (repeat (first | exact Below.refl _ _ | assumption | refine Below.drew ?_ | refine bdrewN ?_ _ | refine Below.alloc ?_ (by first | omega | (simp <;> omega) | (simp only [World.size_alloc] <;> omega)) _ | refine below_setRow ?_ (by first | omega | (simp <;> omega)) _ | refine Below.setCell ?_ (by first | omega | (simp <;> omega)) _)))
  have k2 : bk ((w.alloc (.cells #[B a0, B a1, B a2, B a3, B a4, B a5] 28)).alloc (.cells (rcC (newCl a0 a1 a2 a3 a4 a5)) 88)) (w.heap.size + 1) = some (.cells (rcC (newCl a0 a1 a2 a3 a4 a5)) 88 (0, 0)) := bk_alloc_at _ _ _ (by simp)
  have H := Lib.hid (And.intro k2 b2)
  clear k2 b2
  go_ret
  exact ⟨_, rfl, Nat.le_succ _, ⟨H.out.1, Nat.zero_le _, Nat.zero_le _, (by show (0 : Nat) < 16777216; decide), Nat.zero_le _, Nat.zero_le _⟩, H.out.2⟩
theorem radd_any (a b : Nat) (w : World) (ha : a < 2 ^ 64) (hb : b < 2 ^ 64) : Calls Try.prog 65 #[.int .u64 (a : Int), .int .u64 (b : Int)] w fun e w' => e = .returned (.int .u64 (addT a b : Nat)) ∧ w = w' := by
  obtain ⟨r, hr⟩ : ∃ r, r = addT a b := ⟨_, rfl⟩
  rw [← hr]
  unfold addT far at hr
  by_cases h1 : 9223372036854775807 ≤ a
  · have hr2 : r = 9223372036854775807 := by rw [hr]; split <;> omega
    subst hr2
    have d1 : decide ((9223372036854775807 : Int) ≤ (a : Int)) = true := by simp; omega
    have d2 : decide (9223372036854775807 ≤ a) = true := by simp; omega
    clear hr
    go_enter Try.func65, Try.ntmps65
    go_wp2_with fail
    go_ret
    exact ⟨rfl, rfl⟩
  have d1 : decide ((9223372036854775807 : Int) ≤ (a : Int)) = false := by simp; omega
  have d2 : decide (9223372036854775807 ≤ a) = false := by simp; omega
  by_cases h2 : 9223372036854775807 ≤ b
  · have hr2 : r = 9223372036854775807 := by rw [hr]; split <;> omega
    subst hr2
    have d3 : decide ((9223372036854775807 : Int) ≤ (b : Int)) = true := by simp; omega
    have d4 : decide (9223372036854775807 ≤ b) = true := by simp; omega
    clear hr
    go_enter Try.func65, Try.ntmps65
    go_wp2_with fail
    go_ret
    exact ⟨rfl, rfl⟩
  have d3 : decide ((9223372036854775807 : Int) ≤ (b : Int)) = false := by simp; omega
  have d4 : decide (9223372036854775807 ≤ b) = false := by simp; omega
  obtain ⟨x, hx⟩ : ∃ x, x = a + b := ⟨_, rfl⟩
  have m1 : ((a : Int) + (b : Int)) % 18446744073709551616 = (x : Int) := by omega
  have m1' : (a : Int) + (b : Int) = (x : Int) := by omega
  have m2 : (x : Int) % 18446744073709551616 = (x : Int) := by omega
  by_cases h3 : 9223372036854775807 ≤ x
  · have hr2 : r = 9223372036854775807 := by rw [hr]; split <;> omega
    subst hr2
    have d5 : decide ((9223372036854775807 : Int) ≤ (x : Int)) = true := by simp; omega
    have d6 : decide (9223372036854775807 ≤ x) = true := by simp; omega
    clear hx hr
    go_enter Try.func65, Try.ntmps65
    go_wp2_with fail
    go_ret
    exact ⟨rfl, rfl⟩
  · have hr2 : r = x := by rw [hr, hx]; split <;> omega
    have d5 : decide ((9223372036854775807 : Int) ≤ (x : Int)) = false := by simp; omega
    have d6 : decide (9223372036854775807 ≤ x) = false := by simp; omega
    subst hr2
    clear hx hr
    go_enter Try.func65, Try.ntmps65
    go_wp2_with fail
    go_ret
    exact ⟨rfl, rfl⟩
theorem rdue_any (x : Nat) (c : Cl) (w : World) (h : RClB w x c) :
    Calls Try.prog 47 #[.pointer (some ⟨x, 0, none⟩)] w fun e w' => e = .returned (.int .u64 ((c.due : Nat) : Int)) ∧ w = w' := by
  have c6 := bk_cell h.box 6
  have c7 := bk_cell h.box 7
  have c8 := bk_cell h.box 8
  simp [rcC] at c6 c7 c8
  have lx := bk_lt h.box
  clear h
  unfold Cl.due far
  obtain ⟨ks, hks⟩ : ∃ b, b = c.asks := ⟨_, rfl⟩
  obtain ⟨fr, hfr⟩ : ∃ b, b = c.fresh := ⟨_, rfl⟩
  rw [← hks] at c6 ⊢
  rw [← hfr] at c7 ⊢
  clear hks hfr
  cases ks <;> cases fr
  all_goals
    go_enter Try.func47, Try.ntmps47
    go_wp2_with fail
    go_ret
    exact ⟨rfl, rfl⟩
theorem RClB.set8 {w : World} {y T : Nat} {c : Cl} (h : RClB w y c) (hT : c.tm = T) (v : Value) : (w.setCell ⟨y, 8, none⟩ v).cell? ⟨y, 9, none⟩ = some (.int .u64 (T : Int)) := by
  rw [bk_cell (show bk (w.setCell ⟨y, 8, none⟩ v) y = some (.cells ((rcC c).setIfInBounds 8 v) 88 (0, 0)) from by rw [bk_setCell_same, h.box]; rfl), ← hT]
  rfl
def YF (y q k : Nat) : Prop := k = y ∨ k = q
theorem YF.ofq {y q k : Nat} (h : k = q) : YF y q k := .inr h
theorem YF.ofy {y q k : Nat} (h : k = y) : YF y q k := .inl h
theorem tn_cell {G : Nat → Prop} {w w' : World} (h : Tn G w w') {b : Nat} (hb : b < w.heap.size) (hG : ¬ G b) (o : Nat) : w'.cell? ⟨b, o, none⟩ = w.cell? ⟨b, o, none⟩ :=
  World.cell?_of_block (a := ⟨b, o, none⟩) (h.old b hb hG)
theorem rstart_busy (y q : Nat) (c : Cl) (now : Nat) (w : World) (h : RClB w y c) (hn : now ≤ far) (ha : c.asks = true) :
    Calls Try.prog 37 #[.pointer (some ⟨y, 0, none⟩), .int .u64 (now : Int), .pointer (some ⟨q, 0, none⟩)] w fun e w' => e = .returned (.bool false) ∧ RClB w' y { c with tm := max c.tm now } ∧ Tn (fun k => k = y) w w' := by
  have c6 := bk_cell h.box 6
  have c9 := bk_cell h.box 9
  simp [rcC] at c6 c9
  have lx := bk_lt h.box
  have f9 := bk_frozen h.box 9
  obtain ⟨T, hT⟩ : ∃ T, T = max c.tm now := ⟨_, rfl⟩
  have H1 : Hid (RClB (w.setCell ⟨y, 9, none⟩ (.int .u64 (T : Int))) y { c with tm := T }) := Lib.hid ⟨by rw [bk_setCell_same, h.box]; rfl, h.n64, by have := h.t64; show T ≤ far; omega, h.i24, h.s64, h.w22⟩
  have T1 : Hid (Tn (fun k => k = y) w (w.setCell ⟨y, 9, none⟩ (.int .u64 (T : Int)))) := Lib.hid ((Tn.refl _ _).set (.inl rfl))
  have hmx : max (c.tm : Int) (now : Int) = (T : Int) := by omega
  have hmx1 : (if (c.tm : Int) < (now : Int) then (now : Int) else (c.tm : Int)) = (T : Int) := by split <;> omega
  have hmx2 : (if c.tm < now then (now : Int) else (c.tm : Int)) = (T : Int) := by split <;> omega
  have HTF : Hid (T ≤ far) := Lib.hid (by have := h.t64; omega)
  rw [ha] at c6
  rw [← hT]
  clear hT h ha hn
  go_enter Try.func37, Try.ntmps37
  go_upto_region 2 with fail
  first | rw [hmx] | rw [hmx1] | rw [hmx2] | skip
  clear hmx hmx1 hmx2
  go_wp2_with fail
  go_ret
  exact ⟨rfl, H1.out, T1.out⟩
theorem rstart_any (y q m : Nat) (c : Cl) (now : Nat) (l : List Nat) (w : World) (h : RClB w y c) (hw : RWd w m q l) (hy : y < m ∧ y ≠ q) (hn : now ≤ far) (ha : c.asks = false) :
    Calls Try.prog 37 #[.pointer (some ⟨y, 0, none⟩), .int .u64 (now : Int), .pointer (some ⟨q, 0, none⟩)] w fun e w' => e = .returned (.bool true) ∧ RClB w' y (c.start now l) ∧ RWd w' m q l.tail.tail ∧ Tn (YF y q) w w' := by
  have c6 := bk_cell h.box 6
  have c9 := bk_cell h.box 9
  simp [rcC] at c6 c9
  have lx := bk_lt h.box
  have f9 := bk_frozen h.box 9
  obtain ⟨T, hT⟩ : ∃ T, T = max c.tm now := ⟨_, rfl⟩
  have H1 : Hid (RClB (w.setCell ⟨y, 9, none⟩ (.int .u64 (T : Int))) y { c with tm := T }) := Lib.hid ⟨by rw [bk_setCell_same, h.box]; rfl, h.n64, by have := h.t64; show T ≤ far; omega, h.i24, h.s64, h.w22⟩
  have T1 : Hid (Tn (fun k => k = y) w (w.setCell ⟨y, 9, none⟩ (.int .u64 (T : Int)))) := Lib.hid ((Tn.refl _ _).set (.inl rfl))
  have hmx : max (c.tm : Int) (now : Int) = (T : Int) := by omega
  have hmx1 : (if (c.tm : Int) < (now : Int) then (now : Int) else (c.tm : Int)) = (T : Int) := by split <;> omega
  have hmx2 : (if c.tm < now then (now : Int) else (c.tm : Int)) = (T : Int) := by split <;> omega
  have HTF : Hid (T ≤ far) := Lib.hid (by have := h.t64; omega)
  rw [ha] at c6
  have c7 := bk_cell h.box 7
  have c12 := bk_cell h.box 12
  simp [rcC] at c7 c12
  have f6 := bk_frozen h.box 6
  have f7 := bk_frozen h.box 7
  have f12 := bk_frozen h.box 12
  have HY := Lib.hid hy
  have hx1 := hw.head
  obtain ⟨a, haa⟩ : ∃ a, a = l.headD 0 := ⟨_, rfl⟩
  obtain ⟨d, hd⟩ : ∃ d, d = a / 256 := ⟨_, rfl⟩
  obtain ⟨b, hbb⟩ : ∃ b, b = belT (l.tail.headD 0) 1000 := ⟨_, rfl⟩
  obtain ⟨s, hs⟩ : ∃ s, s = addT T b := ⟨_, rfl⟩
  unfold Cl.start
  rw [← hT, ← haa, ← hbb, ← hs, ← hd]
  have HAA := Lib.hid haa; have HD := Lib.hid hd; have HBB := Lib.hid hbb; have HS := Lib.hid hs
  rw [← haa] at hx1
  have H2 : Hid (RClB ((((w.setCell ⟨y, 9, none⟩ (.int .u64 (T : Int))).setCell ⟨y, 6, none⟩ (.bool true)).setCell ⟨y, 7, none⟩ (.bool false)).setCell ⟨y, 12, none⟩ (.int .u64 0)) y { c with asks := true, fresh := false, wait := 0, tm := T }) := Lib.hid ⟨by
    rw [bk_setCell_same, bk_setCell_same, bk_setCell_same, H1.out.box]; rfl, H1.out.n64, H1.out.t64, H1.out.i24, H1.out.s64, Nat.zero_le _⟩
  have t2 : Tn (fun k => k = y) w ((((w.setCell ⟨y, 9, none⟩ (.int .u64 (T : Int))).setCell ⟨y, 6, none⟩ (.bool true)).setCell ⟨y, 7, none⟩ (.bool false)).setCell ⟨y, 12, none⟩ (.int .u64 0)) := ((T1.out.set (.inl rfl)).set (.inl rfl)).set (.inl rfl)
  have T2 := Lib.hid t2
  have W2 := Lib.hid (hw.keep t2 (fun k hk => by rw [hk]; exact hy))
  clear hT h hw ha hn haa hd hbb hs t2 H1 T1 hy
  go_enter Try.func37, Try.ntmps37
  go_upto_region 2 with fail
  first | rw [hmx] | rw [hmx1] | rw [hmx2] | skip
  clear hmx hmx1 hmx2
  go_upto_region 7 with fail
  clear c6 c7 c9 c12 f6 f7 f9 f12 lx
  change Code.wp _ _ _ _ ((((w.setCell ⟨y, 9, none⟩ (.int .u64 (T : Int))).setCell ⟨y, 6, none⟩ (.bool true)).setCell ⟨y, 7, none⟩ (.bool false)).setCell ⟨y, 12, none⟩ (.int .u64 0))
  generalize ((((w.setCell ⟨y, 9, none⟩ (.int .u64 (T : Int))).setCell ⟨y, 6, none⟩ (.bool true)).setCell ⟨y, 7, none⟩ (.bool false)).setCell ⟨y, 12, none⟩ (.int .u64 0)) = w2 at *
  have CN := Lib.hid (rwnext_any m q l w2 W2.out)
  rw [← HAA.out] at CN
  go_wp2_with fail
  refine CN.out.mono ?_
  rintro e w3 ⟨rfl, W3, t3⟩
  have H3 := H2.out.keep t3 HY.out.2
  have T3 : Tn (YF y q) w w3 := (T2.out.mono (G := YF y q) fun k hk => .inl hk).trans t3 fun j hj => .inl (.inr hj)
  have lx := bk_lt H3.box
  have f10 := bk_frozen H3.box 10
  have c10 := bk_cell H3.box 10
  simp [rcC] at c10
  have e1 : (a : Int) / 256 = (d : Int) := by have := HD.out; omega
  have H4 : Hid (RClB (w3.setCell ⟨y, 10, none⟩ (.int .u32 (d : Int))) y { c with asks := true, fresh := false, wait := 0, tm := T, id := d }) := Lib.hid ⟨by
    rw [bk_setCell_same, H3.box]; rfl, H3.n64, H3.t64, by have := HD.out; show d < 16777216; omega, H3.s64, Nat.zero_le _⟩
  have T4 : Hid (Tn (YF y q) w (w3.setCell ⟨y, 10, none⟩ (.int .u32 (d : Int)))) := Lib.hid (T3.set (.inl (.inl rfl)))
  have W4 : Hid (RWd (w3.setCell ⟨y, 10, none⟩ (.int .u32 (d : Int))) m q l.tail) := Lib.hid (W3.keep ((Tn.refl (fun k => k = y) w3).set (.inl rfl)) (fun k hk => by rw [hk]; exact HY.out))
  clear H3 T3 W3 t3 CN H2 T2 W2
  go_upto_region 8 with fail
  clear c10 f10 lx
  change Code.wp _ _ _ _ (w3.setCell ⟨y, 10, none⟩ (.int .u32 (d : Int)))
  generalize (w3.setCell ⟨y, 10, none⟩ (.int .u32 (d : Int))) = w4 at *
  have bd : Below w4.heap.size w4 w4.drew := (by (repeat (first | exact Below.refl _ _ | assumption | refine Below.drew ?_ | refine bdrewN ?_ _ | refine Below.alloc ?_ (by first | omega | (simp <;> omega) | (simp only [World.size_alloc] <;> omega)) _ | refine below_setRow ?_ (by first | omega | (simp <;> omega)) _ | refine Below.setCell ?_ (by first | omega | (simp <;> omega)) _)))
  have H5 := Lib.hid (H4.out.below bd)
  have W5 := Lib.hid (W4.out.keep (Tn.of (F := fun _ => False) bd) fun k hk => hk.elim)
  have T5 := Lib.hid (T4.out.trans (Tn.of (F := fun _ => False) bd) fun k hk => hk.elim)
  have c9 := bk_cell H5.out.box 9
  simp only [rcC] at c9
  have e9 : w4.drew.cell? ⟨y, 9, none⟩ = some (.int .u64 (T : Int)) := c9
  have lx := bk_lt H5.out.box
  have CB : Hid (Calls Try.prog 66 #[.pointer (some ⟨q, 0, none⟩), .int .u32 1000] w4.drew fun e w' => e = .returned (.int .u32 (b : Int)) ∧ RWd w' m q l.tail.tail ∧ Tn (fun k => k = q) w4.drew w') := Lib.hid (by
    have C := rwbelow_any m q l.tail 1000 w4.drew W5.out (by decide)
    rw [← HBB.out] at C
    exact C)
  have hb := belT_lt (n := 1000) W5.out.head (by decide)
  rw [← HBB.out] at hb
  have HB := Lib.hid hb
  have HSF : Hid (s ≤ far) := Lib.hid (by rw [HS.out]; exact addT_le T b)
  have CA : Hid (∀ W, Calls Try.prog 65 #[.int .u64 (T : Int), .int .u64 (b : Int)] W fun e w' => e = .returned (.int .u64 (s : Int)) ∧ W = w') := Lib.hid fun W => by
    rw [HS.out]
    exact radd_any T b W (by have := HTF.out; unfold far at this; omega) (by have := HB.out; omega)
  have hwb : IntKind.u64.wrap (b : Int) = (b : Int) := by rw [IntKind.wrap_u64]; omega
  have hwb2 : (b : Int) % 18446744073709551616 = (b : Int) := by omega
  clear bd c9 hb H4 W4 T4
  go_region_held3 (fun w' => w'.cell? ⟨y, 9, none⟩ = some (.int .u64 (T : Int))) (first | assumption | go_keep)
    (first
      | (go_at_call 66; with_reducible refine CB.out.mono ?_; rintro e w6 ⟨rfl, W6, t6⟩; have H6 := Lib.hid (H5.out.keep t6 HY.out.2); have T6 := Lib.hid (T5.out.trans t6 fun j hj => .inl (YF.ofq hj)); have W6' := Lib.hid W6; have k6 : w6.cell? ⟨y, 9, none⟩ = some (.int .u64 (T : Int)) := (tn_cell t6 lx HY.out.2 9).trans e9; have c8 := bk_cell H6.out.box 8; simp only [rcC] at c8; have f8 := bk_frozen H6.out.box 8; have l6 := bk_lt H6.out.box; have k7 := RClB.set8 (T := T) H6.out rfl (.int .u64 (s : Int)); clear W6 t6 H5 W5 T5 CB)
      | (go_at_call 65; with_reducible refine (CA.out _).mono ?_; rintro e w7 ⟨rfl, rfl⟩))
  all_goals
    have FIN : Hid (RClB (w6.setCell ⟨y, 8, none⟩ (.int .u64 (s : Int))) y { c with asks := true, fresh := false, wait := 0, tm := T, id := d, next := s } ∧ RWd (w6.setCell ⟨y, 8, none⟩ (.int .u64 (s : Int))) m q l.tail.tail ∧ Tn (YF y q) w (w6.setCell ⟨y, 8, none⟩ (.int .u64 (s : Int)))) := Lib.hid ⟨⟨by rw [bk_setCell_same, H6.out.box]; rfl, HSF.out, H6.out.t64, H6.out.i24, H6.out.s64, Nat.zero_le _⟩, W6'.out.keep ((Tn.refl (fun k => k = y) w6).set (.inl rfl)) (fun k hk => by rw [hk]; exact HY.out), T6.out.set (.inl (.inl rfl))⟩
    clear k6 k7 c8 f8 H6 W6' T6
    go_wp2_with fail
    go_ret
    exact ⟨rfl, FIN.out⟩
end Go.Proofs.Ytfldoihindbdmaa

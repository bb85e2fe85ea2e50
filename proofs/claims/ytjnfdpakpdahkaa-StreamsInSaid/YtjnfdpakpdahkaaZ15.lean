/- Streams: an end stands once. -/
import Derived.Test.YtjnfdpakpdahkaaZ13
import Derived.Test.YtjnfdpakpdahkaaZ14
namespace Go.Proofs.Ytjnfdpakpdahkaa
open Go.RowKit
set_option maxRecDepth 100000
set_option maxHeartbeats 2000000
theorem wpList_app {w : World} {ops : Array Oper} {rest : List Oper} {o : Oper} {a : Act} {Q : Exit → Act → World → Prop} (hgd : o.guard = none) (s x : Operand)
    (ho : o.op = .call { callee := .builtin .append, args := #[s, x], argTypes := #[23, 23] })
    (n : Nat) (v : Value) (l m : List UInt8) (k : Nat) (hs : a.eval s = v) (hown : w.ownsRow n 5 1 v l.length (l.map B)) (A : Option Addr) (c : Nat) (hx : a.eval x = .slice A k c) (hk : k = m.length) (hr : Rd w w.heap.size A m) (hA : A = none → m = [] ∧ c = 0) (hn : n ≤ w.heap.size) (hl : l.length + m.length < 2 ^ 46)
    (h : ∀ A' c' w', w'.ownsRow n 5 1 (.slice A' (l ++ m).length c') (l ++ m).length ((l ++ m).map B) → w.grownBy w' v.ownBlock → ((Value.slice A' (l ++ m).length c').ownBlock = v.ownBlock ∨ (Value.slice A' (l ++ m).length c').ownBlock = some w.heap.size) → wpList Try.prog ops Q rest (a.put o.dst (.slice A' (l ++ m).length c')) w') :
    wpList Try.prog ops Q (o :: rest) a w := by
  subst hk
  obtain ⟨v', w', h1, h2, h3, h4⟩ := run_app n v l m hown A c hr hA hn hl o.type
  refine wpList_plain hgd fun K hK => ?_
  unfold Oper.wp execOp
  simp only [ho, resolve, invoke, builtin, Sem.run_bind, Sem.run_pure, Result.andThen_ok, List.map_toArray, List.map_cons, List.map_nil, hs, hx, h1]
  obtain ⟨A', c', rfl⟩ := own_slice h2
  exact hK _ _ (h _ _ w' h2 h3 h4)
theorem app_below {n : Nat} {v : Value} {m : Nat} {xs : List Value} {w w' : World} (h : w.ownsRow n 5 1 v m xs) (hg : w.grownBy w' v.ownBlock) (hn : n ≤ w.heap.size) : Below n w w' :=
  (Below.refl _ _).grown hg hn fun k hk => (h.lt k hk).1
/-- Bytes that do not come, but an end may. -/
theorem iput_nil (n x g e : Nat) (v : Value) (s : Sn) (w : World) (h : InB w n x g e v s) (hn : n ≤ w.heap.size) (q : Nat) (hq : q < m32) (fin : Bool) (s' : Sn) (some' : Bool) (hp : s.put q [] fin = (s', some')) :
    Calls Try.prog 9 #[.pointer (some ⟨x, 0, none⟩), .int .u32 (q : Int), .slice none 0 0, .bool fin] w fun r w' => r = .returned (.bool some') ∧ ∃ e' v', InB w' n x g e' v' s' ∧ Below n w w' := by
  refine (iput_any n x g e v s w h hn q hq none [] 0 fin Rd.nil (fun h => by simp at h) (fun _ => ⟨rfl, rfl⟩) (Nat.le_refl _) (by simp)).mono ?_
  rintro r w' ⟨h1, e', v', h2, h3, h4⟩
  rw [hp] at h1 h2
  exact ⟨h1, e', v', h2, put_below h.lt hn h4⟩
theorem iput_rd (n x g e : Nat) (v : Value) (s : Sn) (w : World) (h : InB w n x g e v s) (hn : n ≤ w.heap.size) (q : Nat) (hq : q < m32) (A : Option Addr) (b : List UInt8) (c : Nat) (fin : Bool) (hr : Rd w w.heap.size A b) (hbg : 0 < b.length → ∀ bb o, A = some ⟨bb, o, none⟩ → bb ≠ g) (hA : A = none → b = [] ∧ c = 0) (hbc : b.length ≤ c) (hbl : b.length < 4294967296) (s' : Sn) (some' : Bool) (hp : s.put q b fin = (s', some')) :
    Calls Try.prog 9 #[.pointer (some ⟨x, 0, none⟩), .int .u32 (q : Int), .slice A b.length c, .bool fin] w fun r w' => r = .returned (.bool some') ∧ ∃ e' v', InB w' n x g e' v' s' ∧ Below n w w' := by
  refine (iput_any n x g e v s w h hn q hq A b c fin hr hbg hA hbc hbl).mono ?_
  rintro r w' ⟨h1, e', v', h2, h3, h4⟩
  rw [hp] at h1 h2
  exact ⟨h1, e', v', h2, put_below h.lt hn h4⟩
theorem streamsEnd_long (p : Nat) (A A2 : Option Addr) (k c k2 c2 : Nat) (w : World) (h : 3000 < k ∨ 3000 < k2) (hk : k < 2 ^ 63) (hk2 : k2 < 2 ^ 63) :
    Calls Try.prog 3 #[.int .u32 (p : Int), .slice A k c, .slice A2 k2 c2] w fun e w' => e = .returned (.bool true) ∧ Below w.heap.size w w' := by
  by_cases h1 : 3000 < k
  · have d1 : decide ((k : Int) > 3000) = true := by simp; omega
    go_enter Try.func3, Try.ntmps3
    go_wp2_with fail
    refine ((lives27_any w)).mono ?_
    rintro e w1 ⟨rfl, b1⟩
    go_wp2
    go_ret
    exact ⟨rfl, b1⟩
  · have h2 : 3000 < k2 := by omega
    have d1 : decide ((k : Int) > 3000) = false := by simp; omega
    have d2 : decide ((k2 : Int) > 3000) = true := by simp; omega
    clear h
    go_enter Try.func3, Try.ntmps3
    go_wp2_with fail
    refine ((lives27_any w)).mono ?_
    rintro e w1 ⟨rfl, b1⟩
    go_wp2
    go_ret
    exact ⟨rfl, b1⟩
theorem streamsEnd_walk (p : Nat) (A A2 : Option Addr) (l m : List UInt8) (c c2 : Nat) (w : World) (hp : p < m32) (hr : Rd w w.heap.size A l) (hr2 : Rd w w.heap.size A2 m) (hA : A = none → l = [] ∧ c = 0) (hA2 : A2 = none → m = [] ∧ c2 = 0) (hc : l.length ≤ c) (hc2 : m.length ≤ c2) (hl : l.length ≤ 3000) (hm : m.length ≤ 3000) :
    Calls Try.prog 3 #[.int .u32 (p : Int), .slice A l.length c, .slice A2 m.length c2] w fun e w' => e = .returned (.bool true) ∧ Below w.heap.size w w' := by
  have PA := Lib.hid (pend_a hp hl)
  have PB := Lib.hid (pend_b hp hl m hm)
  have PC := fun q => pend_c (p := p) (N := l.length) (q := q)
  have PD := Lib.hid (pend_d hp l m hl hm)
  have PN := Lib.hid (pend_next (p := p) (N := l.length) (l := l))
  have HP := Lib.hid hp
  have HLM := Lib.hid (show (l ++ m).length ≤ 6000 by rw [List.length_append]; omega)
  obtain ⟨N, hN⟩ : ∃ N, N = l.length := ⟨_, rfl⟩
  obtain ⟨M, hM⟩ : ∃ M, M = m.length := ⟨_, rfl⟩
  rw [← hN] at hc hl PA PB PC PD PN ⊢
  rw [← hM] at hc2 hm ⊢
  obtain ⟨q, hq⟩ : ∃ q, q = (p + N) % m32 := ⟨_, rfl⟩
  have hq32 : q < m32 := hq ▸ Nat.mod_lt _ (by decide)
  obtain ⟨q1, hq1⟩ : ∃ q1, q1 = (q + 1) % m32 := ⟨_, rfl⟩
  have hq132 : q1 < m32 := hq1 ▸ Nat.mod_lt _ (by decide)
  rw [← hq] at PA PB PD PN
  rw [← hq1] at PN
  have hQI : ((p : Int) + (N : Int)) % 4294967296 = (q : Int) := by subst hq; unfold m32; omega
  have hQ1I : ((q : Int) + 1) % 4294967296 = (q1 : Int) := by subst hq1; unfold m32; omega
  have hNm : (N : Int) % 4294967296 = (N : Int) := by omega
  have PE := Lib.hid (pend_e hp 1); have PF := Lib.hid (pend_f hp 1); have PG := Lib.hid (pend_g hp 1)
  obtain ⟨q5, hq5⟩ : ∃ q5, q5 = (p + 5) % m32 := ⟨_, rfl⟩
  obtain ⟨q6, hq6⟩ : ∃ q6, q6 = (p + 6) % m32 := ⟨_, rfl⟩
  have HQ5 := Lib.hid (show q5 < m32 from hq5 ▸ Nat.mod_lt _ (by decide))
  have HQ6 := Lib.hid (show q6 < m32 from hq6 ▸ Nat.mod_lt _ (by decide))
  rw [← hq5] at PE PF
  rw [← hq6] at PG
  have hQ5I : ((p : Int) + 5) % 4294967296 = (q5 : Int) := by subst hq5; unfold m32; omega
  have hQ6I : ((p : Int) + 6) % 4294967296 = (q6 : Int) := by subst hq6; unfold m32; omega
  obtain ⟨t, ht⟩ : ∃ t, t = decide (0 < N) := ⟨_, rfl⟩
  rw [← ht] at PD
  have hg1 : decide ((N : Int) > 0) = t := by rw [ht]; exact Bool.eq_iff_iff.2 (by simp)
  have hg2 : decide (0 < (N : Int)) = t := hg1
  have HTT := Lib.hid ht
  have HN := Lib.hid hN.symm; have HM := Lib.hid hM.symm
  have HPC := Lib.hid PC; have HQ32 := Lib.hid hq32; have HQ132 := Lib.hid hq132
  have HR := Lib.hid hr; have HR2 := Lib.hid hr2; have HA := Lib.hid hA; have HA2 := Lib.hid hA2
  have d1 : decide ((N : Int) > 3000) = false := by simp; omega
  have d2 : decide ((M : Int) > 3000) = false := by simp; omega
  have HC2 := Lib.hid hc2
  have HM3 := Lib.hid hm
  clear hr hr2 hA hA2 hN hM hq hq1 hq5 hq6 ht PC hq32 hq132 hp hc hc2
  go_enter Try.func3, Try.ntmps3
  go_wp2_with fail
  refine (newin_any p w HP.out).mono ?_
  rintro e w1 ⟨x, g, rfl, I1, b1⟩
  have HI1 := Lib.hid I1; have B1 := Lib.hid b1
  have HG := Lib.hid I1.ng
  clear I1 b1
  go_wp2_with fail
  refine (iput_nil w.heap.size x g 0 _ _ w1 HI1.out B1.out.size q HQ32.out true _ _ PA.out).mono ?_
  rintro e w2 ⟨rfl, e2, v2, I2, b2⟩
  have HI2 := Lib.hid I2; have B2 := Lib.hid (B1.out.trans b2)
  clear I2 b2 HI1 B1 PA
  go_wp2_with fail
  have C3 := iput_rd w.heap.size x g e2 v2 _ w2 HI2.out B2.out.size q HQ32.out A2 m c2 false ((HR2.out.below B2.out (Nat.le_refl _)).mono B2.out.size) (HR2.out.far HG.out) HA2.out (by have := HM.out; have := HC2.out; omega) (by have := HM.out; have := HM3.out; omega) _ _ PB.out
  rw [HM.out] at C3
  refine C3.mono ?_
  rintro e w3 ⟨rfl, e3, v3, I3, b3⟩
  have HI3 := Lib.hid I3; have B3 := Lib.hid (B2.out.trans b3)
  clear I3 b3 HI2 B2 PB C3
  go_wp2_with fail
  refine (iput_nil w.heap.size x g e3 _ _ w3 HI3.out B3.out.size q1 HQ132.out true _ _ (HPC.out q1)).mono ?_
  rintro e w4 ⟨rfl, e4, v4, I4, b4⟩
  have HI4 := Lib.hid I4; have B4 := Lib.hid (B3.out.trans b4)
  clear I4 b4 HI3 B3 HPC
  go_wp2_with (at_builtin; refine wpList_app rfl _ _ rfl w4.heap.size (.slice none 0 0) [] l N rfl (World.ownsRow_nil _ _ _ _) A c rfl HN.out.symm ((HR.out.below B4.out (Nat.le_refl _)).mono B4.out.size) HA.out (Nat.le_refl _) (by have := HN.out; simp; omega) ?_)
  intro A5 c5 w5 ho5 hg5 _
  have b5 : Below w4.heap.size w4 w5 := app_below (World.ownsRow_nil _ _ _ _) hg5 (Nat.le_refl _)
  have HI5 := Lib.hid (HI4.out.below b5); have B5 := Lib.hid (B4.out.trans (b5.mono B4.out.size)); have HO5 := Lib.hid ho5; have S5 := Lib.hid b5.size; have S4 := Lib.hid B4.out.size
  have LT := Lib.hid (fun k hk => (HI4.out.lt k hk).2)
  clear hg5 b5 HI4 B4 ho5
  go_wp2_with (at_builtin; refine wpList_app rfl _ _ rfl w4.heap.size (.slice A5 l.length c5) l m M rfl HO5.out A2 c2 rfl HM.out.symm ((HR2.out.below B5.out (Nat.le_refl _)).mono B5.out.size) HA2.out S5.out (by have := HN.out; have := HM.out; omega) ?_)
  intro A6 c6 w6 ho6 hg6 _
  have b6 : Below w4.heap.size w5 w6 := app_below HO5.out hg6 S5.out
  have I6 := HI5.out.keep (F := fun k => w4.heap.size ≤ k) (w' := w6) ⟨b6.os, b6.tape, b6.output, b6.size, fun k hk hF => b6.block k (by simpa using hF)⟩ (fun k hk hf => by
    have := LT.out k hf
    omega)
  have HI6 := Lib.hid I6; have B6 := Lib.hid (B5.out.trans (b6.mono S4.out))
  have ho6' : w6.ownsRow w4.heap.size 5 1 (.slice A6 (l ++ m).length c6) (l ++ m).length ((l ++ m).map B) := by simpa [appB] using ho6
  obtain ⟨A7, c7, hv7, hr7, hA7, hc7⟩ := Rd.of_own ho6' rfl
  cases hv7
  have hg7 : 0 < (l ++ m).length → ∀ bb o, A6 = some ⟨bb, o, none⟩ → bb ≠ g := fun _ bb o e h2 => by
    have h1 := (ho6'.lt bb (by rw [e]; rfl)).1
    have h3 := LT.out g (.inr (.inl rfl))
    omega
  have C7 := iput_rd w.heap.size x g e4 v4 _ w6 HI6.out B6.out.size p HP.out A6 (l ++ m) c6 false hr7 hg7 hA7 hc7 (by have := HLM.out; omega) _ _ PD.out
  rw [List.length_append] at C7
  have HC7 := Lib.hid C7
  clear C7 hg7 hr7 hA7 hc7 ho6 ho6' hg6 b6 I6 HI5 B5 HO5 S5
  go_wp2_with fail
  refine HC7.out.mono ?_
  rintro e w7 ⟨rfl, e7, v7, I7, b7⟩
  have HI7 := Lib.hid I7; have B7 := Lib.hid (B6.out.trans b7)
  clear I7 b7 HI6 B6 PD HC7
  have CN := inext_any w.heap.size x g e7 v7 _ w7 HI7.out
  rw [PN.out] at CN
  have HCN := Lib.hid CN
  clear CN
  cases t
  all_goals
    have h0 := HTT.out
    simp at h0
    clear HTT
    go_wp2_with fail
    refine HCN.out.mono ?_
    rintro e w8 ⟨rfl, b8⟩
    have CR := iready_any w.heap.size x g e7 v7 _ w8 (HI7.out.below b8)
    rw [HN.out] at CR
    have HCR := Lib.hid CR; have B8 := Lib.hid (B7.out.trans (b8.mono B7.out.size))
    clear HCN CR B7 b8 HI7
    go_wp2_with fail
    refine HCR.out.mono ?_
    rintro e w9 ⟨rfl, rfl⟩
    clear HCR
    go_wp2_with fail
    refine (newin_any p w8 HP.out).mono ?_
    rintro e u1 ⟨y, h, rfl, J1, c1⟩
    have HJ1 := Lib.hid J1; have C1 := Lib.hid c1; have W8 := Lib.hid (B8.out.size)
    clear J1 c1
    go_wp2_with fail
    have a1 : Below u1.heap.size u1 (u1.alloc (.cells (List.map B [1]).toArray 5 (0, 0))) := (Below.refl _ _).alloc (Nat.le_refl _) _
    refine (iput_rd w8.heap.size y h 0 _ _ _ (HJ1.out.below a1) (Nat.le_trans C1.out.size a1.size) q5 HQ5.out (some ⟨u1.heap.size, 0, none⟩) [1] 1 false (Rd.lit u1 [1] 5) (by
      rintro - bb o h
      have := HJ1.out.lt _ (.inr (.inl rfl))
      cases h
      omega) (fun h => by cases h) (by decide) (by decide) _ _ PE.out).mono ?_
    rintro e u2 ⟨rfl, e12, v12, J2, c2'⟩
    have HJ2 := Lib.hid J2; have C2 := Lib.hid (C1.out.trans ((a1.mono C1.out.size).trans c2'))
    clear J2 c2' a1 HJ1 C1
    go_wp2_with fail
    refine (iput_nil w8.heap.size y h _ _ _ u2 HJ2.out C2.out.size q5 HQ5.out true _ _ PF.out).mono ?_
    rintro e u3 ⟨rfl, e13, v13, J3, c3'⟩
    have HJ3 := Lib.hid J3; have C3 := Lib.hid (C2.out.trans c3')
    clear J3 c3' HJ2 C2
    go_wp2_with fail
    refine (iput_nil w8.heap.size y h _ _ _ u3 HJ3.out C3.out.size q6 HQ6.out true _ true (Prod.ext rfl PG.out)).mono ?_
    rintro e u4 ⟨rfl, e14, v14, J4, c4'⟩
    have D4 := Lib.hid (B8.out.trans ((C3.out.trans c4').mono B8.out.size))
    clear J4 c4' HJ3 C3 B8
    go_wp2_with fail
    refine (lives27_any u4).mono ?_
    rintro e u5 ⟨rfl, c5'⟩
    have D5 := Lib.hid (D4.out.trans (c5'.mono D4.out.size))
    clear c5'
    go_wp2_with fail
    go_ret
    exact ⟨rfl, D5.out⟩
end Go.Proofs.Ytjnfdpakpdahkaa

/- Segments' options: the iterator. -/
import Derived.Test.YtojddfbbeiobpaaQ1
import Derived.Test.YtojddfbbeiobpaaV0
import Derived.Test.YtojddfbbeiobpaaV1
import Derived.StillTactics
import Derived.Test.YtojddfbbeiobpaaU2
import Derived.Sort.QuietIn
namespace Go.Proofs.Ytojddfbbeiobpaa
open Go.RowKit Go.Shelf
attribute [local go_sem] Oper.semAt_some
set_option maxRecDepth 100000
/-- The byte at i, as a number. -/
def ob (L : List UInt8) (i : Nat) : Nat := (L[i]?.getD 0).toNat
/-- The option at i may not be. -/
def obad (L : List UInt8) (i : Nat) : Bool := decide (L.length < i + 2) || decide (ob L (i + 1) < 2) || decide (L.length < i + ob L (i + 1))
/-- The options from i on, by their places; none: one that may not be. -/
def osq (L : List UInt8) (i : Nat) : List (Option Nat) :=
  if i < L.length then
    if ob L i = 0 then []
    else if ob L i = 1 then osq L (i + 1)
    else if _ : obad L i = true then [none]
    else some i :: osq L (i + ob L (i + 1))
  else []
termination_by L.length - i
decreasing_by
  · omega
  · rename_i _h; simp [obad] at _h; omega
theorem osq_end {L : List UInt8} {i : Nat} (h : L.length ≤ i) : osq L i = [] := by rw [osq, if_neg (by omega)]
theorem osq_zero {L : List UInt8} {i : Nat} (h : ob L i = 0) : osq L i = [] := by rw [osq, if_pos h]; split <;> rfl
theorem osq_one {L : List UInt8} {i : Nat} (hi : i < L.length) (h : ob L i = 1) : osq L i = osq L (i + 1) := by rw [osq, if_pos hi, if_neg (by omega), if_pos h]
theorem osq_bad {L : List UInt8} {i : Nat} (hi : i < L.length) (h0 : ob L i ≠ 0) (h1 : ob L i ≠ 1) (h : obad L i = true) : osq L i = [none] := by rw [osq, if_pos hi, if_neg h0, if_neg h1, dif_pos h]
theorem osq_good {L : List UInt8} {i : Nat} (hi : i < L.length) (h0 : ob L i ≠ 0) (h1 : ob L i ≠ 1) (h : obad L i = false) : osq L i = some i :: osq L (i + ob L (i + 1)) := by rw [osq, if_pos hi, if_neg h0, if_neg h1, dif_neg (by simp [h])]
theorem ob_lt (L : List UInt8) (i : Nat) : ob L i < 256 := by unfold ob; exact UInt8.toNat_lt _
/-- What yield is handed. -/
def orow (p o c : Nat) (L : List UInt8) : Option Nat → Array Value
  | none => #[.agg #[.int .u8 0, .slice none 0 0, .bool true]]
  | some i => #[.agg #[.int .u8 (ob L i : Nat), .slice (if c = i + 2 then some ⟨p, o + i, none⟩ else some ⟨p, o + (i + 2), none⟩) (ob L (i + 1) - 2) (c - (i + 2)), .bool false]]
/-- What a round keeps for the iterator. -/
def KpB (n₀ Bs : Nat) (A C : World) : Prop := Below n₀ A C ∧ C.cell? ⟨Bs, 0, none⟩ = A.cell? ⟨Bs, 0, none⟩ ∧ C.frozen? ⟨Bs, 0, none⟩ = A.frozen? ⟨Bs, 0, none⟩
def slLen : Value → Nat
  | .slice _ n _ => n
  | _ => 0
/-- The loop's relation behind a store into the box. -/
theorem srel {Bs n₀ p o c i m N M N' C' : Nat} {A' A0 : Option Addr} {L : List UInt8} {J : List (Option Nat) → World → Prop} {W wr wz : World} {pre : List (Option Nat)}
    (hN : N = L.length - i) (hi : i < L.length) (hm : 0 < m) (hmN : m ≤ N)
    (hB : wr.cell? ⟨Bs, 0, none⟩ = some (.slice A0 N M)) (hz : wz.cell? ⟨Bs, 0, none⟩ = some (.slice A0 N M)) (hBf : wr.frozen? ⟨Bs, 0, none⟩ = false) (hnx : Hid (Below n₀ W wr)) (hnB : n₀ ≤ Bs)
    (hJ : J pre (wr.setCell ⟨Bs, 0, none⟩ (.slice A' N' C'))) (hP : pre ++ osq L (i + m) = osq L 0)
    (hN' : N' = L.length - (i + m)) (hC' : C' = c - (i + m)) (hA' : i + m < L.length → A' = some ⟨p, o + (i + m), none⟩) :
    (∃ (i : Nat) (pre : List (Option Nat)), i ≤ L.length ∧ Hid (pre ++ osq L i = osq L 0) ∧ J pre (wr.setCell ⟨Bs, 0, none⟩ (.slice A' N' C')) ∧
      (∃ A1, (wr.setCell ⟨Bs, 0, none⟩ (.slice A' N' C')).cell? ⟨Bs, 0, none⟩ = some (.slice A1 (L.length - i) (c - i)) ∧ Hid (i < L.length → A1 = some ⟨p, o + i, none⟩)) ∧
      (wr.setCell ⟨Bs, 0, none⟩ (.slice A' N' C')).frozen? ⟨Bs, 0, none⟩ = false ∧
      Hid (Below n₀ W (wr.setCell ⟨Bs, 0, none⟩ (.slice A' N' C')))) ∧
    slLen (((wr.setCell ⟨Bs, 0, none⟩ (.slice A' N' C')).cell? ⟨Bs, 0, none⟩).getD undef) < slLen ((wz.cell? ⟨Bs, 0, none⟩).getD undef) := by
  have e := World.cell?_setCell_same' wr ⟨Bs, 0, none⟩ (.slice A' N' C') (by rw [hB]; rfl)
  refine ⟨⟨i + m, pre, by omega, Lib.hid hP, hJ, ⟨A', by rw [e, hN', hC'], Lib.hid hA'⟩, by rw [World.frozen?_setCell]; exact hBf, Lib.hid (hnx.out.setCell (p := ⟨Bs, 0, none⟩) hnB _)⟩, ?_⟩
  rw [e, hz]
  show N' < N
  omega
set_option maxHeartbeats 2000000 in
theorem sall1_in (n : Nat) (hn : 1 ≤ n) (l Bs n₀ c p o : Nat) (A : Option Addr) (L : List UInt8) (J Jx : List (Option Nat) → World → Prop)
    (hnB : n₀ ≤ Bs) (hl : L.length < 2 ^ 40) (hc : L.length ≤ c) (hc' : c < 2 ^ 62)
    (hJ : ∀ s W v, J s W → J s (W.setCell ⟨Bs, 0, none⟩ v)) (hJd : ∀ s W k, J s W → J s (W.drewN k))
    (hY : ∀ pre x W, J pre W → (∃ post, pre ++ x :: post = osq L 0) → YieldAt Fence.wide (n - 1) Try.prog l (orow p o c L x) W fun e W' =>
      (e = .returned (.bool true) ∧ J (pre ++ [x]) W' ∧ KpB n₀ Bs W W') ∨ (e = .returned (.bool false) ∧ Jx (pre ++ [x]) W'))
    (W : World) (hB : W.cell? ⟨Bs, 0, none⟩ = some (.slice A L.length c)) (hBf : W.frozen? ⟨Bs, 0, none⟩ = false)
    (hA : 0 < L.length → A = some ⟨p, o, none⟩) (hr : Rd W n₀ A L) (h0 : J [] W) :
    CallsIn Fence.wide n Try.prog 50 #[.func (.yield l) #[] #[], .pointer (some ⟨Bs, 0, none⟩)] W fun e W' => (∃ v, e = .returned v) ∧
      ((∃ ys, ys = osq L 0 ∧ J ys W') ∨ (∃ pre, (∃ post, pre ++ post = osq L 0) ∧ Jx pre W')) := by
  have HR := Lib.hid hr
  have hmo : Try.prog.follows .mixedOrders = true := by kernel_rfl
  clear hr
  refine callsIn_of_wp Try.func50 rfl trivial ?_ rfl
  simp only [Try.ntmps50, List.size_toArray, List.length_cons, List.length_nil, Nat.reduceAdd, Nat.reduceSub, Array.replicate_succ, Array.replicate_zero, List.push_toArray, List.append_toArray, List.nil_append, List.cons_append]
  gi_wp2
  gi_loopw [] (fun wr => ∃ (i : Nat) (pre : List (Option Nat)), i ≤ L.length ∧ Hid (pre ++ osq L i = osq L 0) ∧ J pre wr ∧ (∃ A', wr.cell? ⟨Bs, 0, none⟩ = some (.slice A' (L.length - i) (c - i)) ∧ Hid (i < L.length → A' = some ⟨p, o + i, none⟩)) ∧ wr.frozen? ⟨Bs, 0, none⟩ = false ∧ Hid (Below n₀ W wr))
    (fun wr => slLen ((wr.cell? ⟨Bs, 0, none⟩).getD undef))
  case atStart => exact ⟨0, [], Nat.zero_le _, Lib.hid rfl, h0, ⟨A, hB, Lib.hid hA⟩, hBf, Lib.hid (Below.refl _ _)⟩
  case round =>
    clear hB hBf h0
    obtain ⟨i, pre, hi, hP, hJs, ⟨A', hB, hA'⟩, hBf, hnx⟩ := hrel
    by_cases hlt : i < L.length
    · obtain ⟨p', o', hA2, hp, hcs⟩ := HR.out (by omega)
      obtain rfl := hA'.out hlt
      rw [hA (by omega)] at hA2
      cases hA2
      obtain ⟨N, hN⟩ : ∃ N, N = L.length - i := ⟨_, rfl⟩
      obtain ⟨M, hM⟩ : ∃ M, M = c - i := ⟨_, rfl⟩
      obtain ⟨q, hq⟩ : ∃ q, q = o + i := ⟨_, rfl⟩
      have n1 : 0 < N := by omega
      have n2 : N ≤ M := by omega
      have n3 : N < 2 ^ 40 := by omega
      have n4 : M < 2 ^ 62 := by omega
      have d1 : decide (0 < (N : Int)) = true := by simp; omega
      have cc : ∀ j, i + j < L.length → wr.cell? ⟨p, q + j, none⟩ = some (.int .u8 (ob L (i + j) : Nat)) := fun j hj => by
        rw [hq, show o + i + j = o + (i + j) by omega, hnx.out.cell (p := ⟨p, o + (i + j), none⟩) hp, hcs _ hj]
        simp [ob, List.getElem?_eq_getElem hj]
      have c0 := cc 0 (by omega)
      rw [Nat.add_zero, Nat.add_zero] at c0
      have c1 := fun h : 1 < N => cc 1 (by omega)
      obtain ⟨x, hx⟩ : ∃ x, x = ob L i := ⟨_, rfl⟩
      obtain ⟨y, hy⟩ : ∃ y, y = ob L (i + 1) := ⟨_, rfl⟩
      have x1 : x < 256 := by rw [hx]; exact ob_lt _ _
      have y1 : y < 256 := by rw [hy]; exact ob_lt _ _
      have C1 := Lib.hid c1
      rw [← hN, ← hM, ← hq] at hB
      rw [← hx] at c0
      have HX := Lib.hid hx; have HY := Lib.hid hy; have HN := Lib.hid hN; have HM := Lib.hid hM; have HQ := Lib.hid hq; have LT := Lib.hid hlt
      clear hcs cc c1 hx hy hN hM hq hlt hi
      by_cases b0 : x = 0
      · subst b0
        gi_wp2
        go_end0
        have e := hP.out
        rw [osq_zero HX.out.symm, List.append_nil] at e
        exact ⟨⟨_, rfl⟩, .inl (e ▸ hJs)⟩
      have d2 : ((x : Int) != 0) = true := by simp; omega
      have d3 : ((x : Int) == 0) = false := by simp; omega
      by_cases b1 : x = 1
      · subst b1
        gi_wp2
        have LT1 := LT.out
        refine srel (i := i) (m := 1) HN.out LT.out (by omega) (by omega) hB hB hBf hnx hnB (hJ _ _ _ hJs) ?_ (by have := HN.out; omega) (by have := HM.out; omega) (fun h => ?_)
        · rw [← osq_one LT.out HX.out.symm]
          exact hP.out
        · have := HM.out; have := HQ.out
          rw [if_neg (by omega)]; subst q; rfl
      have d4 : ((x : Int) != 1) = true := by simp; omega
      have d5 : ((x : Int) == 1) = false := by simp; omega
      by_cases hN2 : N < 2
      · have d6 : decide ((N : Int) < 2) = true := by simp; omega
        have hb : obad L i = true := by have := HN.out; simp [obad]; omega
        have hxx := HX.out
        rw [osq_bad LT.out (by omega) (by omega) hb] at hP
        clear C1 hxx
        gi_wp2
        gi_quiet (fail)
        generalize hw1 : wr.drewN _ = w1
        have hJ1 : J pre w1 := by rw [← hw1]; exact hJd _ _ _ hJs
        clear hw1 hJs
        obtain ⟨fn, tmps, assign, body, hy, hR⟩ := hY pre none w1 hJ1 ⟨[], hP.out⟩
        have HR' := Lib.hid hR
        simp only [orow] at hy
        clear hR hJ1
        gi_wp2
        refine HR'.out.mono ?_
        have e := hP.out
        rintro e3 W3 (⟨rfl, hJ3, _⟩ | ⟨rfl, hJx3⟩)
        · gi_wp2
          refine bodyPost_ret (results_none rfl _ _ _) rfl ?_
          exact ⟨⟨_, rfl⟩, .inl (by first | exact ⟨_, e, hJ3⟩ | exact e ▸ hJ3)⟩
        · gi_wp2
          refine bodyPost_ret (results_none rfl _ _ _) rfl ?_
          exact ⟨⟨_, rfl⟩, .inr ⟨_, ⟨[], by rw [List.append_nil]; exact e⟩, hJx3⟩⟩
      have c1 := C1.out (by omega)
      rw [← HY.out] at c1
      have d6 : decide ((N : Int) < 2) = false := by simp; omega
      have hN2' : 2 ≤ N := by omega
      clear C1
      by_cases hy2 : y < 2
      · have d7 : decide ((y : Int) < 2) = true := by simp; omega
        have hb : obad L i = true := by have := HY.out; simp [obad]; omega
        have hxx := HX.out
        rw [osq_bad LT.out (by omega) (by omega) hb] at hP
        clear hxx
        gi_wp2
        gi_quiet (fail)
        generalize hw1 : wr.drewN _ = w1
        have hJ1 : J pre w1 := by rw [← hw1]; exact hJd _ _ _ hJs
        clear hw1 hJs
        obtain ⟨fn, tmps, assign, body, hy, hR⟩ := hY pre none w1 hJ1 ⟨[], hP.out⟩
        have HR' := Lib.hid hR
        simp only [orow] at hy
        clear hR hJ1
        gi_wp2
        refine HR'.out.mono ?_
        have e := hP.out
        rintro e3 W3 (⟨rfl, hJ3, _⟩ | ⟨rfl, hJx3⟩)
        · gi_wp2
          refine bodyPost_ret (results_none rfl _ _ _) rfl ?_
          exact ⟨⟨_, rfl⟩, .inl (by first | exact ⟨_, e, hJ3⟩ | exact e ▸ hJ3)⟩
        · gi_wp2
          refine bodyPost_ret (results_none rfl _ _ _) rfl ?_
          exact ⟨⟨_, rfl⟩, .inr ⟨_, ⟨[], by rw [List.append_nil]; exact e⟩, hJx3⟩⟩
      have d7 : decide ((y : Int) < 2) = false := by simp; omega
      by_cases hyN : N < y
      · have d8 : decide ((N : Int) < (y : Int)) = true := by simp; omega
        have hb : obad L i = true := by have := HY.out; have := HN.out; simp [obad]; omega
        have hxx := HX.out
        rw [osq_bad LT.out (by omega) (by omega) hb] at hP
        clear hxx
        gi_wp2
        gi_quiet (fail)
        generalize hw1 : wr.drewN _ = w1
        have hJ1 : J pre w1 := by rw [← hw1]; exact hJd _ _ _ hJs
        clear hw1 hJs
        obtain ⟨fn, tmps, assign, body, hy, hR⟩ := hY pre none w1 hJ1 ⟨[], hP.out⟩
        have HR' := Lib.hid hR
        simp only [orow] at hy
        clear hR hJ1
        gi_wp2
        refine HR'.out.mono ?_
        have e := hP.out
        rintro e3 W3 (⟨rfl, hJ3, _⟩ | ⟨rfl, hJx3⟩)
        · gi_wp2
          refine bodyPost_ret (results_none rfl _ _ _) rfl ?_
          exact ⟨⟨_, rfl⟩, .inl (by first | exact ⟨_, e, hJ3⟩ | exact e ▸ hJ3)⟩
        · gi_wp2
          refine bodyPost_ret (results_none rfl _ _ _) rfl ?_
          exact ⟨⟨_, rfl⟩, .inr ⟨_, ⟨[], by rw [List.append_nil]; exact e⟩, hJx3⟩⟩
      have d8 : decide ((N : Int) < (y : Int)) = false := by simp; omega
      have hP' := hP.out
      have hb : obad L i = false := by have := HY.out; have := HN.out; have := LT.out; simp [obad]; omega
      have hxx := HX.out
      rw [osq_good LT.out (by omega) (by omega) hb] at hP'
      have HP := Lib.hid hP'
      clear hP hP' hb hxx
      gi_wp2
      gi_quiet (fail)
      generalize hw1 : wr.drewN _ = w1
      have hJ1 : J pre w1 := by rw [← hw1]; exact hJd _ _ _ hJs
      have hB1 : w1.cell? ⟨Bs, 0, none⟩ = some (.slice (some ⟨p, q, none⟩) N M) := by rw [← hw1]; exact hB
      have hBf1 : w1.frozen? ⟨Bs, 0, none⟩ = false := by rw [← hw1]; exact hBf
      have e0 : w1.cell? ⟨p, q, none⟩ = some (.int .u8 x) := by rw [← hw1]; exact c0
      have e1 : w1.cell? ⟨p, q + 1, none⟩ = some (.int .u8 y) := by rw [← hw1]; exact c1
      have hnx1 : Hid (Below n₀ W w1) := Lib.hid (by rw [← hw1]; exact ⟨hnx.out.os, hnx.out.tape, hnx.out.output, hnx.out.size, hnx.out.block⟩)
      have hBz := hB
      clear hw1 hJs hB hBf c0 c1 hnx
      have y2 : 2 ≤ y := by omega
      have y3 : y ≤ N := by omega
      gi_wp2
      refine wpIn_region_still_tail 10 hmo (by kernel_rfl) ?_
      generalize hw2 : ({ w1 with drawn := w1.drawn + 1 } : World) = w2
      have hJ2 : J pre w2 := by rw [← hw2]; exact hJd _ _ 1 hJ1
      have hB2 : w2.cell? ⟨Bs, 0, none⟩ = some (.slice (some ⟨p, q, none⟩) N M) := by rw [← hw2]; exact hB1
      have hBf2 : w2.frozen? ⟨Bs, 0, none⟩ = false := by rw [← hw2]; exact hBf1
      have e2 : w2.cell? ⟨p, q, none⟩ = some (.int .u8 x) := by rw [← hw2]; exact e0
      have e3 : w2.cell? ⟨p, q + 1, none⟩ = some (.int .u8 y) := by rw [← hw2]; exact e1
      have hnx2 : Hid (Below n₀ W w2) := Lib.hid (by rw [← hw2]; exact ⟨hnx1.out.os, hnx1.out.tape, hnx1.out.output, hnx1.out.size, hnx1.out.block⟩)
      clear hw2 hJ1 hB1 hBf1 e0 e1 hnx1
      have kB := Lib.hid hB2; have kF := Lib.hid hBf2; have k3 := Lib.hid e3
      have hz := Lib.hid hBz
      clear hBz
      have n5 : (1 : Int) < (N : Int) := by omega
      have n6 : (y : Int) ≤ (M : Int) := by omega
      have n7 : (2 : Int) ≤ (y : Int) := by omega
      have er : orow p o c L (some i) = #[.agg #[.int .u8 x, .slice (if M = 2 then some ⟨p, q, none⟩ else some ⟨p, q + 2, none⟩) (y - 2) (M - 2), .bool false]] := by
        have h1 : c = i + 2 ↔ M = 2 := by have := HM.out; have := LT.out; omega
        simp only [orow, h1, ← HX.out, ← HY.out, show c - (i + 2) = M - 2 by have := HM.out; omega, ← HQ.out, show o + (i + 2) = q + 2 by have := HQ.out; omega]
      obtain ⟨fn, tmps, assign, body, hy, hR⟩ := hY pre (some i) w2 hJ2 ⟨_, HP.out⟩
      rw [er] at hy
      have HR' := Lib.hid hR
      clear hR hJ2 er
      simp only [List.take_succ_cons, List.take_zero, List.drop_succ_cons, List.drop_zero]
      repeat still_step
      try refine wpStill_nil ?_
      clear hB2 hBf2 e2 e3
      gi_wp2
      all_goals
        refine HR'.out.mono ?_
        rintro e4 W3 (⟨rfl, hJ3, hb3, hc3, hf3⟩ | ⟨rfl, hJx3⟩)
        · rw [kB.out] at hc3
          rw [kF.out] at hf3
          have hnx3 := Lib.hid (hnx2.out.trans hb3)
          have e5 := (hb3.cell (p := ⟨p, q + 1, none⟩) hp).trans k3.out
          gi_wp2
          refine wpIn_region_still_tail 5 hmo (by kernel_rfl) ?_
          generalize hw4 : ({ W3 with drawn := W3.drawn + 1 } : World) = w4
          have hJ4 : J (pre ++ [some i]) w4 := by rw [← hw4]; exact hJd _ _ 1 hJ3
          have hc4 := hc3
          rw [show W3.cell? ⟨Bs, 0, none⟩ = w4.cell? ⟨Bs, 0, none⟩ by rw [← hw4]; rfl] at hc4
          have hf4 : w4.frozen? ⟨Bs, 0, none⟩ = false := by rw [← hw4]; exact hf3
          have e6 : w4.cell? ⟨p, q + 1, none⟩ = some (.int .u8 y) := by rw [← hw4]; exact e5
          have hnx4 : Hid (Below n₀ W w4) := Lib.hid (by rw [← hw4]; exact ⟨hnx3.out.os, hnx3.out.tape, hnx3.out.output, hnx3.out.size, hnx3.out.block⟩)
          clear hw4 hJ3 hc3 hf3 e5 hnx3 hb3
          have n8 : (y : Int) ≤ (N : Int) := by omega
          simp only [List.take_succ_cons, List.take_zero, List.drop_succ_cons, List.drop_zero]
          repeat still_step
          try refine wpStill_nil ?_
          gi_wp2
          have h1 := HM.out; have h2 := HQ.out; have h3 := HN.out; have h4 := LT.out; have h5 := HP.out
          rw [← HY.out] at h5
          refine srel (i := i) (m := y) h3 h4 (by omega) (by omega) hc4 hz.out hf4 hnx4 hnB (hJ _ _ _ hJ4) (by rw [List.append_assoc]; exact h5) (by omega) (by omega) (fun h => ?_)
          first | (exfalso; omega) | (rw [if_neg (by omega)]; subst q; rw [Nat.add_assoc])
        · gi_wp2
          refine bodyPost_ret (results_none rfl _ _ _) rfl ?_
          exact ⟨⟨_, rfl⟩, .inr ⟨_, ⟨_, by rw [List.append_assoc]; exact HP.out⟩, hJx3⟩⟩
    · obtain rfl : i = L.length := by omega
      rw [Nat.sub_self] at hB
      gi_wp2
      go_end0
      have e := hP.out
      rw [osq_end (Nat.le_refl _), List.append_nil] at e
      exact ⟨⟨_, rfl⟩, .inl ⟨_, e, hJs⟩⟩
end Go.Proofs.Ytojddfbbeiobpaa

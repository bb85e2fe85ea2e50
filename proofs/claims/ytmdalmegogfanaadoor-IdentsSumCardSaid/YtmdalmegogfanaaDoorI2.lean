/- The iterator over parts of 64 bytes. -/
import Derived.Test.YtmdalmegogfanaaDoorI1
import Derived.RangeFuncNested
import Derived.RangeFuncBound
import Derived.RangeFuncCalls
import Derived.RangeFuncLeaves
import Derived.RangeFuncFrom
import Derived.Shelf.Abstract
import Derived.Shelf.RegionOpen
import Derived.Sort.QuietIn
import Derived.OwnWalkIn
import Derived.TacticsInMore
import Derived.LoopNIn
import Derived.LoopIn
import Derived.WalkMore
import Derived.ControlIn
namespace Go.Proofs.YtmdalmegogfanaaDoor
open Go.RowKit Go.Shelf
attribute [local go_sem] Oper.semAt_some
set_option maxRecDepth 100000
/-- What stays while the iterator runs: what is below n₀, and its two boxes behind it. -/
def KpC (n₀ : Nat) (A B : World) : Prop := Below n₀ A B ∧ B.cell? ⟨n₀ + 1, 0, none⟩ = A.cell? ⟨n₀ + 1, 0, none⟩ ∧ B.cell? ⟨n₀ + 2, 0, none⟩ = A.cell? ⟨n₀ + 2, 0, none⟩
theorem KpC.refl (n₀ : Nat) (A : World) : KpC n₀ A A := ⟨Below.refl _ _, rfl, rfl⟩
theorem KpC.trans {n₀ : Nat} {A B C : World} (h : KpC n₀ A B) (k : KpC n₀ B C) : KpC n₀ A C := ⟨h.1.trans k.1, k.2.1.trans h.2.1, k.2.2.trans h.2.2⟩
theorem KpC.of_below {n₀ m : Nat} {A B : World} (h : Below m A B) (hm : n₀ + 2 < m) : KpC n₀ A B :=
  ⟨h.mono (by omega), h.cell (p := ⟨n₀ + 1, 0, none⟩) (by show n₀ + 1 < m; omega), h.cell (p := ⟨n₀ + 2, 0, none⟩) hm⟩
theorem KpC.put {n₀ : Nat} {W : World} {l : Nat} {o o' : Obj} (h1 : n₀ + 2 < l) (hl : W.heap[l]? = some o) : KpC n₀ W (W.putObj l o') := by
  have hlt := (Array.getElem?_eq_some_iff.1 hl).1
  exact KpC.of_below (m := l) ((Below.refl _ _).grown (grownBy_putObj' W l o') (by omega) (fun k e => by cases e; exact Nat.le_refl _)) h1
/-- The x-th part. -/
def crow (p m : Nat) (x : Nat) : Array Value := #[.slice (some ⟨p, 64 * (x % m), none⟩) 64 64]
set_option maxHeartbeats 2000000 in
theorem chunk1_in (n : Nat) (hn : 1 ≤ n) (l n₀ p c m : Nat) (J Jx : List Nat → World → Prop) (_hp : p < n₀) (hm : m < 2 ^ 30) (hc : 64 * m ≤ c) (hc' : c < 2 ^ 62)
    (hJd : ∀ pre A k, J pre A → J pre (A.drewN k))
    (hY : ∀ pre x W, J pre W → pre.length < m → YieldAt Fence.wide (n - 1) Tryd.prog l (crow p m x) W fun e W' =>
      (e = .returned (.bool true) ∧ J (pre ++ [x]) W' ∧ KpC n₀ W W') ∨ (e = .returned (.bool false) ∧ Jx (pre ++ [x]) W'))
    (W : World) (hBs : W.cell? ⟨n₀ + 1, 0, none⟩ = some (.slice (some ⟨p, 0, none⟩) (64 * m) c)) (hBn : W.cell? ⟨n₀ + 2, 0, none⟩ = some (.int .i64 64)) (h0 : J [] W) :
    CallsIn Fence.wide n Tryd.prog 35 #[.func (.yield l) #[] #[], .pointer (some ⟨n₀ + 1, 0, none⟩), .pointer (some ⟨n₀ + 2, 0, none⟩)] W fun e W' => (∃ v, e = .returned v) ∧
      ((∃ ys, ys = List.range m ∧ J ys W') ∨ (∃ pre, (∃ k, k ≤ m ∧ pre = List.range k) ∧ Jx pre W')) := by
  have hmo : Tryd.prog.follows .mixedOrders = true := by kernel_rfl
  refine callsIn_of_wp Tryd.func35 rfl trivial ?_ rfl
  simp only [Tryd.ntmps35, List.size_toArray, List.length_cons, List.length_nil, Nat.reduceAdd, Nat.reduceSub, Array.replicate_succ, Array.replicate_zero, List.push_toArray, List.append_toArray, List.nil_append, List.cons_append]
  gi_wp2
  gi_loopw [4] (fun i wr => ∃ k : Nat, k ≤ m ∧ i = .int .i64 ((64 * k : Nat) : Int) ∧ J (List.range k) wr ∧ KpC n₀ W wr) (fun i _ => 64 * m - (intOf i).toNat)
  case atStart => exact ⟨0, Nat.zero_le _, rfl, h0, KpC.refl _ _⟩
  case round =>
    obtain ⟨k, hk, rfl, hJ, hK⟩ := hrel
    have cs := hK.2.1.trans hBs
    have cn := hK.2.2.trans hBn
    by_cases hlt : k < m
    · have y1 : decide (((64 * k : Nat) : Int) < ((64 * m : Nat) : Int)) = true := by simp; omega
      obtain ⟨K, hK64⟩ : ∃ K, K = 64 * k := ⟨_, rfl⟩
      obtain ⟨M, hM64⟩ : ∃ M, M = 64 * m := ⟨_, rfl⟩
      rw [← hM64] at cs y1
      rw [← hK64] at y1 ⊢
      have hKM : K + 64 ≤ M := by omega
      have hMc : M ≤ c := by omega
      have HK := Lib.hid hK64; have HM := Lib.hid hM64
      clear hK64 hM64
      have s1 : decide (K ≤ M) = true := by simp; omega
      have s2 : K ≤ M := by omega
      have s3 : ¬ c = K := by omega
      have s4 : decide (M ≤ c) = true := by simp; omega
      have s5 : ¬ ((M : Int) - (K : Int) < 64) := by omega
      have s6 : ¬ (((M - K : Nat) : Int) < 64) := by omega
      gi_wp2
      gi_quiet (fail)
      have cs2 : (wr.drewN nq).cell? ⟨n₀ + 1, 0, none⟩ = some (.slice (some ⟨p, 0, none⟩) M c) := cs
      have cn2 : (wr.drewN nq).cell? ⟨n₀ + 2, 0, none⟩ = some (.int .i64 64) := cn
      have hK2 : KpC n₀ W (wr.drewN nq) := ⟨bdrewN hK.1 _, hK.2.1, hK.2.2⟩
      have hJ2 := hJd _ _ nq hJ
      clear cs cn hK hJ s5 s6
      generalize wr.drewN nq = w2 at *
      obtain ⟨fn, tmps, assign, body, hy, hR⟩ := hY (List.range k) k w2 hJ2 (by simp; omega)
      have ex : crow p m k = #[.slice (some ⟨p, K, none⟩) 64 64] := by unfold crow; rw [Nat.mod_eq_of_lt hlt, ← HK.out]
      rw [ex] at hy
      rw [← List.range_succ] at hR
      have HR' := Lib.hid hR
      have w1 : IntKind.i64.wrap ((K : Int) + 64) = (K : Int) + 64 := by rw [IntKind.wrap_i64]; omega
      have t1 : ((K : Int) + 64).toNat = K + 64 := by omega
      have s5 : decide (K + 64 ≤ c) = true := by simp; omega
      have s6 : K + 64 ≤ c := by omega
      have s7 : decide (K ≤ K + 64) = true := by simp
      have s8 : K + 64 - K = 64 := by omega
      clear ex hR hJ2
      gi_wp2
      refine HR'.out.mono ?_
      rintro e w3 (⟨rfl, hJ3, hk3⟩ | ⟨rfl, hJx3⟩)
      · have cn3 := hk3.2.2.trans cn2
        have hK3 := hK2.trans hk3
        gi_wp2
        go_roundw
        case rel => exact ⟨k + 1, by omega, by rw [HK.out]; go_num, hJ3, hK3⟩
        case measure =>
          have e1 := HK.out
          have e2 := HM.out
          simp [intOf]
          omega
      · gi_wp2
        refine bodyPost_ret (results_none rfl _ _ _) rfl ?_
        exact ⟨⟨_, rfl⟩, .inr ⟨_, ⟨k + 1, by omega, rfl⟩, hJx3⟩⟩
    · obtain rfl : k = m := by omega
      have y1 : decide (((64 * k : Nat) : Int) < ((64 * k : Nat) : Int)) = false := by simp
      gi_wp2
      go_end0
      exact ⟨⟨_, rfl⟩, .inl ⟨_, rfl, hJ⟩⟩
end Go.Proofs.YtmdalmegogfanaaDoor

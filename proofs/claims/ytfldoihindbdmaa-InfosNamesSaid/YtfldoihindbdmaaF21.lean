/- Infos: the iterator over chunks of sixteen bytes. -/
import Derived.Test.YtfldoihindbdmaaF20
namespace Go.Proofs.Ytfldoihindbdmaa
open Go.RowKit Go.Shelf
attribute [local go_sem] Oper.semAt_some
set_option maxRecDepth 100000
set_option maxHeartbeats 1000000
def clen (L j : Nat) : Nat := min 16 (L - 16 * j)
def chv (p o L : Nat) (j : Nat) : Array Value := #[.slice (some ⟨p, o + 16 * j, none⟩) (clen L j) (clen L j)]
def KpC (b1 b2 : Nat) (A B : World) : Prop := B.cell? ⟨b1, 0, none⟩ = A.cell? ⟨b1, 0, none⟩ ∧ B.cell? ⟨b2, 0, none⟩ = A.cell? ⟨b2, 0, none⟩
theorem chunk1_in (n : Nat) (hn : 1 ≤ n) (l b1 b2 p o L c : Nat) (A : Option Addr) (J Jx : List Nat → World → Prop) (hA : 0 < L → A = some ⟨p, o, none⟩) (hL : L < 2 ^ 40) (hLc : L ≤ c) (hc : c < 2 ^ 63)
    (hY : ∀ pre x W, J pre W → pre.length < (L + 15) / 16 → YieldAt Fence.wide (n - 1) Try.prog l (chv p o L x) W fun e W' =>
      (e = .returned (.bool true) ∧ J (pre ++ [x]) W' ∧ KpC b1 b2 W W') ∨ (e = .returned (.bool false) ∧ Jx (pre ++ [x]) W'))
    (hJd : ∀ xs W, J xs W → J xs W.drew)
    (W : World) (h1 : W.cell? ⟨b1, 0, none⟩ = some (.slice A L c)) (h2 : W.cell? ⟨b2, 0, none⟩ = some (.int .i64 16)) (h0 : J [] W) :
    CallsIn Fence.wide n Try.prog 79 #[.func (.yield l) #[] #[], .pointer (some ⟨b1, 0, none⟩), .pointer (some ⟨b2, 0, none⟩)] W fun e W' => (∃ v, e = .returned v) ∧
      ((∃ ys, ys = List.range ((L + 15) / 16) ∧ J ys W') ∨ (∃ pre : List Nat, True ∧ Jx pre W')) := by
  have hmo : Try.prog.follows .mixedOrders = true := by kernel_rfl
  have HA := Lib.hid hA
  have HJD := Lib.hid hJd
  have HL := Lib.hid (And.intro hL (And.intro hLc hc))
  have HY := Lib.hid hY
  obtain ⟨N, hN⟩ : ∃ N, N = (L + 15) / 16 := ⟨_, rfl⟩
  have HN := Lib.hid hN
  rw [← hN] at HY ⊢
  clear hA hL hLc hc hY hN hJd
  refine callsIn_of_wp Try.func79 rfl trivial ?_ rfl
  simp only [Try.ntmps79, List.size_toArray, List.length_cons, List.length_nil, Nat.reduceAdd, Nat.reduceSub, Array.replicate_succ, Array.replicate_zero, List.push_toArray, List.append_toArray, List.nil_append, List.cons_append]
  gi_wp2
  gi_loopw [4] (fun i wr => ∃ k : Nat, k ≤ N ∧ i = .int .i64 (16 * k : Nat) ∧ Hid (J (List.range k) wr) ∧ Hid (wr.cell? ⟨b1, 0, none⟩ = some (.slice A L c) ∧ wr.cell? ⟨b2, 0, none⟩ = some (.int .i64 16))) (fun i _ => 16 * N - (intOf i).toNat)
  case atStart => exact ⟨0, Nat.zero_le _, rfl, Lib.hid h0, Lib.hid ⟨h1, h2⟩⟩
  case round =>
    clear h0 h1 h2
    obtain ⟨k, hk, rfl, HJ, HC⟩ := hrel
    obtain ⟨q, hq⟩ : ∃ q, q = 16 * k := ⟨_, rfl⟩
    rw [← hq]
    have c1 := HC.out.1
    have c2 := HC.out.2
    by_cases hlt : k < N
    · have hLq : q < L := by have := HN.out; omega
      have hA := HA.out (by omega)
      subst hA
      have d1 : decide ((q : Int) < (L : Int)) = true := decide_eq_true (by omega)
      have d1' : decide (q < L) = true := decide_eq_true (by omega)
      have hL40 := HL.out.1
      have hLc := HL.out.2.1
      have hc := HL.out.2.2
      have hcq : ¬ c = q := by omega
      have hqc : q ≤ c := by omega
      have hqi : (q : Int) ≤ (L : Int) := by omega
      obtain ⟨E, hE⟩ : ∃ E, E = min 16 (L - q) := ⟨_, rfl⟩
      have hE2 : min (16 : Int) ((L - q : Nat) : Int) = (E : Int) := by omega
      obtain ⟨r, hr⟩ : ∃ r, r = q + E := ⟨_, rfl⟩
      have hr2 : (q : Int) + (E : Int) = (r : Int) := by omega
      have hr3 : IntKind.i64.wrap (r : Int) = (r : Int) := by rw [IntKind.wrap_i64]; omega
      have hr4 : (r : Int) ≤ (c : Int) := by omega
      have hr5 : (q : Int) ≤ (r : Int) := by omega
      have hr6 : r - q = E := by omega
      have hr7 : ¬ r = q := by omega
      have hr8 : r ≤ c := by omega
      have hr9 : q ≤ r := by omega
      have hr10 : IntKind.i64.wrap ((q : Int) + 16) = ((16 * (k + 1) : Nat) : Int) := by rw [IntKind.wrap_i64]; omega
      have hch : chv p o L k = #[.slice (some ⟨p, o + q, none⟩) E E] := by unfold chv clen; rw [← hq, ← hE]
      obtain ⟨fn, tmps, assign, body, hy, hR⟩ := HY.out (List.range k) k wr.drew (HJD.out _ _ HJ.out) (by rw [List.length_range]; exact hlt)
      rw [hch] at hy
      rw [← List.range_succ] at hR
      have HR := Lib.hid hR
      have HQ := Lib.hid (And.intro hq (And.intro hE hr))
      clear hR hch hq hE hr hLq hL40 hLc hc HJ
      gi_wp2
      gi_region_with_o (fail)
      all_goals gi_wp2
      all_goals refine HR.out.mono ?_
      all_goals
        rintro e W3 (⟨rfl, hJ3, hk3⟩ | ⟨rfl, hJx3⟩)
        · have e1 : W3.cell? ⟨b1, 0, none⟩ = some (.slice (some ⟨p, o, none⟩) L c) := hk3.1.trans c1
          have e2 : W3.cell? ⟨b2, 0, none⟩ = some (.int .i64 16) := hk3.2.trans c2
          have HJ3 := Lib.hid hJ3
          clear hJ3 hk3 c1 c2 hy HR HC
          gi_wp2
          go_roundw
          case rel => exact ⟨k + 1, by omega, by rfl, HJ3, Lib.hid ⟨e1, e2⟩⟩
          case measure => have HQ2 := HQ.out.1; simp [intOf]; omega
        · gi_wp2
          refine bodyPost_ret (results_none rfl _ _ _) rfl ?_
          exact ⟨⟨_, rfl⟩, .inr ⟨_, trivial, hJx3⟩⟩
    · have d1 : decide ((q : Int) < (L : Int)) = false := decide_eq_false (by have := HN.out; omega)
      have d1' : decide (q < L) = false := decide_eq_false (by have := HN.out; omega)
      have hkN : k = N := by omega
      subst hkN
      clear hq
      gi_wp2
      go_end0
      exact ⟨⟨_, rfl⟩, .inl ⟨_, rfl, HJ.out⟩⟩
end Go.Proofs.Ytfldoihindbdmaa

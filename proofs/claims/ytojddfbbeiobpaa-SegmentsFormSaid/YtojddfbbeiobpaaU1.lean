/- Checksums: the iterator over all bytes. -/
import Derived.Test.YtojddfbbeiobpaaU0
import Derived.RangeFuncNested
import Derived.RangeFuncBound
import Derived.RangeFuncCalls
import Derived.RangeFuncLeaves
import Derived.RangeFuncFrom
import Derived.Shelf.Abstract
import Derived.Shelf.RegionOpen
import Derived.OwnWalkIn
import Derived.TacticsInMore
import Derived.LoopNIn
import Derived.LoopIn
namespace Go.Proofs.Ytojddfbbeiobpaa
open Go.RowKit Go.Shelf
attribute [local go_sem] Oper.semAt_some
set_option maxRecDepth 100000
def shv (b : Bool) : Int := if b then 8 else 0
abbrev pe (x : Pr) : Array Value := #[B x.1, .int .i64 (shv x.2)]
def shf (k : Nat) : Int := if k % 2 = 0 then 8 else 0
theorem shf_succ (k : Nat) : 8 - shf k = shf (k + 1) := by unfold shf; split <;> split <;> omega
theorem shf_wrap (k : Nat) : IntKind.i64.wrap (8 - shf k) = shf (k + 1) := by rw [shf_succ]; unfold shf; split <;> rfl
theorem shf_wrap' (k : Nat) : wrap64 (8 - shf k) = shf (k + 1) := by rw [shf_succ]; unfold shf wrap64; split <;> decide
theorem shf_if (k : Nat) : shv (k % 2 == 0) = shf k := by unfold shf shv; simp
theorem flat_app (a b : List Src) : flat (a ++ b) = flat a ++ flat b := by simp [flat]
theorem flat_get {ls : List Src} {k j : Nat} (h : k < ls.length) (hj : j < ls[k].2.1.length) : (flat ls)[(flat (ls.take k)).length + j]? = some ls[k].2.1[j] := by
  have e : flat ls = flat (ls.take k) ++ (ls[k].2.1 ++ flat (ls.drop (k + 1))) := by
    rw [← List.append_assoc, ← flat_take h, ← flat_app, List.take_append_drop]
  rw [e, List.getElem?_append_right (by omega), show (flat (ls.take k)).length + j - (flat (ls.take k)).length = j by omega, List.getElem?_append_left hj, List.getElem?_eq_getElem hj]
set_option maxHeartbeats 2000000 in
theorem all1_in (F : Fence) (n : Nat) (hF : F.fn 51) (hro : F.round = none) (hn : 1 ≤ n) (l Bs n₀ p : Nat) (ls : List Src) (J Jx : List Pr → World → Prop)
    (hp : p < n₀) (hk : ls.length < 2 ^ 30) (hs : (flat ls).length < 2 ^ 40)
    (hY : ∀ pre x W, J pre W → pre.length < (flat ls).length → YieldAt F (n - 1) Try.prog l (pe x) W fun e W' =>
      (e = .returned (.bool true) ∧ J (pre ++ [x]) W' ∧ Below n₀ W W') ∨ (e = .returned (.bool false) ∧ Jx (pre ++ [x]) W'))
    (W : World) (hBs : W.cell? ⟨Bs, 0, none⟩ = some (.slice (some ⟨p, 0, none⟩) ls.length ls.length)) (hc : ∀ k, (h : k < ls.length) → W.cell? ⟨p, k, none⟩ = some ls[k].v)
    (hr : ∀ s ∈ ls, Rd W n₀ s.1 s.2.1) (h0 : J [] W) :
    CallsIn F n Try.prog 51 #[.func (.yield l) #[] #[], .pointer (some ⟨Bs, 0, none⟩)] W fun e W' => (∃ v, e = .returned v) ∧
      ((∃ ys, ys = tk (flat ls) (flat ls).length ∧ J ys W') ∨ (∃ pre, (∃ k, k ≤ (flat ls).length ∧ pre = tk (flat ls) k) ∧ Jx pre W')) := by
  have HC := Lib.hid hc; have HR := Lib.hid hr
  clear hc hr
  refine callsIn_of_wp Try.func51 rfl hF ?_ hro
  simp only [Try.ntmps51, List.size_toArray, List.length_cons, List.length_nil, Nat.reduceAdd, Nat.reduceSub, Array.replicate_succ, Array.replicate_zero, List.push_toArray, List.append_toArray, List.nil_append, List.cons_append]
  gi_wp2
  gi_loopw [3, 10] (fun s i wr => ∃ k : Nat, k ≤ ls.length ∧ i = .int .i64 k ∧ s = .int .i64 (shf (flat (ls.take k)).length) ∧ J (tk (flat ls) (flat (ls.take k)).length) wr ∧ Below n₀ W wr)
    (fun _ i _ => ls.length - (intOf i).toNat)
  case atStart => exact ⟨0, Nat.zero_le _, rfl, rfl, h0, Below.refl _ _⟩
  case round =>
    obtain ⟨k, hk', rfl, rfl, hJs, hnx⟩ := hrel
    by_cases hlt : k < ls.length
    · have hcx := (hnx.cell (p := ⟨p, k, none⟩) hp).trans (HC.out k hlt)
      obtain ⟨q, hq⟩ : ∃ q, q = ls[k] := ⟨_, rfl⟩
      have hg : ∀ j, (hj : j < q.2.1.length) → (flat ls)[(flat (ls.take k)).length + j]? = some q.2.1[j] := fun j hj => by subst hq; exact flat_get hlt hj
      have hft := flat_take hlt
      have hfl := flat_le (ls := ls) (k + 1)
      have hRd : Rd W n₀ q.1 q.2.1 := HR.out q (hq ▸ List.getElem_mem hlt)
      rw [← hq] at hcx hft
      rw [hft, List.length_append] at hfl
      clear hq
      obtain ⟨A, b, c⟩ := q
      simp only [Src.v] at hcx hg hRd hft hfl
      have hft' : (flat (ls.take (k + 1))).length = (flat (ls.take k)).length + b.length := by rw [hft, List.length_append]
      obtain ⟨X, hX⟩ : ∃ X, X = (flat (ls.take k)).length := ⟨_, rfl⟩
      rw [← hX] at hJs hg hft' hfl
      rw [← hX]
      have HG := Lib.hid hg; have HRd := Lib.hid hRd; have HF := Lib.hid hft'
      have d1 : decide ((k : Int) < (ls.length : Int)) = true := by simp; omega
      clear hft hX hg hRd hft'
      gi_wp2
      gi_loopw [3, 16] (fun s i wr => ∃ j : Nat, j ≤ b.length ∧ i = .int .i64 j ∧ s = .int .i64 (shf (X + j)) ∧ J (tk (flat ls) (X + j)) wr ∧ Below n₀ W wr)
        (fun _ i _ => b.length - (intOf i).toNat)
      case atStart => exact ⟨0, Nat.zero_le _, rfl, rfl, hJs, hnx⟩
      case round =>
        clear hJs hnx hcx
        obtain ⟨j, hj, rfl, rfl, hJs, hnx⟩ := hrel
        by_cases hlj : j < b.length
        · obtain ⟨bb, o, rfl, hbb, hcell⟩ := HRd.out (by omega)
          have hcy := (hnx.cell (p := ⟨bb, o + j, none⟩) hbb).trans (hcell j hlj)
          obtain ⟨fn, tmps, assign, body, hy, hR⟩ := hY (tk (flat ls) (X + j)) (b[j], (X + j) % 2 == 0) wr hJs (by rw [tk_length]; omega)
          have hgj := HG.out j hlj
          have hts : tk (flat ls) (X + j) ++ [(b[j], (X + j) % 2 == 0)] = tk (flat ls) (X + (j + 1)) := by rw [← Nat.add_assoc, tk_succ, hgj]; rfl
          rw [hts] at hR
          have e1 : decide ((j : Int) < (b.length : Int)) = true := by simp; omega
          simp only [pe, shf_if] at hy
          have HR' := Lib.hid hR
          clear hcell hJs hgj hts hR
          gi_wp2
          refine HR'.out.mono ?_
          rintro e W3 (⟨rfl, hJ3, hk3⟩ | ⟨rfl, hJx3⟩)
          · gi_wp2
            go_roundw
            case rel => exact ⟨j + 1, by omega, by simp, by rw [shf_wrap', Nat.add_assoc], hJ3, hnx.trans hk3⟩
            case measure => simp [intOf]; omega
          · gi_wp2
            refine bodyPost_ret (results_none rfl _ _ _) rfl ?_
            exact ⟨⟨_, rfl⟩, .inr ⟨_, ⟨X + (j + 1), by omega, rfl⟩, hJx3⟩⟩
        · obtain rfl : j = b.length := by omega
          have e1 : decide ((b.length : Int) < (b.length : Int)) = false := by simp
          gi_wp2
          go_roundw
          case rel => exact ⟨k + 1, by omega, by simp, by rw [HF.out], by rw [HF.out]; exact hJs, hnx⟩
          case measure => simp [intOf]; omega
    · obtain rfl : k = ls.length := by omega
      have d1 : decide ((ls.length : Int) < (ls.length : Int)) = false := by simp
      have hX : (flat (ls.take ls.length)).length = (flat ls).length := by rw [List.take_of_length_le (Nat.le_refl _)]
      rw [hX] at hJs
      gi_wp2
      go_end0
      exact ⟨⟨_, rfl⟩, .inl ⟨_, rfl, hJs⟩⟩
end Go.Proofs.Ytojddfbbeiobpaa

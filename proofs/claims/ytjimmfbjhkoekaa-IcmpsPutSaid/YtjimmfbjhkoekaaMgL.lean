import Derived.Test.YtjimmfbjhkoekaaMgG
import Derived.RangeFuncNested
import Derived.RangeFuncBound
import Derived.RangeFuncCalls
import Derived.RangeFuncLeaves
import Derived.RangeFuncFrom
import Derived.Shelf.Abstract
import Derived.Shelf.RegionOpen
import Derived.OwnWalkIn
import Derived.TacticsInMore
import Derived.LoopNIn
import Derived.LoopIn
import Derived.Laws.Bits64b
import Derived.Laws.BitsAllLaws
import Derived.Test.YtjimmfbjhkoekaaMgB
import Derived.Deep.RegionHeld3
/- Checksums: the iterator over all bytes. -/
namespace Go.Proofs.Ytjimmfbjhkoekaa
open Go.RowKit Go.Shelf
attribute [local go_sem] Oper.semAt_some
set_option maxRecDepth 100000
def shv (b : Bool) : Int := if b then 8 else 0
abbrev pe (x : Pr) : Array Value := #[B x.1, .int .i64 (shv x.2)]
def shf (k : Nat) : Int := if k % 2 = 0 then 8 else 0
theorem shf_succ (k : Nat) : 8 - shf k = shf (k + 1) := by unfold shf; split <;> split <;> omega
theorem shf_wrap (k : Nat) : IntKind.i64.wrap (8 - shf k) = shf (k + 1) := by rw [shf_succ]; unfold shf; split <;> rfl
theorem shf_wrap' (k : Nat) : wrap64 (8 - shf k) = shf (k + 1) := by rw [shf_succ]; unfold shf wrap64; split <;> decide
theorem shf_if (k : Nat) : shv (k % 2 == 0) = shf k := by unfold shf shv; simp
theorem flat_app (a b : List Src) : flat (a ++ b) = flat a ++ flat b := by simp [flat]
theorem flat_get {ls : List Src} {k j : Nat} (h : k < ls.length) (hj : j < ls[k].2.1.length) : (flat ls)[(flat (ls.take k)).length + j]? = some ls[k].2.1[j] := by
  have e : flat ls = flat (ls.take k) ++ (ls[k].2.1 ++ flat (ls.drop (k + 1))) := by
    rw [← List.append_assoc, ← flat_take h, ← flat_app, List.take_append_drop]
  rw [e, List.getElem?_append_right (by omega), show (flat (ls.take k)).length + j - (flat (ls.take k)).length = j by omega, List.getElem?_append_left hj, List.getElem?_eq_getElem hj]
set_option maxHeartbeats 2000000 in
theorem all1_in (F : Fence) (n : Nat) (hF : F.fn 77) (hro : F.round = none) (hn : 1 ≤ n) (l Bs n₀ p : Nat) (ls : List Src) (J Jx : List Pr → World → Prop)
    (hp : p < n₀) (hk : ls.length < 2 ^ 30) (hs : (flat ls).length < 2 ^ 40)
    (hY : ∀ pre x W, J pre W → pre.length < (flat ls).length → YieldAt F (n - 1) Try.prog l (pe x) W fun e W' =>
      (e = .returned (.bool true) ∧ J (pre ++ [x]) W' ∧ Below n₀ W W') ∨ (e = .returned (.bool false) ∧ Jx (pre ++ [x]) W'))
    (W : World) (hBs : W.cell? ⟨Bs, 0, none⟩ = some (.slice (some ⟨p, 0, none⟩) ls.length ls.length)) (hc : ∀ k, (h : k < ls.length) → W.cell? ⟨p, k, none⟩ = some ls[k].v)
    (hr : ∀ s ∈ ls, Rd W n₀ s.1 s.2.1) (h0 : J [] W) :
    CallsIn F n Try.prog 77 #[.func (.yield l) #[] #[], .pointer (some ⟨Bs, 0, none⟩)] W fun e W' => (∃ v, e = .returned v) ∧
      ((∃ ys, ys = tk (flat ls) (flat ls).length ∧ J ys W') ∨ (∃ pre, (∃ k, k ≤ (flat ls).length ∧ pre = tk (flat ls) k) ∧ Jx pre W')) := by
  have HC := Lib.hid hc; have HR := Lib.hid hr
  clear hc hr
  refine callsIn_of_wp Try.func77 rfl hF ?_ hro
  simp only [Try.ntmps77, List.size_toArray, List.length_cons, List.length_nil, Nat.reduceAdd, Nat.reduceSub, Array.replicate_succ, Array.replicate_zero, List.push_toArray, List.append_toArray, List.nil_append, List.cons_append]
  gi_wp2
  gi_loopw [3, 10] (fun s i wr => ∃ k : Nat, k ≤ ls.length ∧ i = .int .i64 k ∧ s = .int .i64 (shf (flat (ls.take k)).length) ∧ J (tk (flat ls) (flat (ls.take k)).length) wr ∧ Below n₀ W wr)
    (fun _ i _ => ls.length - (intOf i).toNat)
  case atStart => exact ⟨0, Nat.zero_le _, rfl, rfl, h0, Below.refl _ _⟩
  case round =>
    obtain ⟨k, hk', rfl, rfl, hJs, hnx⟩ := hrel
    by_cases hlt : k < ls.length
    · have hcx := (hnx.cell (p := ⟨p, k, none⟩) hp).trans (HC.out k hlt)
      obtain ⟨q, hq⟩ : ∃ q, q = ls[k] := ⟨_, rfl⟩
      have hg : ∀ j, (hj : j < q.2.1.length) → (flat ls)[(flat (ls.take k)).length + j]? = some q.2.1[j] := fun j hj => by subst hq; exact flat_get hlt hj
      have hft := flat_take hlt
      have hfl := flat_le (ls := ls) (k + 1)
      have hRd : Rd W n₀ q.1 q.2.1 := HR.out q (hq ▸ List.getElem_mem hlt)
      rw [← hq] at hcx hft
      rw [hft, List.length_append] at hfl
      clear hq
      obtain ⟨A, b, c⟩ := q
      simp only [Src.v] at hcx hg hRd hft hfl
      have hft' : (flat (ls.take (k + 1))).length = (flat (ls.take k)).length + b.length := by rw [hft, List.length_append]
      obtain ⟨X, hX⟩ : ∃ X, X = (flat (ls.take k)).length := ⟨_, rfl⟩
      rw [← hX] at hJs hg hft' hfl
      rw [← hX]
      have HG := Lib.hid hg; have HRd := Lib.hid hRd; have HF := Lib.hid hft'
      have d1 : decide ((k : Int) < (ls.length : Int)) = true := by simp; omega
      clear hft hX hg hRd hft'
      gi_wp2
      gi_loopw [3, 16] (fun s i wr => ∃ j : Nat, j ≤ b.length ∧ i = .int .i64 j ∧ s = .int .i64 (shf (X + j)) ∧ J (tk (flat ls) (X + j)) wr ∧ Below n₀ W wr)
        (fun _ i _ => b.length - (intOf i).toNat)
      case atStart => exact ⟨0, Nat.zero_le _, rfl, rfl, hJs, hnx⟩
      case round =>
        clear hJs hnx hcx
        obtain ⟨j, hj, rfl, rfl, hJs, hnx⟩ := hrel
        by_cases hlj : j < b.length
        · obtain ⟨bb, o, rfl, hbb, hcell⟩ := HRd.out (by omega)
          have hcy := (hnx.cell (p := ⟨bb, o + j, none⟩) hbb).trans (hcell j hlj)
          obtain ⟨fn, tmps, assign, body, hy, hR⟩ := hY (tk (flat ls) (X + j)) (b[j], (X + j) % 2 == 0) wr hJs (by rw [tk_length]; omega)
          have hgj := HG.out j hlj
          have hts : tk (flat ls) (X + j) ++ [(b[j], (X + j) % 2 == 0)] = tk (flat ls) (X + (j + 1)) := by rw [← Nat.add_assoc, tk_succ, hgj]; rfl
          rw [hts] at hR
          have e1 : decide ((j : Int) < (b.length : Int)) = true := by simp; omega
          simp only [pe, shf_if] at hy
          have HR' := Lib.hid hR
          clear hcell hJs hgj hts hR
          gi_wp2
          refine HR'.out.mono ?_
          rintro e W3 (⟨rfl, hJ3, hk3⟩ | ⟨rfl, hJx3⟩)
          · gi_wp2
            go_roundw
            case rel => exact ⟨j + 1, by omega, by simp, by rw [shf_wrap', Nat.add_assoc], hJ3, hnx.trans hk3⟩
            case measure => simp [intOf]; omega
          · gi_wp2
            refine bodyPost_ret (results_none rfl _ _ _) rfl ?_
            exact ⟨⟨_, rfl⟩, .inr ⟨_, ⟨X + (j + 1), by omega, rfl⟩, hJx3⟩⟩
        · obtain rfl : j = b.length := by omega
          have e1 : decide ((b.length : Int) < (b.length : Int)) = false := by simp
          gi_wp2
          go_roundw
          case rel => exact ⟨k + 1, by omega, by simp, by rw [HF.out], by rw [HF.out]; exact hJs, hnx⟩
          case measure => simp [intOf]; omega
    · obtain rfl : k = ls.length := by omega
      have d1 : decide ((ls.length : Int) < (ls.length : Int)) = false := by simp
      have hX : (flat (ls.take ls.length)).length = (flat ls).length := by rw [List.take_of_length_le (Nat.le_refl _)]
      rw [hX] at hJs
      gi_wp2
      go_end0
      exact ⟨⟨_, rfl⟩, .inl ⟨_, rfl, hJs⟩⟩
end Go.Proofs.Ytjimmfbjhkoekaa
/- Checksums: of lists. -/
namespace Go.Proofs.Ytjimmfbjhkoekaa
open Go.RowKit Go.Shelf
attribute [local go_sem] Oper.semAt_some
set_option maxRecDepth 100000
set_option maxHeartbeats 1000000 in
theorem all_in (F : Fence) (n : Nat) (hF : F.fn 73) (hro : F.round = none) (a : Option Addr) (len cap : Nat) (w : World) :
    CallsIn F n Try.prog 73 #[.slice a len cap] w fun e w' => e = .returned (.func (.func 77) #[] #[.pointer (some ⟨w.heap.size, 0, none⟩)]) ∧ w' = w.alloc (.cells #[.slice a len cap] 135) := by
  refine callsIn_of_wp Try.func73 rfl hF ?_ hro
  simp only [Try.ntmps73, List.size_toArray, List.length_cons, List.length_nil, Nat.reduceAdd, Nat.reduceSub, Array.replicate_succ, Array.replicate_zero, List.push_toArray, List.append_toArray, List.nil_append, List.cons_append]
  gi_wp2
  go_ret
  exact ⟨rfl, rfl⟩
theorem all_stops (F : Fence) (n : Nat) (hF : F.fn 77) (hro : F.round = none) (hn : 1 ≤ n) (Bs n₀ p : Nat) (ls : List Src) (w : World) (hBs : Bs < w.heap.size) (hn₀ : n₀ ≤ w.heap.size) (hp : p < n₀) (hk : ls.length < 2 ^ 30) (hs : (flat ls).length < 2 ^ 40)
    (hc : w.cell? ⟨Bs, 0, none⟩ = some (.slice (some ⟨p, 0, none⟩) ls.length ls.length)) (hcs : ∀ k, (h : k < ls.length) → w.cell? ⟨p, k, none⟩ = some ls[k].v) (hr : ∀ s ∈ ls, Rd w n₀ s.1 s.2.1) :
    SeqStopsK F n Try.prog 77 #[.pointer (some ⟨Bs, 0, none⟩)] pe (Below n₀) (fun ys => ys = tk (flat ls) (flat ls).length) (fun pre => ∃ k, k ≤ (flat ls).length ∧ pre = tk (flat ls) k) (flat ls).length w := fun l J Jx W hW _ _ hY h0 =>
  all1_in F n hF hro hn l Bs n₀ p ls J Jx hp hk hs hY W ((hW.cell (p := ⟨Bs, 0, none⟩) hBs).trans hc) (fun k h => (hW.cell (p := ⟨p, k, none⟩) (by show p < _; omega)).trans (hcs k h)) (fun s hs => (hr s hs).below hW hn₀) h0
theorem and16 (a : Nat) (h : a < 2 ^ 60) : bits .and .u64 (a : Int) 65535 = ((a % 65536 : Nat) : Int) := by
  have := bits_and_u64_nat a 65535 (by omega) (by omega)
  rw [show a &&& 65535 = a % 65536 from Nat.and_two_pow_sub_one_eq_mod a 16] at this
  exact this
theorem xor16 (a : Nat) (h : a < 65536) : bits .xor .u16 IntKind.u16.max (a : Int) = ((65535 - a : Nat) : Int) := by
  have h1 := u16_xor_nat 65535 a (by omega) h
  have h2 : (BitVec.allOnes 16 ^^^ BitVec.ofNat 16 a).toNat = 65535 - a := by
    rw [BitVec.allOnes_xor, BitVec.toNat_not, BitVec.toNat_ofNat]; omega
  rw [BitVec.toNat_xor, BitVec.toNat_allOnes, BitVec.toNat_ofNat, Nat.mod_eq_of_lt (by omega)] at h2
  rw [show (65535 : Nat) ^^^ a = 65535 - a from h2] at h1
  exact h1
set_option maxHeartbeats 2000000 in
theorem of_in (F : Fence) (n : Nat) (h35 : F.fn 56) (h38 : F.fn 73) (h39 : F.fn 77) (hro : F.round = none) (hn : 3 ≤ n) (p : Nat) (ls : List Src) (t : TypeId) (fr : Nat × Nat) (w : World)
    (hb : bk w p = some (.cells (ls.map Src.v).toArray t fr)) (hr : ∀ s ∈ ls, Rd w w.heap.size s.1 s.2.1) (hs : (flat ls).length < 2 ^ 40) (hk : ls.length < 2 ^ 30) :
    CallsIn F n Try.prog 56 #[.slice (some ⟨p, 0, none⟩) ls.length ls.length] w fun e w' => e = .returned (.int .u16 (sumOf (flat ls) : Nat)) ∧ Below w.heap.size w w' := by
  have h1 : 1 ≤ n := by omega
  have hmo : Try.prog.follows .mixedOrders = true := by kernel_rfl
  have hpl := bk_lt hb
  have hcs : ∀ k, (h : k < ls.length) → w.cell? ⟨p, k, none⟩ = some ls[k].v := fun k h => by
    rw [bk_cell hb]
    simp [List.getElem?_eq_getElem h]
  have HCS := Lib.hid hcs; have HR := Lib.hid hr
  clear hb hcs hr
  refine callsIn_of_wp_marks Try.func56 rfl h35 ?_ hro
  simp only [Try.ntmps56, List.size_toArray, List.length_cons, List.length_nil, Nat.reduceAdd, Nat.reduceSub, Array.replicate_succ, Array.replicate_zero, List.push_toArray, List.append_toArray, List.nil_append, List.cons_append]
  gi_wp2_with (gi_at_call 73; refine (all_in F (n - 1) h38 hro _ _ _ _).mono ?_; rintro e w' ⟨rfl, rfl⟩)
  have hkb : bk ((w.alloc (.cells #[.int .u64 0] 88)).alloc (.cells #[.slice (some ⟨p, 0, none⟩) ls.length ls.length] 135)) w.heap.size = some (.cells #[.int .u64 0] 88 (0, 0)) := by
    rw [bk_alloc_past _ _ _ (by simp)]; exact bk_alloc_at _ _ _ rfl
  have hkl : bk ((w.alloc (.cells #[.int .u64 0] 88)).alloc (.cells #[.slice (some ⟨p, 0, none⟩) ls.length ls.length] 135)) (w.heap.size + 1) = some (.cells #[.slice (some ⟨p, 0, none⟩) ls.length ls.length] 135 (0, 0)) := bk_alloc_at _ _ _ (by simp)
  have hB0 : Below w.heap.size w ((w.alloc (.cells #[.int .u64 0] 88)).alloc (.cells #[.slice (some ⟨p, 0, none⟩) ls.length ls.length] 135)) := ((Below.refl _ w).alloc (Nat.le_refl _) _).alloc (by simp) _
  refine wpIn_rangeFunc_ownF hro h1 (gf := 77) (lb := #[.pointer (some ⟨w.heap.size + 1, 0, none⟩)]) rfl h39 (enters_of Try.func77 (by kernel_rfl) rfl)
    (all_stops F (n - 1) h39 hro (by omega) (w.heap.size + 1) w.heap.size p ls _ (by simp) (by simp; omega) hpl hk hs ((bk_cell hkl 0).trans rfl) (fun k h => (hB0.cell (p := ⟨p, k, none⟩) hpl).trans (HCS.out k h)) (fun s hs => (HR.out s hs).below hB0 (Nat.le_refl _))) belowK_t (belowK_b (by simp; omega)) (Below.refl _ _) (fun _ => rfl)
    (fun pre W => (W.cell? ⟨w.heap.size, 0, none⟩ = some (.int .u64 (ws pre : Nat)) ∧ W.frozen? ⟨w.heap.size, 0, none⟩ = false) ∧ Below w.heap.size w W)
    (fun _ _ _ => False)
    (OwnFrom.and (Own.from (fun s A B row hs hg hr => ⟨cell_kept hs.1 hg hr, (frozen_kept hs.1 hg hr).trans hs.2⟩) _) (ownFrom_below (Nat.le_refl _) (by simp; omega)))
    (fun _ _ _ _ _ hs _ _ => hs)
    ⟨⟨(bk_cell hkb 0).trans rfl, bk_frozen hkb 0⟩, hB0⟩
    (fun x => { tmps := #[.slice (some ⟨p, 0, none⟩) ls.length ls.length, undef, .int .u16 0, .pointer (some ⟨w.heap.size, 0, none⟩), B x.1, .int .i64 (shv x.2), .slice (some ⟨p, 0, none⟩) ls.length ls.length, .func (.func 77) #[] #[.pointer (some ⟨w.heap.size + 1, 0, none⟩)], B x.1, .int .i64 (shv x.2), undef, undef, undef, undef, undef, undef, undef, undef, undef, undef, undef, undef, undef, undef, undef, undef], defers := [] }) ?assign ?body ?done ?stop
  case assign =>
    intro l x W K hK
    gi_wp2
    exact hK
  case body =>
    rintro l pre ⟨b, hi⟩ W ⟨⟨hc, hf⟩, hB⟩ hlt
    have hle := ws_le pre
    have hbl := b.toNat_lt
    cases hi
    · rw [show shv (b, false).2 = 0 from rfl]
      gi_wp2
      gi_region_with_o (fail)
      all_goals gi_wp2
      all_goals
        refine ⟨(KeepsOthers.setCell _ _ _).trans (KeepsOthers.drew _), ((Below.refl w.heap.size W).setCell (p := ⟨w.heap.size, 0, none⟩) (Nat.le_refl _) _).drew, ⟨(cell_drew_own _ _).trans ((World.cell?_setCell_same' _ _ _ (by rw [hc]; rfl)).trans ?_), (frozen_drew_own _ _).trans (by rw [World.frozen?_setCell]; exact hf)⟩, (hB.setCell (p := ⟨w.heap.size, 0, none⟩) (Nat.le_refl _) _).drew⟩
        rw [ws_snoc]
        simp only [IntKind.wrap_u64, wt]
        congr 2
        simp
        omega
    · rw [show shv (b, true).2 = 8 from rfl]
      gi_wp2
      gi_region_with_o (fail)
      all_goals gi_wp2
      all_goals
        refine ⟨(KeepsOthers.setCell _ _ _).trans (KeepsOthers.drew _), ((Below.refl w.heap.size W).setCell (p := ⟨w.heap.size, 0, none⟩) (Nat.le_refl _) _).drew, ⟨(cell_drew_own _ _).trans ((World.cell?_setCell_same' _ _ _ (by rw [hc]; rfl)).trans ?_), (frozen_drew_own _ _).trans (by rw [World.frozen?_setCell]; exact hf)⟩, (hB.setCell (p := ⟨w.heap.size, 0, none⟩) (Nat.le_refl _) _).drew⟩
        rw [ws_snoc]
        simp only [IntKind.wrap_u64, wt]
        congr 2
        simp
        omega
  case done =>
    rintro D ys W hD rfl ⟨⟨hc, hf⟩, hB⟩ hK
    have hwl := ws_le (tk (flat ls) (flat ls).length)
    rw [tk_length] at hwl
    have HT := Lib.hid (show ws (tk (flat ls) (flat ls).length) = WS (flat ls) from rfl)
    generalize ws (tk (flat ls) (flat ls).length) = T at *
    gi_wp2
    gi_loopw [] (fun wr => ∃ a : Nat, a ≤ T ∧ red a = red T ∧ wr.cell? ⟨w.heap.size, 0, none⟩ = some (.int .u64 (a : Nat)) ∧ wr.frozen? ⟨w.heap.size, 0, none⟩ = false ∧ Below w.heap.size w wr ∧ wr.heap[D]? = some (.deferred (some []))) (fun wr => (intOf ((wr.cell? ⟨w.heap.size, 0, none⟩).getD undef)).toNat)
    case atStart => exact ⟨T, Nat.le_refl _, rfl, hc, hf, hB, hK⟩
    case round =>
      clear hc hf hB hK
      obtain ⟨a, haT, hra, hc, hf, hB, hK⟩ := hrel
      by_cases hlt : 65535 < a
      · have d1 : decide (65535 < (a : Int)) = true := by simp; omega
        obtain ⟨a', ha'⟩ : ∃ a', a' = a / 65536 + a % 65536 := ⟨_, rfl⟩
        have hv : IntKind.u64.wrap ((a : Int) / 65536 + bits BinOp.and IntKind.u64 (a : Int) 65535) = (a' : Int) := by
          rw [and16 a (by omega), IntKind.wrap_u64]; omega
        have hra' : red a' = red T := by rw [ha', red_fold _ hlt]; exact hra
        have hal : a' < a := by rw [ha']; exact fold_lt a hlt
        clear ha'
        gi_wp2
        go_roundw
        case rel =>
          exact ⟨a', by omega, hra', World.cell?_setCell_same' _ _ _ (by rw [hc]; rfl), by rw [World.frozen?_setCell]; exact hf, hB.setCell (p := ⟨w.heap.size, 0, none⟩) (Nat.le_refl _) _, (KeepsOthers.setCell _ _ _).same D _ hK rfl⟩
        case measure =>
          rw [World.cell?_setCell_same' _ _ _ (by rw [hc]; rfl), hc]
          simp [intOf]
          omega
      · have d1 : decide (65535 < (a : Int)) = false := by simp; omega
        have hv : bits BinOp.xor IntKind.u16 IntKind.u16.max (a : Int) = ((sumOf (flat ls) : Nat) : Int) := by
          rw [xor16 a (by omega), sumOf, ← HT.out, ← hra, red_small (by omega)]
        gi_wp2
        refine ⟨by simp, .inl ⟨_, _, rfl, run_takeDeferred hK, ?_⟩⟩
        exact ⟨_, results_tmp rfl _ _ _, rfl, hB.trans (belowK_b (w := w) (Nat.le_refl _) wr D _ _ (by simp at hD; omega) hK rfl rfl)⟩
  case stop =>
    rintro D c pre W _ _ h _
    exact h.elim
theorem of_any (p : Nat) (ls : List Src) (t : TypeId) (fr : Nat × Nat) (w : World)
    (hb : bk w p = some (.cells (ls.map Src.v).toArray t fr)) (hr : ∀ s ∈ ls, Rd w w.heap.size s.1 s.2.1) (hs : (flat ls).length < 2 ^ 40) (hk : ls.length < 2 ^ 30) :
    Calls Try.prog 56 #[.slice (some ⟨p, 0, none⟩) ls.length ls.length] w fun e w' => e = .returned (.int .u16 (sumOf (flat ls) : Nat)) ∧ Below w.heap.size w w' :=
  (callsIn_wide (n := 3)).1 (of_in Fence.wide 3 trivial trivial trivial rfl (by omega) p ls t fr w hb hr hs hk)
end Go.Proofs.Ytjimmfbjhkoekaa
/- Checksums: the document's of one list. -/
namespace Go.Proofs.Ytjimmfbjhkoekaa
open Go.RowKit
set_option maxRecDepth 100000
theorem tk_two (l : List UInt8) (m : Nat) (h : 2 * m + 1 < l.length) : ws (tk l (2 * m + 2)) = ws (tk l (2 * m)) + (256 * (l[2 * m]'(by omega)).toNat + l[2 * m + 1].toNat) := by
  rw [tk_succ, tk_succ, ws_snoc, ws_snoc, List.getElem?_eq_getElem (by omega), List.getElem?_eq_getElem h]
  simp [wt, show (2 * m + 1) % 2 = 1 by omega]
  omega
theorem tk_one (l : List UInt8) (m : Nat) (h : 2 * m < l.length) : ws (tk l (2 * m + 1)) = ws (tk l (2 * m)) + 256 * l[2 * m].toNat := by
  rw [tk_succ, ws_snoc, List.getElem?_eq_getElem h]
  simp [wt]
set_option maxHeartbeats 1000000 in
theorem rof_any (A : Option Addr) (l : List UInt8) (c : Nat) (w : World) (h : Rd w w.heap.size A l) (hl : l.length < 2 ^ 40) :
    Calls Try.prog 67 #[.slice A l.length c] w fun e w' => e = .returned (.int .u16 (sumOf l : Nat)) ∧ w = w' := by
  have H := Lib.hid h
  clear h
  go_enter Try.func67, Try.ntmps67
  go_wp2_with fail
  go_loopw [3, 4] (fun s i wr => ∃ m : Nat, 2 * m ≤ l.length + 1 ∧ i = .int .i64 (2 * m : Nat) ∧ s = .int .u32 (red (ws (tk l (min (2 * m) l.length))) : Nat) ∧ w = wr) (fun _ i _ => l.length + 2 - (intOf i).toNat)
  case atStart => exact ⟨0, by omega, rfl, by simp [tk, ws, red], rfl⟩
  case round =>
    obtain ⟨m, hm, rfl, rfl, rfl⟩ := hrel
    by_cases hlt : 2 * m < l.length
    · have d1 : decide (((2 * m : Nat) : Int) < (l.length : Int)) = true := by simp; omega
      obtain ⟨b, o, rfl, hbl, hc⟩ := H.out (by omega)
      have h0 := hc (2 * m) hlt
      have x0 := (l[2 * m]).toNat_lt
      have hmin : min (2 * m) l.length = 2 * m := by omega
      rw [hmin]
      have hS := red_le (ws (tk l (2 * m)))
      by_cases hlt1 : 2 * m + 1 < l.length
      · have h1 := hc (2 * m + 1) hlt1
        have x1 := (l[2 * m + 1]).toNat_lt
        have hmin' : min (2 * (m + 1)) l.length = 2 * m + 2 := by omega
        have hnew := red_add (ws (tk l (2 * m))) (256 * l[2 * m].toNat + l[2 * m + 1].toNat) (by omega)
        rw [← tk_two l m hlt1, ← hmin'] at hnew
        have HN := Lib.hid hnew
        clear hnew hmin hmin' hc
        unfold B at h0 h1
        generalize hgs : red (ws (tk l (2 * m))) = S at *
        generalize l[2 * m].toNat = y0 at *
        generalize l[2 * m + 1].toNat = y1 at *
        obtain ⟨q, hq⟩ : ∃ q, q = 2 * m := ⟨_, rfl⟩
        rw [← hq] at h0 h1 d1 hlt hlt1
        rw [← hq]
        have HQ := Lib.hid hq
        have w0 : IntKind.u32.wrap (y0 : Int) = y0 := by rw [IntKind.wrap_u32]; omega
        have w1 : IntKind.u32.wrap (y1 : Int) = y1 := by rw [IntKind.wrap_u32]; omega
        have w2 : IntKind.u32.wrap (256 * (y0 : Int)) = 256 * y0 := by rw [IntKind.wrap_u32]; omega
        have w3 : IntKind.u32.wrap (256 * (y0 : Int) + y1) = 256 * y0 + y1 := by rw [IntKind.wrap_u32]; omega
        have w4 : IntKind.u32.wrap ((S : Int) + (256 * y0 + y1)) = S + (256 * y0 + y1) := by rw [IntKind.wrap_u32]; omega
        have e1 : decide ((q : Int) + 1 < (l.length : Int)) = true := by simp; omega
        have t1 : ((q : Int) + 1).toNat = q + 1 := by omega
        clear hgs hq
        by_cases hbig : 65535 < S + (256 * y0 + y1)
        · have w5 : IntKind.u32.wrap ((S : Int) + (256 * y0 + y1) - 65535) = S + (256 * y0 + y1) - 65535 := by rw [IntKind.wrap_u32]; omega
          have e2 : decide (65535 < (S : Int) + (256 * y0 + y1)) = true := by simp; omega
          go_wp2_with fail
          go_roundw
          case rel =>
            have hq := HQ.out
            exact ⟨m + 1, by omega, by congr 1; go_num, (by rw [← HN.out, if_pos hbig]; congr 1; omega), by trivial⟩
          case measure => simp [intOf]; omega
        · have e2 : decide (65535 < (S : Int) + (256 * y0 + y1)) = false := by simp; omega
          go_wp2_with fail
          go_roundw
          case rel =>
            have hq := HQ.out
            exact ⟨m + 1, by omega, by congr 1; go_num, (by rw [← HN.out, if_neg hbig]; congr 1), by trivial⟩
          case measure => simp [intOf]; omega
      · have hmin' : min (2 * (m + 1)) l.length = 2 * m + 1 := by omega
        have hnew := red_add (ws (tk l (2 * m))) (256 * l[2 * m].toNat) (by omega)
        rw [← tk_one l m hlt, ← hmin'] at hnew
        have HN := Lib.hid hnew
        clear hnew hmin hmin' hc
        unfold B at h0
        generalize hgs : red (ws (tk l (2 * m))) = S at *
        generalize l[2 * m].toNat = y0 at *
        obtain ⟨q, hq⟩ : ∃ q, q = 2 * m := ⟨_, rfl⟩
        rw [← hq] at h0 d1 hlt hlt1
        rw [← hq]
        have HQ := Lib.hid hq
        have w0 : IntKind.u32.wrap (y0 : Int) = y0 := by rw [IntKind.wrap_u32]; omega
        have w2 : IntKind.u32.wrap (256 * (y0 : Int)) = 256 * y0 := by rw [IntKind.wrap_u32]; omega
        have w4 : IntKind.u32.wrap ((S : Int) + 256 * y0) = S + 256 * y0 := by rw [IntKind.wrap_u32]; omega
        have e1 : decide ((q : Int) + 1 < (l.length : Int)) = false := by simp; omega
        clear hgs hq
        by_cases hbig : 65535 < S + 256 * y0
        · have w5 : IntKind.u32.wrap ((S : Int) + 256 * y0 - 65535) = S + 256 * y0 - 65535 := by rw [IntKind.wrap_u32]; omega
          have e2 : decide (65535 < (S : Int) + 256 * y0) = true := by simp; omega
          go_wp2_with fail
          go_roundw
          case rel =>
            have hq := HQ.out
            exact ⟨m + 1, by omega, by congr 1; go_num, (by rw [← HN.out, if_pos hbig]; congr 1; omega), by trivial⟩
          case measure => simp [intOf]; omega
        · have e2 : decide (65535 < (S : Int) + 256 * y0) = false := by simp; omega
          go_wp2_with fail
          go_roundw
          case rel =>
            have hq := HQ.out
            exact ⟨m + 1, by omega, by congr 1; go_num, (by rw [← HN.out, if_neg hbig]; congr 1), by trivial⟩
          case measure => simp [intOf]; omega
    · have d1 : decide (((2 * m : Nat) : Int) < (l.length : Int)) = false := by simp; omega
      have hmin : min (2 * m) l.length = l.length := by omega
      rw [hmin]
      have hS := red_le (ws (tk l l.length))
      have HE := Lib.hid (show ((65535 - red (ws (tk l l.length)) : Nat) : Int) = (sumOf l : Nat) from rfl)
      generalize red (ws (tk l l.length)) = S at *
      have w4 : IntKind.u32.wrap (65535 - (S : Int)) = 65535 - S := by rw [IntKind.wrap_u32]; omega
      have w5 : IntKind.u16.wrap (65535 - (S : Int)) = 65535 - S := by rw [IntKind.wrap_u16]; omega
      go_wp2_with fail
      go_ret
      exact ⟨ret_int (by rw [← HE.out]; first | omega | (rw [w5]; omega)), rfl⟩
end Go.Proofs.Ytjimmfbjhkoekaa
/- Checksums: with the pseudo header. -/
namespace Go.Proofs.Ytjimmfbjhkoekaa
open Go.RowKit
set_option maxRecDepth 100000
@[go_sem ↓] theorem ldAddr (dst : Option Tmp) (x : Operand) (t : TypeId) (pos : String) (af : Array Edge) (g : Option (Nat × Bool)) (a : Act) (w : World) (K : Act → World → Prop) (Q : Exit → Act → World → Prop) :
    Oper.wp Try.prog ⟨dst, .load 23 x, t, pos, af, g⟩ a w K Q = ldPtr (wpHid Try.prog ⟨dst, .load 23 x, t, pos, af, g⟩ a w K Q) 16 w (fun c => K (a.put dst (.agg c)) w) (a.eval x) :=
  wp_load_bk 23 16 _ Try.underlying23 rfl (by kernel_rfl) dst x t pos af g a w K Q
@[go_sem ↓] theorem stAddr (dst : Option Tmp) (x y : Operand) (t : TypeId) (pos : String) (af : Array Edge) (g : Option (Nat × Bool)) (a : Act) (w : World) (K : Act → World → Prop) (Q : Exit → Act → World → Prop) :
    Oper.wp Try.prog ⟨dst, .store 23 x y, t, pos, af, g⟩ a w K Q = stPtr (wpHid Try.prog ⟨dst, .store 23 x y, t, pos, af, g⟩ a w K Q) 16 w (fun w' => K (a.put dst undef) w') (a.eval x) (a.eval y) :=
  wp_store_bk 23 16 (by kernel_rfl) dst x y t pos af g a w K Q
@[go_sem ↓] theorem qlAddr (dst : Option Tmp) (x : Operand) (t : TypeId) (pos : String) (af : Array Edge) (g : Option (Nat × Bool)) (a : Act) (m : Nat) (W : World) (K : Act → Prop) :
    Oper.quiet Try.prog ⟨dst, .load 23 x, t, pos, af, g⟩ a (fun w' => ∃ x : Later m W, w' = x.w) K =
      ldLater (quietHid Try.prog ⟨dst, .load 23 x, t, pos, af, g⟩ a (fun w' => ∃ x : Later m W, w' = x.w) K) m 16 W (fun c => K (a.put dst (.agg c))) (a.eval x) :=
  quiet_load_bk 23 16 _ Try.underlying23 rfl (by kernel_rfl) dst x t pos af g a m W K
theorem Rd.of_all {w : World} {x n : Nat} {l : List UInt8} {t : TypeId} {fr : Nat × Nat} (h : bk w x = some (.cells (l.map B).toArray t fr)) (hn : x < n) : Rd w n (some ⟨x, 0, none⟩) l := fun _ => ⟨x, 0, rfl, hn, fun j hj => by
  rw [bk_cell h, Nat.zero_add]
  simp [List.getElem?_eq_getElem hj]⟩
theorem of_rows (w1 : World) (p x y u v : Nat) (src dst : List UInt8) (nx : UInt8) (A : Option Addr) (l : List UInt8) (c : Nat) (t t1 t2 t3 t4 : TypeId) (fr fr1 fr2 fr3 fr4 : Nat × Nat) (h1 : src.length = 16) (h2 : dst.length = 16) (hl : l.length < 2 ^ 32)
    (hp : bk w1 p = some (.cells #[.slice (some ⟨x, 0, none⟩) 16 16, .slice (some ⟨y, 0, none⟩) 16 16, .slice (some ⟨u, 0, none⟩) 4 4, .slice (some ⟨v, 0, none⟩) 4 4, .slice A l.length c] t fr))
    (hx : bk w1 x = some (.cells (src.map B).toArray t1 fr1)) (hy : bk w1 y = some (.cells (dst.map B).toArray t2 fr2)) (hu : bk w1 u = some (.cells ((nb 4 l.length).map B).toArray t3 fr3)) (hv : bk w1 v = some (.cells (([0, 0, 0, nx] : List UInt8).map B).toArray t4 fr4))
    (hR : Rd w1 w1.heap.size A l) :
    Calls Try.prog 56 #[.slice (some ⟨p, 0, none⟩) 5 5] w1 fun e w' => e = .returned (.int .u16 (sumOf (ovr src dst nx l) : Nat)) ∧ Below w1.heap.size w1 w' := by
  have hf : flat [(some ⟨x, 0, none⟩, src, 16), (some ⟨y, 0, none⟩, dst, 16), (some ⟨u, 0, none⟩, nb 4 l.length, 4), (some ⟨v, 0, none⟩, [0, 0, 0, nx], 4), (A, l, c)] = ovr src dst nx l := by simp [flat, ovr, List.append_assoc]
  have C := of_any p [(some ⟨x, 0, none⟩, src, 16), (some ⟨y, 0, none⟩, dst, 16), (some ⟨u, 0, none⟩, nb 4 l.length, 4), (some ⟨v, 0, none⟩, [0, 0, 0, nx], 4), (A, l, c)] t fr w1 (by rw [hp]; simp [Src.v, h1, h2, nb_length]) (fun s hs => by
    simp only [List.mem_cons, List.not_mem_nil, or_false] at hs
    rcases hs with rfl | rfl | rfl | rfl | rfl
    · exact Rd.of_all hx (bk_lt hx)
    · exact Rd.of_all hy (bk_lt hy)
    · exact Rd.of_all hu (bk_lt hu)
    · exact Rd.of_all hv (bk_lt hv)
    · exact hR) (by rw [hf, ovr_length _ _ _ _ h1 h2]; omega) (by simp)
  rw [hf] at C
  exact C
theorem nb4 (n : Nat) : nb 4 n = [UInt8.ofNat (n / 16777216), UInt8.ofNat (n / 65536), UInt8.ofNat (n / 256), UInt8.ofNat n] := by simp [nb, List.range_succ]
theorem B_ofNat' (n : Nat) : B (UInt8.ofNat n) = .int .u8 ((n : Int) % 256) := by
  unfold B
  rw [UInt8.toNat_ofNat']
  congr 1
set_option maxHeartbeats 2000000 in
theorem over_any (src dst : List UInt8) (nx : UInt8) (A : Option Addr) (l : List UInt8) (c : Nat) (w : World) (h1 : src.length = 16) (h2 : dst.length = 16) (h : Rd w w.heap.size A l) (hl : l.length < 2 ^ 32) :
    Calls Try.prog 25 #[av src, av dst, B nx, .slice A l.length c] w fun e w' => e = .returned (.int .u16 (sumOf (ovr src dst nx l) : Nat)) ∧ Below w.heap.size w w' := by
  have H := Lib.hid h
  clear h
  go_enter Try.func25, Try.ntmps25
  have a0 : Below w.heap.size w ((w.alloc (.cells (src.map B).toArray 23)).alloc (.cells (dst.map B).toArray 23)) := ((Below.refl _ _).alloc (Nat.le_refl _) _).alloc (by simp) _
  have k0 : bk ((w.alloc (.cells (src.map B).toArray 23)).alloc (.cells (dst.map B).toArray 23)) w.heap.size = some (.cells (src.map B).toArray 23 (0, 0)) := by rw [bk_alloc_past _ _ _ (by simp)]; exact bk_alloc_at _ _ _ rfl
  have k1 : bk ((w.alloc (.cells (src.map B).toArray 23)).alloc (.cells (dst.map B).toArray 23)) (w.heap.size + 1) = some (.cells (dst.map B).toArray 23 (0, 0)) := bk_alloc_at _ _ _ (by simp)
  have z0 : ((w.alloc (.cells (src.map B).toArray 23)).alloc (.cells (dst.map B).toArray 23)).heap.size = w.heap.size + 1 + 1 := by simp
  have A0 := Lib.hid a0; have K0 := Lib.hid k0; have K1 := Lib.hid k1; have Z0 := Lib.hid z0
  clear a0 k0 k1 z0
  go_wp2_with fail
  generalize (w.alloc (.cells (src.map B).toArray 23)).alloc (.cells (dst.map B).toArray 23) = wa at *
  have hca : (#[.int .u8 (IntKind.u8.wrap ((l.length : Int) / 16777216)), .int .u8 (IntKind.u8.wrap ((l.length : Int) / 65536)), .int .u8 (IntKind.u8.wrap ((l.length : Int) / 256)), .int .u8 (IntKind.u8.wrap (l.length : Int))] : Array Value) = ((nb 4 l.length).map B).toArray := by
    rw [nb4, List.map_cons, List.map_cons, List.map_cons, List.map_cons, List.map_nil, B_ofNat', B_ofNat', B_ofNat', B_ofNat', IntKind.wrap_u8, IntKind.wrap_u8, IntKind.wrap_u8, IntKind.wrap_u8]
    rfl
  have HCA := Lib.hid hca
  clear hca
  have hz := Z0.out
  have a3 : ∀ X Y Z, Below w.heap.size w (((wa.alloc X).alloc Y).alloc Z).drew := fun X Y Z => (((A0.out.alloc (by omega) _).alloc (by simp; omega) _).alloc (by simp; omega) _).drew
  have c1 : Calls Try.prog 56 #[.slice (some ⟨wa.heap.size + 1 + 1, 0, none⟩) 5 5] (((wa.alloc (.cells #[.int .u8 (IntKind.u8.wrap ((l.length : Int) / 16777216)), .int .u8 (IntKind.u8.wrap ((l.length : Int) / 65536)), .int .u8 (IntKind.u8.wrap ((l.length : Int) / 256)), .int .u8 (IntKind.u8.wrap (l.length : Int))] 5)).alloc (.cells #[.int .u8 0, .int .u8 0, .int .u8 0, B nx] 5)).alloc (.cells #[.slice (some ⟨w.heap.size, 0, none⟩) 16 16, .slice (some ⟨w.heap.size + 1, 0, none⟩) 16 16, .slice (some ⟨wa.heap.size, 0, none⟩) 4 4, .slice (some ⟨wa.heap.size + 1, 0, none⟩) 4 4, .slice A l.length c] 27)).drew fun e w' => e = .returned (.int .u16 (sumOf (ovr src dst nx l) : Nat)) ∧ Below w.heap.size w w' := by
    refine (of_rows _ (wa.heap.size + 1 + 1) w.heap.size (w.heap.size + 1) wa.heap.size (wa.heap.size + 1) src dst nx A l c _ _ _ _ _ (0, 0) (0, 0) (0, 0) (0, 0) (0, 0) h1 h2 hl (by rw [bk_drew, bk_alloc_at _ _ _ (by simp)]) (by rw [bk_drew, bk_alloc_past _ _ _ (by simp; omega), bk_alloc_past _ _ _ (by simp; omega), bk_alloc_past _ _ _ (by omega)]; exact K0.out) (by rw [bk_drew, bk_alloc_past _ _ _ (by simp; omega), bk_alloc_past _ _ _ (by simp; omega), bk_alloc_past _ _ _ (by omega)]; exact K1.out) (by rw [bk_drew, bk_alloc_past _ _ _ (by simp; omega), bk_alloc_past _ _ _ (by simp), bk_alloc_at _ _ _ rfl]; exact congrArg (fun c => some (Obj.cells c _ _)) HCA.out) (by rw [bk_drew, bk_alloc_past _ _ _ (by simp), bk_alloc_at _ _ _ (by simp)]; rfl) ((H.out.below (a3 _ _ _) (Nat.le_refl _)).mono (a3 _ _ _).size)).mono ?_
    rintro e w2 ⟨rfl, b2⟩
    exact ⟨rfl, (a3 _ _ _).trans (b2.mono (a3 _ _ _).size)⟩
  have c2 : Calls Try.prog 56 #[.slice (some ⟨wa.heap.size + 1 + 1, 0, none⟩) 5 5] (((wa.alloc (.cells #[.int .u8 0, .int .u8 0, .int .u8 0, B nx] 5)).alloc (.cells #[.int .u8 (IntKind.u8.wrap ((l.length : Int) / 16777216)), .int .u8 (IntKind.u8.wrap ((l.length : Int) / 65536)), .int .u8 (IntKind.u8.wrap ((l.length : Int) / 256)), .int .u8 (IntKind.u8.wrap (l.length : Int))] 5)).alloc (.cells #[.slice (some ⟨w.heap.size, 0, none⟩) 16 16, .slice (some ⟨w.heap.size + 1, 0, none⟩) 16 16, .slice (some ⟨wa.heap.size + 1, 0, none⟩) 4 4, .slice (some ⟨wa.heap.size, 0, none⟩) 4 4, .slice A l.length c] 27)).drew fun e w' => e = .returned (.int .u16 (sumOf (ovr src dst nx l) : Nat)) ∧ Below w.heap.size w w' := by
    refine (of_rows _ (wa.heap.size + 1 + 1) w.heap.size (w.heap.size + 1) (wa.heap.size + 1) wa.heap.size src dst nx A l c _ _ _ _ _ (0, 0) (0, 0) (0, 0) (0, 0) (0, 0) h1 h2 hl (by rw [bk_drew, bk_alloc_at _ _ _ (by simp)]) (by rw [bk_drew, bk_alloc_past _ _ _ (by simp; omega), bk_alloc_past _ _ _ (by simp; omega), bk_alloc_past _ _ _ (by omega)]; exact K0.out) (by rw [bk_drew, bk_alloc_past _ _ _ (by simp; omega), bk_alloc_past _ _ _ (by simp; omega), bk_alloc_past _ _ _ (by omega)]; exact K1.out) (by rw [bk_drew, bk_alloc_past _ _ _ (by simp), bk_alloc_at _ _ _ (by simp)]; exact congrArg (fun c => some (Obj.cells c _ _)) HCA.out) (by rw [bk_drew, bk_alloc_past _ _ _ (by simp; omega), bk_alloc_past _ _ _ (by simp), bk_alloc_at _ _ _ rfl]; rfl) ((H.out.below (a3 _ _ _) (Nat.le_refl _)).mono (a3 _ _ _).size)).mono ?_
    rintro e w2 ⟨rfl, b2⟩
    exact ⟨rfl, (a3 _ _ _).trans (b2.mono (a3 _ _ _).size)⟩
  have C1 := Lib.hid c1; have C2 := Lib.hid c2
  clear c1 c2 a3 hz
  go_region_held3 (fun _ => True) (trivial)
    (first
      | (go_at_call 56; with_reducible refine C1.out.mono ?_; rintro e w2 ⟨rfl, b2⟩; have F2 := Lib.hid b2; clear b2)
      | (go_at_call 56; with_reducible refine C2.out.mono ?_; rintro e w2 ⟨rfl, b2⟩; have F2 := Lib.hid b2; clear b2))
  all_goals
    go_wp2_with fail
    go_ret
    exact ⟨rfl, F2.out⟩
end Go.Proofs.Ytjimmfbjhkoekaa
/- Checksums: the document's with the pseudo header; whether one is good. -/
namespace Go.Proofs.Ytjimmfbjhkoekaa
open Go.RowKit
set_option maxRecDepth 100000
theorem good_any (src dst : List UInt8) (nx : UInt8) (A : Option Addr) (l : List UInt8) (c : Nat) (w : World) (h1 : src.length = 16) (h2 : dst.length = 16) (h : Rd w w.heap.size A l) (hl : l.length < 2 ^ 32) :
    Calls Try.prog 23 #[av src, av dst, B nx, .slice A l.length c] w fun e w' => e = .returned (.bool (decide (sumOf (ovr src dst nx l) = 0))) ∧ Below w.heap.size w w' := by
  have H := Lib.hid h
  clear h
  have hq : (((sumOf (ovr src dst nx l) : Nat) : Int) == 0) = decide (sumOf (ovr src dst nx l) = 0) := by rw [Bool.eq_iff_iff]; simp
  go_enter Try.func23, Try.ntmps23
  have a0 : Below w.heap.size w ((w.alloc (.cells (src.map B).toArray 23)).alloc (.cells (dst.map B).toArray 23)) := ((Below.refl _ _).alloc (Nat.le_refl _) _).alloc (by simp) _
  go_wp2_with fail
  refine (over_any src dst nx A l c _ h1 h2 ((H.out.below a0 (Nat.le_refl _)).mono a0.size) hl).mono ?_
  rintro e w1 ⟨rfl, b1⟩
  have f1 := a0.trans (b1.mono a0.size)
  generalize hS : sumOf (ovr src dst nx l) = S at hq ⊢
  have HS := Lib.hid hS
  clear a0 b1 hS
  go_wp2_with fail
  go_ret
  exact ⟨by rw [HS.out]; rfl, f1⟩
set_option maxHeartbeats 400000 in
theorem rover_any (src dst : List UInt8) (nx : UInt8) (A : Option Addr) (l : List UInt8) (c : Nat) (w : World) (h1 : src.length = 16) (h2 : dst.length = 16) (h : Rd w w.heap.size A l) (hA : A = none → l = [] ∧ c = 0) (hl : l.length < 2 ^ 32) :
    Calls Try.prog 35 #[av src, av dst, B nx, .slice A l.length c] w fun e w' => e = .returned (.int .u16 (sumOf (ovr src dst nx l) : Nat)) ∧ Below w.heap.size w w' := by
  have H := Lib.hid h; have HA := Lib.hid hA
  have H1 := Lib.hid h1; have H2 := Lib.hid h2
  clear h hA
  go_enter Try.func35, Try.ntmps35
  have a0 : Below w.heap.size w ((w.alloc (.cells (src.map B).toArray 23)).alloc (.cells (dst.map B).toArray 23)) := ((Below.refl _ _).alloc (Nat.le_refl _) _).alloc (by simp) _
  have k0 : bk ((w.alloc (.cells (src.map B).toArray 23)).alloc (.cells (dst.map B).toArray 23)) w.heap.size = some (.cells (src.map B).toArray 23 (0, 0)) := by rw [bk_alloc_past _ _ _ (by simp)]; exact bk_alloc_at _ _ _ rfl
  have k1 : bk ((w.alloc (.cells (src.map B).toArray 23)).alloc (.cells (dst.map B).toArray 23)) (w.heap.size + 1) = some (.cells (dst.map B).toArray 23 (0, 0)) := bk_alloc_at _ _ _ (by simp)
  have z0 : ((w.alloc (.cells (src.map B).toArray 23)).alloc (.cells (dst.map B).toArray 23)).heap.size = w.heap.size + 1 + 1 := by simp
  have A0 := Lib.hid a0; have K0 := Lib.hid k0; have K1 := Lib.hid k1; have Z0 := Lib.hid z0
  clear a0 k0 k1 z0
  have R0 := Lib.hid (Rd.of_all K0.out (bk_lt K0.out))
  have hx : w.heap.size < w.heap.size + 1 + 1 := by omega
  have hy : w.heap.size + 1 < w.heap.size + 1 + 1 := by omega
  go_wp2_with (at_builtin; refine append_rd rfl _ _ rfl (w.heap.size + 1 + 1) (.slice none 0 0) 0 [] rfl (World.ownsRow_nil _ _ _ _) (some ⟨w.heap.size, 0, none⟩) src 16 (by rw [H1.out]; rfl) (fun h => by cases h) R0.out (by rw [H1.out]; omega) (by rw [Z0.out]; exact Nat.le_refl _) ?_)
  intro v1 w1 hown hgrow
  have ho1 : w1.ownsRow (w.heap.size + 1 + 1) 5 1 v1 16 (src.map B) := by
    exact hown
  have b1 : Below (w.heap.size + 1 + 1) ((w.alloc (.cells (src.map B).toArray 23)).alloc (.cells (dst.map B).toArray 23)) w1 := (Below.refl _ _).grown hgrow (by rw [Z0.out]; exact Nat.le_refl _) (fun k hk => by simp [Value.ownBlock] at hk)
  have HO1 := Lib.hid ho1; have B1 := Lib.hid b1
  have s1 := b1.size
  rw [Z0.out] at s1
  have R1 := Lib.hid (Rd.of_all (bk_keep b1 hy K1.out) (by omega : w.heap.size + 1 < w1.heap.size))
  clear hown hgrow ho1 b1
  go_wp2_with (at_builtin; refine append_rd rfl _ _ rfl (w.heap.size + 1 + 1) v1 16 (src.map B) rfl HO1.out (some ⟨w.heap.size + 1, 0, none⟩) dst 16 (by rw [H2.out]; rfl) (fun h => by cases h) R1.out (by rw [H2.out]; omega) s1 ?_)
  intro v2 w2 hown hgrow
  have ho2 : w2.ownsRow (w.heap.size + 1 + 1) 5 1 v2 32 ((src ++ dst).map B) := by
    first | exact hown | (rw [H2.out] at hown; exact hown)
  have b2 : Below (w.heap.size + 1 + 1) ((w.alloc (.cells (src.map B).toArray 23)).alloc (.cells (dst.map B).toArray 23)) w2 := B1.out.grown hgrow s1 (fun k hk => (HO1.out.lt k hk).1)
  have HO2 := Lib.hid ho2; have B2 := Lib.hid b2
  have s2 := b2.size
  rw [Z0.out] at s2
  clear hown hgrow ho2 b2 HO1 R1 R0
  have h8 : (List.map B (nb 4 l.length ++ [0, 0, 0, nx])).toArray = #[.int .u8 ((l.length : Int) / 16777216), .int .u8 ((l.length : Int) / 65536 % 256), .int .u8 ((l.length : Int) / 256 % 256), .int .u8 ((l.length : Int) % 256), .int .u8 0, .int .u8 0, .int .u8 0, B nx] := by
    rw [nb4, List.map_append, List.map_cons, List.map_cons, List.map_cons, List.map_cons, List.map_nil, B_ofNat', B_ofNat', B_ofNat', B_ofNat']
    rw [show (((l.length / 16777216 : Nat) : Int) % 256) = (l.length : Int) / 16777216 by omega]
    simp
  have hl8 : (nb 4 l.length ++ [0, 0, 0, nx]).length = 8 := by simp [nb_length]
  obtain ⟨L8, hL8⟩ : ∃ L8, L8 = nb 4 l.length ++ [0, 0, 0, nx] := ⟨_, rfl⟩
  rw [← hL8] at h8 hl8
  have HE8 := Lib.hid hL8
  clear hL8
  have HL8 := Lib.hid hl8
  have R8 : Hid (Rd (w2.alloc (.cells #[.int .u8 ((l.length : Int) / 16777216), .int .u8 ((l.length : Int) / 65536 % 256), .int .u8 ((l.length : Int) / 256 % 256), .int .u8 ((l.length : Int) % 256), .int .u8 0, .int .u8 0, .int .u8 0, B nx] 5)) (w2.alloc (.cells #[.int .u8 ((l.length : Int) / 16777216), .int .u8 ((l.length : Int) / 65536 % 256), .int .u8 ((l.length : Int) / 256 % 256), .int .u8 ((l.length : Int) % 256), .int .u8 0, .int .u8 0, .int .u8 0, B nx] 5)).heap.size (some ⟨w2.heap.size, 0, none⟩) L8) :=
    Lib.hid (Rd.of_all (by rw [h8]; exact bk_alloc_at _ _ _ rfl) (by simp))
  clear h8 hl8
  go_wp2_with (at_builtin; refine append_rd rfl _ _ rfl (w.heap.size + 1 + 1) v2 32 ((src ++ dst).map B) rfl (HO2.out.alloc _) (some ⟨w2.heap.size, 0, none⟩) L8 8 (by rw [HL8.out]; rfl) (fun h => by cases h) R8.out (by rw [HL8.out]; omega) (by simp; omega) ?_)
  intro v3 w3 hown hgrow
  have ho3 : w3.ownsRow (w.heap.size + 1 + 1) 5 1 v3 40 ((src ++ dst ++ L8).map B) := by
    rw [HL8.out] at hown
    exact hown
  have b3 : Below (w.heap.size + 1 + 1) ((w.alloc (.cells (src.map B).toArray 23)).alloc (.cells (dst.map B).toArray 23)) w3 := (B2.out.alloc s2 _).grown hgrow (by simp; omega) (fun k hk => (HO2.out.lt k hk).1)
  have f3 : Below w.heap.size w w3 := A0.out.trans (b3.mono (by omega))
  have s3 := b3.size
  rw [Z0.out] at s3
  obtain ⟨L40, hL40⟩ : ∃ L40, L40 = src ++ dst ++ L8 := ⟨_, rfl⟩
  rw [← hL40] at ho3
  have HE40 := Lib.hid hL40
  clear hL40
  have HO3 := Lib.hid ho3; have B3 := Lib.hid b3
  have HR3 := Lib.hid ((H.out.below f3 (Nat.le_refl _)).mono f3.size)
  clear hown hgrow ho3 b3 HO2 f3 B2 R8
  go_wp2_with (at_builtin; refine append_rd rfl _ _ rfl (w.heap.size + 1 + 1) v3 40 (L40.map B) rfl HO3.out A l c rfl HA.out HR3.out (by omega) s3 ?_)
  intro v4 w4 hown hgrow
  have ho4 : w4.ownsRow (w.heap.size + 1 + 1) 5 1 v4 (ovr src dst nx l).length ((ovr src dst nx l).map B) := by
    rw [ovr_length _ _ _ _ H1.out H2.out, show ovr src dst nx l = appB L40 l by rw [HE40.out, HE8.out]; simp [ovr, appB, List.append_assoc]]
    exact hown
  have b4 : Below (w.heap.size + 1 + 1) ((w.alloc (.cells (src.map B).toArray 23)).alloc (.cells (dst.map B).toArray 23)) w4 := B3.out.grown hgrow s3 (fun k hk => (HO3.out.lt k hk).1)
  have f4 : Below w.heap.size w w4 := A0.out.trans (b4.mono (by omega))
  obtain ⟨A4, c4, rfl, hR4, _, _⟩ := Rd.of_own ho4 rfl
  have HR4 := Lib.hid hR4; have F4 := Lib.hid f4
  have HOL := Lib.hid (ovr_length src dst nx l H1.out H2.out)
  clear hown hgrow ho4 b4 HO3 HR3 B3 hR4 f4
  go_wp2_with fail
  refine (rof_any A4 (ovr src dst nx l) c4 w4 HR4.out (by rw [HOL.out]; omega)).mono ?_
  rintro e w5 ⟨rfl, rfl⟩
  generalize hS : sumOf (ovr src dst nx l) = S
  have HS := Lib.hid hS
  clear hS
  go_wp2_with fail
  go_ret
  exact ⟨by rw [HS.out]; rfl, F4.out⟩
end Go.Proofs.Ytjimmfbjhkoekaa

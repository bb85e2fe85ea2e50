/- Checksums: of lists. -/
import Derived.Test.YtojddfbbeiobpaaU1
import Derived.Laws.Bits64b
import Derived.Laws.BitsAllLaws
namespace Go.Proofs.Ytojddfbbeiobpaa
open Go.RowKit Go.Shelf
attribute [local go_sem] Oper.semAt_some
set_option maxRecDepth 100000
set_option maxHeartbeats 1000000 in
theorem all_in (F : Fence) (n : Nat) (hF : F.fn 49) (hro : F.round = none) (a : Option Addr) (len cap : Nat) (w : World) :
    CallsIn F n Try.prog 49 #[.slice a len cap] w fun e w' => e = .returned (.func (.func 51) #[] #[.pointer (some ⟨w.heap.size, 0, none⟩)]) ∧ w' = w.alloc (.cells #[.slice a len cap] 54) := by
  refine callsIn_of_wp Try.func49 rfl hF ?_ hro
  simp only [Try.ntmps49, List.size_toArray, List.length_cons, List.length_nil, Nat.reduceAdd, Nat.reduceSub, Array.replicate_succ, Array.replicate_zero, List.push_toArray, List.append_toArray, List.nil_append, List.cons_append]
  gi_wp2
  go_ret
  exact ⟨rfl, rfl⟩
theorem all_stops (F : Fence) (n : Nat) (hF : F.fn 51) (hro : F.round = none) (hn : 1 ≤ n) (Bs n₀ p : Nat) (ls : List Src) (w : World) (hBs : Bs < w.heap.size) (hn₀ : n₀ ≤ w.heap.size) (hp : p < n₀) (hk : ls.length < 2 ^ 30) (hs : (flat ls).length < 2 ^ 40)
    (hc : w.cell? ⟨Bs, 0, none⟩ = some (.slice (some ⟨p, 0, none⟩) ls.length ls.length)) (hcs : ∀ k, (h : k < ls.length) → w.cell? ⟨p, k, none⟩ = some ls[k].v) (hr : ∀ s ∈ ls, Rd w n₀ s.1 s.2.1) :
    SeqStopsK F n Try.prog 51 #[.pointer (some ⟨Bs, 0, none⟩)] pe (Below n₀) (fun ys => ys = tk (flat ls) (flat ls).length) (fun pre => ∃ k, k ≤ (flat ls).length ∧ pre = tk (flat ls) k) (flat ls).length w := fun l J Jx W hW _ _ hY h0 =>
  all1_in F n hF hro hn l Bs n₀ p ls J Jx hp hk hs hY W ((hW.cell (p := ⟨Bs, 0, none⟩) hBs).trans hc) (fun k h => (hW.cell (p := ⟨p, k, none⟩) (by show p < _; omega)).trans (hcs k h)) (fun s hs => (hr s hs).below hW hn₀) h0
theorem and16 (a : Nat) (h : a < 2 ^ 60) : bits .and .u64 (a : Int) 65535 = ((a % 65536 : Nat) : Int) := by
  have := bits_and_u64_nat a 65535 (by omega) (by omega)
  rw [show a &&& 65535 = a % 65536 from Nat.and_two_pow_sub_one_eq_mod a 16] at this
  exact this
theorem xor16 (a : Nat) (h : a < 65536) : bits .xor .u16 IntKind.u16.max (a : Int) = ((65535 - a : Nat) : Int) := by
  have h1 := u16_xor_nat 65535 a (by omega) h
  have h2 : (BitVec.allOnes 16 ^^^ BitVec.ofNat 16 a).toNat = 65535 - a := by
    rw [BitVec.allOnes_xor, BitVec.toNat_not, BitVec.toNat_ofNat]; omega
  rw [BitVec.toNat_xor, BitVec.toNat_allOnes, BitVec.toNat_ofNat, Nat.mod_eq_of_lt (by omega)] at h2
  rw [show (65535 : Nat) ^^^ a = 65535 - a from h2] at h1
  exact h1
set_option maxHeartbeats 2000000 in
theorem of_in (F : Fence) (n : Nat) (h35 : F.fn 43) (h38 : F.fn 49) (h39 : F.fn 51) (hro : F.round = none) (hn : 3 ≤ n) (p : Nat) (ls : List Src) (t : TypeId) (fr : Nat × Nat) (w : World)
    (hb : bk w p = some (.cells (ls.map Src.v).toArray t fr)) (hr : ∀ s ∈ ls, Rd w w.heap.size s.1 s.2.1) (hs : (flat ls).length < 2 ^ 40) (hk : ls.length < 2 ^ 30) :
    CallsIn F n Try.prog 43 #[.slice (some ⟨p, 0, none⟩) ls.length ls.length] w fun e w' => e = .returned (.int .u16 (sumOf (flat ls) : Nat)) ∧ Below w.heap.size w w' := by
  have h1 : 1 ≤ n := by omega
  have hmo : Try.prog.follows .mixedOrders = true := by kernel_rfl
  have hpl := bk_lt hb
  have hcs : ∀ k, (h : k < ls.length) → w.cell? ⟨p, k, none⟩ = some ls[k].v := fun k h => by
    rw [bk_cell hb]
    simp [List.getElem?_eq_getElem h]
  have HCS := Lib.hid hcs; have HR := Lib.hid hr
  clear hb hcs hr
  refine callsIn_of_wp_marks Try.func43 rfl h35 ?_ hro
  simp only [Try.ntmps43, List.size_toArray, List.length_cons, List.length_nil, Nat.reduceAdd, Nat.reduceSub, Array.replicate_succ, Array.replicate_zero, List.push_toArray, List.append_toArray, List.nil_append, List.cons_append]
  gi_wp2_with (gi_at_call 49; refine (all_in F (n - 1) h38 hro _ _ _ _).mono ?_; rintro e w' ⟨rfl, rfl⟩)
  have hkb : bk ((w.alloc (.cells #[.int .u64 0] 56)).alloc (.cells #[.slice (some ⟨p, 0, none⟩) ls.length ls.length] 54)) w.heap.size = some (.cells #[.int .u64 0] 56 (0, 0)) := by
    rw [bk_alloc_past _ _ _ (by simp)]; exact bk_alloc_at _ _ _ rfl
  have hkl : bk ((w.alloc (.cells #[.int .u64 0] 56)).alloc (.cells #[.slice (some ⟨p, 0, none⟩) ls.length ls.length] 54)) (w.heap.size + 1) = some (.cells #[.slice (some ⟨p, 0, none⟩) ls.length ls.length] 54 (0, 0)) := bk_alloc_at _ _ _ (by simp)
  have hB0 : Below w.heap.size w ((w.alloc (.cells #[.int .u64 0] 56)).alloc (.cells #[.slice (some ⟨p, 0, none⟩) ls.length ls.length] 54)) := ((Below.refl _ w).alloc (Nat.le_refl _) _).alloc (by simp) _
  refine wpIn_rangeFunc_ownF hro h1 (gf := 51) (lb := #[.pointer (some ⟨w.heap.size + 1, 0, none⟩)]) rfl h39 (enters_of Try.func51 (by kernel_rfl) rfl)
    (all_stops F (n - 1) h39 hro (by omega) (w.heap.size + 1) w.heap.size p ls _ (by simp) (by simp; omega) hpl hk hs ((bk_cell hkl 0).trans rfl) (fun k h => (hB0.cell (p := ⟨p, k, none⟩) hpl).trans (HCS.out k h)) (fun s hs => (HR.out s hs).below hB0 (Nat.le_refl _))) belowK_t (belowK_b (by simp; omega)) (Below.refl _ _) (fun _ => rfl)
    (fun pre W => (W.cell? ⟨w.heap.size, 0, none⟩ = some (.int .u64 (ws pre : Nat)) ∧ W.frozen? ⟨w.heap.size, 0, none⟩ = false) ∧ Below w.heap.size w W)
    (fun _ _ _ => False)
    (OwnFrom.and (Own.from (fun s A B row hs hg hr => ⟨cell_kept hs.1 hg hr, (frozen_kept hs.1 hg hr).trans hs.2⟩) _) (ownFrom_below (Nat.le_refl _) (by simp; omega)))
    (fun _ _ _ _ _ hs _ _ => hs)
    ⟨⟨(bk_cell hkb 0).trans rfl, bk_frozen hkb 0⟩, hB0⟩
    (fun x => { tmps := #[.slice (some ⟨p, 0, none⟩) ls.length ls.length, undef, .int .u16 0, .pointer (some ⟨w.heap.size, 0, none⟩), B x.1, .int .i64 (shv x.2), .slice (some ⟨p, 0, none⟩) ls.length ls.length, .func (.func 51) #[] #[.pointer (some ⟨w.heap.size + 1, 0, none⟩)], B x.1, .int .i64 (shv x.2), undef, undef, undef, undef, undef, undef, undef, undef, undef, undef, undef, undef, undef, undef, undef, undef], defers := [] }) ?assign ?body ?done ?stop
  case assign =>
    intro l x W K hK
    gi_wp2
    exact hK
  case body =>
    rintro l pre ⟨b, hi⟩ W ⟨⟨hc, hf⟩, hB⟩ hlt
    have hle := ws_le pre
    have hbl := b.toNat_lt
    cases hi
    · rw [show shv (b, false).2 = 0 from rfl]
      gi_wp2
      gi_region_with_o (fail)
      all_goals gi_wp2
      all_goals
        refine ⟨(KeepsOthers.setCell _ _ _).trans (KeepsOthers.drew _), ((Below.refl w.heap.size W).setCell (p := ⟨w.heap.size, 0, none⟩) (Nat.le_refl _) _).drew, ⟨(cell_drew_own _ _).trans ((World.cell?_setCell_same' _ _ _ (by rw [hc]; rfl)).trans ?_), (frozen_drew_own _ _).trans (by rw [World.frozen?_setCell]; exact hf)⟩, (hB.setCell (p := ⟨w.heap.size, 0, none⟩) (Nat.le_refl _) _).drew⟩
        rw [ws_snoc]
        simp only [IntKind.wrap_u64, wt]
        congr 2
        simp
        omega
    · rw [show shv (b, true).2 = 8 from rfl]
      gi_wp2
      gi_region_with_o (fail)
      all_goals gi_wp2
      all_goals
        refine ⟨(KeepsOthers.setCell _ _ _).trans (KeepsOthers.drew _), ((Below.refl w.heap.size W).setCell (p := ⟨w.heap.size, 0, none⟩) (Nat.le_refl _) _).drew, ⟨(cell_drew_own _ _).trans ((World.cell?_setCell_same' _ _ _ (by rw [hc]; rfl)).trans ?_), (frozen_drew_own _ _).trans (by rw [World.frozen?_setCell]; exact hf)⟩, (hB.setCell (p := ⟨w.heap.size, 0, none⟩) (Nat.le_refl _) _).drew⟩
        rw [ws_snoc]
        simp only [IntKind.wrap_u64, wt]
        congr 2
        simp
        omega
  case done =>
    rintro D ys W hD rfl ⟨⟨hc, hf⟩, hB⟩ hK
    have hwl := ws_le (tk (flat ls) (flat ls).length)
    rw [tk_length] at hwl
    have HT := Lib.hid (show ws (tk (flat ls) (flat ls).length) = WS (flat ls) from rfl)
    generalize ws (tk (flat ls) (flat ls).length) = T at *
    gi_wp2
    gi_loopw [] (fun wr => ∃ a : Nat, a ≤ T ∧ red a = red T ∧ wr.cell? ⟨w.heap.size, 0, none⟩ = some (.int .u64 (a : Nat)) ∧ wr.frozen? ⟨w.heap.size, 0, none⟩ = false ∧ Below w.heap.size w wr ∧ wr.heap[D]? = some (.deferred (some []))) (fun wr => (intOf ((wr.cell? ⟨w.heap.size, 0, none⟩).getD undef)).toNat)
    case atStart => exact ⟨T, Nat.le_refl _, rfl, hc, hf, hB, hK⟩
    case round =>
      clear hc hf hB hK
      obtain ⟨a, haT, hra, hc, hf, hB, hK⟩ := hrel
      by_cases hlt : 65535 < a
      · have d1 : decide (65535 < (a : Int)) = true := by simp; omega
        obtain ⟨a', ha'⟩ : ∃ a', a' = a / 65536 + a % 65536 := ⟨_, rfl⟩
        have hv : IntKind.u64.wrap ((a : Int) / 65536 + bits BinOp.and IntKind.u64 (a : Int) 65535) = (a' : Int) := by
          rw [and16 a (by omega), IntKind.wrap_u64]; omega
        have hra' : red a' = red T := by rw [ha', red_fold _ hlt]; exact hra
        have hal : a' < a := by rw [ha']; exact fold_lt a hlt
        clear ha'
        gi_wp2
        go_roundw
        case rel =>
          exact ⟨a', by omega, hra', World.cell?_setCell_same' _ _ _ (by rw [hc]; rfl), by rw [World.frozen?_setCell]; exact hf, hB.setCell (p := ⟨w.heap.size, 0, none⟩) (Nat.le_refl _) _, (KeepsOthers.setCell _ _ _).same D _ hK rfl⟩
        case measure =>
          rw [World.cell?_setCell_same' _ _ _ (by rw [hc]; rfl), hc]
          simp [intOf]
          omega
      · have d1 : decide (65535 < (a : Int)) = false := by simp; omega
        have hv : bits BinOp.xor IntKind.u16 IntKind.u16.max (a : Int) = ((sumOf (flat ls) : Nat) : Int) := by
          rw [xor16 a (by omega), sumOf, ← HT.out, ← hra, red_small (by omega)]
        gi_wp2
        refine ⟨by simp, .inl ⟨_, _, rfl, run_takeDeferred hK, ?_⟩⟩
        exact ⟨_, results_tmp rfl _ _ _, rfl, hB.trans (belowK_b (w := w) (Nat.le_refl _) wr D _ _ (by simp at hD; omega) hK rfl rfl)⟩
  case stop =>
    rintro D c pre W _ _ h _
    exact h.elim
theorem of_any (p : Nat) (ls : List Src) (t : TypeId) (fr : Nat × Nat) (w : World)
    (hb : bk w p = some (.cells (ls.map Src.v).toArray t fr)) (hr : ∀ s ∈ ls, Rd w w.heap.size s.1 s.2.1) (hs : (flat ls).length < 2 ^ 40) (hk : ls.length < 2 ^ 30) :
    Calls Try.prog 43 #[.slice (some ⟨p, 0, none⟩) ls.length ls.length] w fun e w' => e = .returned (.int .u16 (sumOf (flat ls) : Nat)) ∧ Below w.heap.size w w' :=
  (callsIn_wide (n := 3)).1 (of_in Fence.wide 3 trivial trivial trivial rfl (by omega) p ls t fr w hb hr hs hk)
end Go.Proofs.Ytojddfbbeiobpaa

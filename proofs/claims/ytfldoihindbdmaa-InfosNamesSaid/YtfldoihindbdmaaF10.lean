/- Infos: an answer without names and servers. -/
import Derived.Test.YtfldoihindbdmaaF9
namespace Go.Proofs.Ytfldoihindbdmaa
open Go.RowKit Go.Shelf
attribute [local go_sem] Oper.semAt_some
set_option maxRecDepth 100000
set_option maxHeartbeats 1000000
@[go_sem ↓] theorem ldAn (dst : Option Tmp) (x : Operand) (t : TypeId) (pos : String) (af : Array Edge) (g : Option (Nat × Bool)) (a : Act) (w : World) (K : Act → World → Prop) (Q : Exit → Act → World → Prop) :
    Oper.wp Try.prog ⟨dst, .load 36 x, t, pos, af, g⟩ a w K Q = ldPtr (wpHid Try.prog ⟨dst, .load 36 x, t, pos, af, g⟩ a w K Q) 3 w (fun c => K (a.put dst (.agg c)) w) (a.eval x) :=
  wp_load_bk 36 3 _ Try.underlying36 rfl (by kernel_rfl) dst x t pos af g a w K Q
@[go_sem ↓] theorem stAn (dst : Option Tmp) (x y : Operand) (t : TypeId) (pos : String) (af : Array Edge) (g : Option (Nat × Bool)) (a : Act) (w : World) (K : Act → World → Prop) (Q : Exit → Act → World → Prop) :
    Oper.wp Try.prog ⟨dst, .store 36 x y, t, pos, af, g⟩ a w K Q = stPtr (wpHid Try.prog ⟨dst, .store 36 x y, t, pos, af, g⟩ a w K Q) 3 w (fun w' => K (a.put dst undef) w') (a.eval x) (a.eval y) :=
  wp_store_bk 36 3 (by kernel_rfl) dst x y t pos af g a w K Q
@[go_sem ↓] theorem qlAn (dst : Option Tmp) (x : Operand) (t : TypeId) (pos : String) (af : Array Edge) (g : Option (Nat × Bool)) (a : Act) (m : Nat) (W : World) (K : Act → Prop) :
    Oper.quiet Try.prog ⟨dst, .load 36 x, t, pos, af, g⟩ a (fun w' => ∃ x : Later m W, w' = x.w) K =
      ldLater (quietHid Try.prog ⟨dst, .load 36 x, t, pos, af, g⟩ a (fun w' => ∃ x : Later m W, w' = x.w) K) m 3 W (fun c => K (a.put dst (.agg c))) (a.eval x) :=
  quiet_load_bk 36 3 _ Try.underlying36 rfl (by kernel_rfl) dst x t pos af g a m W K
/-- How long an answer is fresh. -/
def frsh (d : Option (List UInt8)) : Nat :=
  match d with
  | some d => if d.length = 4 then max 600 (val d) else 86400
  | none => 86400
def ansC (f : Nat) : Array Value := #[.slice none 0 0, .slice none 0 0, .int .u32 (f : Int)]
def At32 (w : World) (M : Nat → Option Value) (d : Option (List UInt8)) : Prop :=
  match d with
  | none => M 32 = none
  | some d => ∃ b o c, M 32 = some (.slice (some ⟨b, o, none⟩) d.length c) ∧ Rd w w.heap.size (some ⟨b, o, none⟩) d ∧ d.length < 2 ^ 40
theorem At32.below {w w' : World} {M : Nat → Option Value} {d : Option (List UInt8)} (h : At32 w M d) (hb : Below w.heap.size w w') : At32 w' M d := by
  unfold At32 at h ⊢
  cases d with
  | none => exact h
  | some d =>
    obtain ⟨b, o, c, h1, h2, h3⟩ := h
    exact ⟨b, o, c, h1, (h2.below hb (Nat.le_refl _)).mono hb.size, h3⟩
theorem ansC_ones (f : Nat) : ones (ansC f).toList = true := rfl
theorem ansC_size (f : Nat) : (ansC f).size = 3 := rfl
theorem answer_in (n : Nat) (hn : 4 ≤ n) (g nn : Nat) (M : Nat → Option Value) (d : Option (List UInt8)) (w : World) (hM : MapIs w g nn M) (h23 : M 23 = none) (h24 : M 24 = none) (h32 : At32 w M d) :
    CallsIn Fence.wide n Try.prog 28 #[.map (some g)] w fun e w' => e = .returned (.agg (ansC (frsh d))) ∧ Below w.heap.size w w' := by
  have h1 : 1 ≤ n := by omega
  have HM := Lib.hid hM; have H23 := Lib.hid h23; have H24 := Lib.hid h24; have H32 := Lib.hid h32
  clear hM h23 h24 h32
  refine callsIn_of_wp_marks Try.func28 rfl trivial ?_ rfl
  simp only [Try.ntmps28, List.size_toArray, List.length_cons, List.length_nil, Nat.reduceAdd, Nat.reduceSub, Array.replicate_succ, Array.replicate_zero, List.push_toArray, List.append_toArray, List.nil_append, List.cons_append]
  refine wpIn_wide.2 ?_
  go_upto_region 1 with fail
  have b1 : Below w.heap.size w (w.alloc (.cells (ansC 0) 36 (0, 0))) := (Below.refl _ _).alloc (Nat.le_refl _) _
  have K1 := Lib.hid (bk_alloc_at w (.cells (ansC 0) 36 (0, 0)) _ rfl)
  have M1 := Lib.hid (HM.out.turn (Tn.of b1) (F := fun _ => False) (fun e => e))
  have A1 := Lib.hid (H32.out.below b1)
  have B1 := Lib.hid b1
  change Code.wp _ _ _ _ (w.alloc (.cells (ansC 0) 36 (0, 0)))
  clear b1
  generalize w.alloc (.cells (ansC 0) 36 (0, 0)) = w1 at *
  have hl : Sem.run Try.prog (Instr.lookup 70 (.map (some g)) (.int .u64 23) false) w1 = .ok (.slice none 0 0) w1 := by
    have h := M1.out.look (k := 23) (by decide)
    rw [H23.out] at h
    exact h
  have CK := Lib.hid ((callsIn_wide (n := 1)).1 (chunk_in 1 w1))
  go_wp2_with fail
  refine CK.out.mono ?_
  rintro e w2 ⟨rfl, rfl⟩
  clear hl CK
  have b2 : Below w1.heap.size w1 ((w1.alloc (.cells #[.slice none 0 0] 22)).alloc (.cells #[.int .i64 16] 3)) := (by (repeat (first | exact Below.refl _ _ | assumption | refine Below.drew ?_ | refine bdrewN ?_ _ | refine Below.alloc ?_ (by first | omega | (simp <;> omega) | (simp only [World.size_alloc] <;> omega)) _ | refine below_setRow ?_ (by first | omega | (simp <;> omega)) _ | refine Below.setCell ?_ (by first | omega | (simp <;> omega)) _)))
  have L2 : (w1.alloc (.cells #[.slice none 0 0] 22)).heap.size = w1.heap.size + 1 := World.size_alloc _ _
  have kb : bk ((w1.alloc (.cells #[.slice none 0 0] 22)).alloc (.cells #[.int .i64 16] 3)) w1.heap.size = some (.cells #[.slice none 0 0] 22 (0, 0)) := (bk_alloc_past _ _ _ (by omega)).trans (bk_alloc_at _ _ _ rfl)
  have hlt : w1.heap.size < ((w1.alloc (.cells #[.slice none 0 0] 22)).alloc (.cells #[.int .i64 16] 3)).heap.size := by simp <;> omega
  have K2 := Lib.hid (bk_keep b2 (bk_lt K1.out) K1.out)
  have M2 := Lib.hid (M1.out.turn (Tn.of b2) (F := fun _ => False) (fun e => e))
  have A2 := Lib.hid (A1.out.below b2)
  have B2 := Lib.hid (B1.out.trans (b2.mono B1.out.size))
  have KB := Lib.hid kb
  have HLT := Lib.hid hlt
  clear b2 L2 kb hlt K1 M1 A1 B1
  go_wp2_with fail
  generalize (w1.alloc (.cells #[.slice none 0 0] 22)).alloc (.cells #[.int .i64 16] 3) = w2 at *
  refine (wpIn_wide (n := n)).1 ?_
  refine wpIn_rangeFunc_ownF rfl h1 (gf := 79) (lb := #[.pointer (some ⟨w1.heap.size, 0, none⟩), .pointer (some ⟨w1.heap.size + 1, 0, none⟩)]) rfl trivial (enters_of Try.func79 (by kernel_rfl) rfl)
    (encs := fun _ : Nat => #[.slice none 0 0]) (Kp := fun _ _ => True) (S := fun ys => ys = []) (Sp := fun _ => False) (N := 0) (w0 := w2)
    (fun l J Jx W hW _ _ _ h0 => chunk0_in (n - 1) l _ _ J Jx (fun _ => #[]) W ((hW.cell (p := ⟨w1.heap.size, 0, none⟩) HLT.out).trans (bk_cell KB.out 0)) h0)
    (fun _ _ => trivial) (fun _ _ _ _ _ _ _ _ => trivial) (Below.refl _ _) (fun _ => rfl)
    (fun _ W => Below w2.heap.size w2 W) (fun _ _ _ => False) (ownFrom_below (Nat.le_refl _) (Nat.le_refl _)) (fun _ _ _ _ _ hs _ _ => hs) (Below.refl _ _)
    (fun _ => { tmps := #[.map (some g), undef, .pointer (some ⟨w.heap.size, 0, none⟩), .slice none 0 0, undef, .map (some g), .slice none 0 0, .func (.func 79) #[] #[.pointer (some ⟨w1.heap.size, 0, none⟩), .pointer (some ⟨w1.heap.size + 1, 0, none⟩)], .slice none 0 0, undef, undef, undef, undef, undef, undef, undef, undef, undef, undef, undef, undef, undef, undef, undef, undef, undef, undef, undef, undef, undef, undef, undef, undef, undef, undef, undef, undef, undef, undef, undef, undef, undef, undef], defers := [] }) ?assign ?body ?done ?stop
  case assign =>
    intro l x W K hK
    gi_wp2
    exact hK
  case body =>
    intro l pre x W _ hlt
    exact absurd hlt (Nat.not_lt_zero _)
  case stop =>
    rintro D c pre W _ h _ _
    exact h.elim
  case done =>
    rintro D ys W hD rfl hB hK
    have K3 := Lib.hid (bk_keep hB (bk_lt K2.out) K2.out)
    have M3 := Lib.hid (M2.out.turn (Tn.of hB) (F := fun _ => False) (fun e => e))
    have A3 := Lib.hid (A2.out.below hB)
    have B3 := Lib.hid (B2.out.trans (hB.mono B2.out.size))
    have HD := Lib.hid (And.intro hK (Nat.le_trans B2.out.size hD))
    clear hB hK hD K2 M2 A2 B2 KB HLT
    have CA := Lib.hid (fun w' (_ : Below W.heap.size W w') => (clipA_nil w').mono (fun e w'' (q : e = .returned (.slice none 0 0) ∧ w' = w'') => (⟨q.1, q.2 ▸ Below.refl _ _⟩ : e = .returned (.slice none 0 0) ∧ Below w'.heap.size w' w'')))
    have CN := Lib.hid (fun w' (_ : Below W.heap.size W w') => (names_nil w').mono (fun e w'' (q : e = .returned (.slice none 0 0) ∧ w' = w'') => (⟨q.1, q.2 ▸ Below.refl _ _⟩ : e = .returned (.slice none 0 0) ∧ Below w'.heap.size w' w'')))
    have CT := Lib.hid (fun w' (_ : Below W.heap.size W w') => (clipT_nil w').mono (fun e w'' (q : e = .returned (.slice none 0 0) ∧ w' = w'') => (⟨q.1, q.2 ▸ Below.refl _ _⟩ : e = .returned (.slice none 0 0) ∧ Below w'.heap.size w' w'')))
    have LK : Hid (∀ w', Below W.heap.size W w' → Sem.run Try.prog (Instr.lookup 70 (.map (some g)) (.int .u64 24) false) w' = .ok (.slice none 0 0) w') := Lib.hid fun w' hb => by
      have h := (M3.out.turn (Tn.of hb) (F := fun _ => False) (fun e => e)).look (k := 24) (by decide)
      rw [H24.out] at h
      exact h
    go_upto_region 5 with fail
    have k3 := K3.out
    have c0 : W.cell? ⟨w.heap.size, 0, none⟩ = some (.slice none 0 0) := bk_cell K3.out 0
    have lx := bk_lt K3.out
    clear k3
    refine wp_region_later_tail (W.heap.size) 8 (by kernel_rfl) (by kernel_rfl) ?_
    simp only [List.take_succ_cons, List.take_zero, List.drop_succ_cons, List.drop_zero]
    repeat (go_big_quiet_step ((rename_i xq; first | (rw [LK.out xq.w xq.h]; exact ⟨rfl, rfl⟩) | exact later_call xq (Nat.le_refl _) (CA.out xq.w xq.h) | exact later_call xq (Nat.le_refl _) (CN.out xq.w xq.h) | exact later_call xq (Nat.le_refl _) (CT.out xq.w xq.h))))
    (first | refine wpQuiet_nil ?_ | (go_big_quiet_want; (try go_big_quiet_op); trace_state; fail))
    intro w4 hw'
    have b4 := later_elim hw'
    clear hw'
    have K4 := bk_keep b4 lx K3.out
    clear c0
    have l4 := bk_lt K4
    have f0 := bk_frozen K4 0; have f1 := bk_frozen K4 1; have f2 := bk_frozen K4 2
    have c0 : w4.cell? ⟨w.heap.size, 0, none⟩ = some (.slice none 0 0) := bk_cell K4 0
    have c1 : w4.cell? ⟨w.heap.size, 1, none⟩ = some (.slice none 0 0) := bk_cell K4 1
    have c2 : w4.cell? ⟨w.heap.size, 2, none⟩ = some (.int .u32 0) := bk_cell K4 2
    have HK4 := Lib.hid K4
    have M4 := Lib.hid (M3.out.turn (Tn.of b4) (F := fun _ => False) (fun e => e))
    have A4 := Lib.hid (A3.out.below b4)
    have B4 := Lib.hid (B3.out.trans (b4.mono B3.out.size))
    have HD4 : Hid (w4.heap[D]? = some (.deferred (some []))) := Lib.hid ((b4.block D (Array.getElem?_eq_some_iff.1 HD.out.1).1).trans HD.out.1)
    have HWD := Lib.hid HD.out.2
    clear K4 b4 CA CN CT LK K3 M3 A3 B3 HD lx
    go_upto_region 6 with fail
    have K5 : Hid (bk (((w4.setCell ⟨w.heap.size, 0, none⟩ (.slice none 0 0)).setCell ⟨w.heap.size, 1, none⟩ (.slice none 0 0)).setCell ⟨w.heap.size, 2, none⟩ (.int .u32 86400)) w.heap.size = some (.cells (ansC 86400) 36 (0, 0))) := Lib.hid (by
      rw [bk_setCell_same, bk_setCell_same, bk_setCell_same, HK4.out]; rfl)
    have t5 : Tn (fun j => j = w.heap.size) w4 (((w4.setCell ⟨w.heap.size, 0, none⟩ (.slice none 0 0)).setCell ⟨w.heap.size, 1, none⟩ (.slice none 0 0)).setCell ⟨w.heap.size, 2, none⟩ (.int .u32 86400)) := (((Tn.refl (fun j => j = w.heap.size) w4).set (g := w.heap.size) (.inl rfl)).set (g := w.heap.size) (.inl rfl)).set (g := w.heap.size) (.inl rfl)
    have hgw : g ≠ w.heap.size := Nat.ne_of_lt HM.out.lt
    have M5 := Lib.hid (M4.out.turn t5 hgw)
    have B5 := Lib.hid (((B4.out.setCell (p := ⟨w.heap.size, 0, none⟩) (Nat.le_refl _) (.slice none 0 0)).setCell (p := ⟨w.heap.size, 1, none⟩) (Nat.le_refl _) (.slice none 0 0)).setCell (p := ⟨w.heap.size, 2, none⟩) (Nat.le_refl _) (.int .u32 86400))
    have D5 : Hid (D ≠ w.heap.size → (((w4.setCell ⟨w.heap.size, 0, none⟩ (.slice none 0 0)).setCell ⟨w.heap.size, 1, none⟩ (.slice none 0 0)).setCell ⟨w.heap.size, 2, none⟩ (.int .u32 86400)).heap[D]? = some (.deferred (some []))) := Lib.hid fun hne => (t5.old D (Array.getElem?_eq_some_iff.1 HD4.out).1 hne).trans HD4.out
    have hDne : D ≠ w.heap.size := fun e => by
      have h1 := HD4.out
      rw [e] at h1
      have h2 : w4.heap[w.heap.size]? = _ := HK4.out
      rw [h2] at h1
      cases h1
    have HD5 := Lib.hid (D5.out hDne)
    have HNE := Lib.hid hDne
    have A5 : Hid (At32 (((w4.setCell ⟨w.heap.size, 0, none⟩ (.slice none 0 0)).setCell ⟨w.heap.size, 1, none⟩ (.slice none 0 0)).setCell ⟨w.heap.size, 2, none⟩ (.int .u32 86400)) M d) := Lib.hid (by
      have h0 := H32.out.below (w' := ((w4.setCell ⟨w.heap.size, 0, none⟩ (.slice none 0 0)).setCell ⟨w.heap.size, 1, none⟩ (.slice none 0 0)).setCell ⟨w.heap.size, 2, none⟩ (.int .u32 86400)) B5.out
      exact h0)
    clear t5 hgw M4 B4 A4 HD4 D5 hDne HK4 c0 c1 c2 f0 f1 f2 l4
    generalize ((w4.setCell ⟨w.heap.size, 0, none⟩ (.slice none 0 0)).setCell ⟨w.heap.size, 1, none⟩ (.slice none 0 0)).setCell ⟨w.heap.size, 2, none⟩ (.int .u32 86400) = w5 at *
    have hlk := M5.out.look (k := 32) (by decide)
    cases d with
    | none =>
      have e32 : M 32 = none := A5.out
      rw [e32] at hlk
      have hlk' : Sem.run Try.prog (Instr.lookup 70 (.map (some g)) (.int .u64 32) false) w5 = .ok (.slice none 0 0) w5 := hlk
      have CO := Lib.hid (of_K none [] 0 w5 Rd.nil (fun _ => ⟨rfl, rfl⟩) (by simp))
      have LK6 : Hid (∀ w', Below w5.heap.size w5 w' → Sem.run Try.prog (Instr.lookup 70 (.map (some g)) (.int .u64 32) false) w' = .ok (.slice none 0 0) w') := Lib.hid fun w' hb => by
        have h := (M5.out.turn (Tn.of hb) (F := fun _ => False) (fun e => e)).look (k := 32) (by decide)
        rw [e32] at h
        exact h
      clear hlk
      go_wp2_with fail
      refine CO.out.mono ?_
      rintro e w6 ⟨gc, rfl, hgc, hkc, b6⟩
      have hlk6 := LK6.out w6 b6
      have K6 := Lib.hid (bk_keep b6 (bk_lt K5.out) K5.out)
      have B6 := Lib.hid (B5.out.trans (b6.mono B5.out.size))
      have HD6 : Hid (w6.heap[D]? = some (.deferred (some []))) := Lib.hid ((b6.block D (Array.getElem?_eq_some_iff.1 HD5.out).1).trans HD5.out)
      have l6 := bk_lt K6.out
      clear CO LK6 hlk' hgc hkc b6 K5 M5 B5 HD5 A5
      go_upto_region 9 with fail
      have kv := (K6).out
      have os1 := ansC_ones (86400)
      have os2 := ansC_size (86400)
      have lv := bk_lt kv
      go_wp2_with fail
      have hK2 : ((w6).setRow w.heap.size (ansC (86400))).heap[D]? = some (.deferred (some [])) := (bk_setRow_other _ _ _ _ HNE.out).trans (HD6).out
      have kf : bk (((w6).setRow w.heap.size (ansC (86400))).putObj D (.deferred none)) w.heap.size = some (.cells (ansC (86400)) 36 (0, 0)) := by
        refine (World.putObj_heap_other (fun e => HNE.out e.symm)).trans ?_
        show bk ((w6).setRow w.heap.size (ansC (86400))) w.heap.size = _
        rw [bk_setRow_same, (K6).out]; rfl
      have hB9 : Below w.heap.size w (((w6).setRow w.heap.size (ansC (86400))).putObj D (.deferred none)) := by
        have h1 := below_setRow (B6).out (Nat.le_refl w.heap.size) (ansC (86400))
        exact h1.grown (grownBy_putObj' _ D (.deferred none)) h1.size (fun k e => by cases e; exact HWD.out)
      refine ⟨by simp, .inl ⟨_, _, rfl, run_takeDeferred hK2, ?_⟩⟩
      exact ⟨_, results_cell_row rfl _ _ w.heap.size 36 (ansC (86400)) (0, 0) _ rfl kf Try.underlying36 rfl (by rw [ansC_size]; kernel_rfl), rfl, hB9⟩
    | some d =>
      obtain ⟨b0, o0, c0, e32, hr5, hdl⟩ := A5.out
      rw [e32] at hlk
      have hlk' : Sem.run Try.prog (Instr.lookup 70 (.map (some g)) (.int .u64 32) false) w5 = .ok (.slice (some ⟨b0, o0, none⟩) d.length c0) w5 := hlk
      have CO := Lib.hid (of_K (some ⟨b0, o0, none⟩) d c0 w5 hr5 (fun h => by cases h) (by omega))
      have LK6 : Hid (∀ w', Below w5.heap.size w5 w' → Sem.run Try.prog (Instr.lookup 70 (.map (some g)) (.int .u64 32) false) w' = .ok (.slice (some ⟨b0, o0, none⟩) d.length c0) w') := Lib.hid fun w' hb => by
        have h := (M5.out.turn (Tn.of hb) (F := fun _ => False) (fun e => e)).look (k := 32) (by decide)
        rw [e32] at h
        exact h
      clear hlk hr5 hdl
      go_wp2_with fail
      refine CO.out.mono ?_
      rintro e w6 ⟨gc, rfl, hgc, hkc, b6⟩
      have hlk6 := LK6.out w6 b6
      have hgw : w.heap.size < gc := Nat.lt_of_lt_of_le (bk_lt K5.out) hgc
      have K6 := Lib.hid (bk_keep b6 (bk_lt K5.out) K5.out)
      have B6 := Lib.hid (B5.out.trans (b6.mono B5.out.size))
      have HD6 : Hid (w6.heap[D]? = some (.deferred (some []))) := Lib.hid ((b6.block D (Array.getElem?_eq_some_iff.1 HD5.out).1).trans HD5.out)
      have hDg : D < gc := Nat.lt_of_lt_of_le (Array.getElem?_eq_some_iff.1 HD5.out).1 hgc
      have l6 := bk_lt K6.out
      clear CO LK6 hlk' hgc b6 K5 M5 B5 HD5 A5
      by_cases h4 : d.length = 4
      · have n4 : ((d.length : Int) == 4) = true := by rw [h4]; rfl
        have CN := Lib.hid (num_K gc d 4 w6 hkc (by decide) (by decide) (by omega))
        have htk : d.take 4 = d := List.take_of_length_le (by omega)
        rw [htk] at CN
        obtain ⟨v, hv⟩ : ∃ v, v = val d := ⟨_, rfl⟩
        have hv32 : v < 4294967296 := by have h := val_lt d; rw [h4] at h; rw [hv]; exact h
        rw [← hv] at CN
        have hf : frsh (some d) = max 600 v := by unfold frsh; simp only [if_pos h4, hv]
        have HF := Lib.hid hf
        clear htk hv hf hkc h4
        go_wp2_with fail
        refine CN.out.mono ?_
        rintro e w7 ⟨rfl, _, ho7⟩
        have K7 : Hid (bk w7 w.heap.size = some (.cells (ansC 86400) 36 (0, 0))) := Lib.hid ((ho7.old _ (by omega)).trans K6.out)
        have B7 := Lib.hid (B6.out.trans (ho7.below (n := w.heap.size) (by omega)))
        have HD7 : Hid (w7.heap[D]? = some (.deferred (some []))) := Lib.hid ((ho7.old D (by omega)).trans HD6.out)
        have f2 := bk_frozen K7.out 2
        have c2 : w7.cell? ⟨w.heap.size, 2, none⟩ = some (.int .u32 86400) := bk_cell K7.out 2
        have l7 := bk_lt K7.out
        have FIN : ∀ F : Nat, Hid (bk (w7.setCell ⟨w.heap.size, 2, none⟩ (.int .u32 (F : Int))) w.heap.size = some (.cells (ansC F) 36 (0, 0))) ∧ Hid (Below w.heap.size w (w7.setCell ⟨w.heap.size, 2, none⟩ (.int .u32 (F : Int)))) ∧ Hid ((w7.setCell ⟨w.heap.size, 2, none⟩ (.int .u32 (F : Int))).heap[D]? = some (.deferred (some []))) := fun F =>
          ⟨Lib.hid (by rw [bk_setCell_same, K7.out]; rfl), Lib.hid (B7.out.setCell (p := ⟨w.heap.size, 2, none⟩) (Nat.le_refl _) _), Lib.hid ((bk_setCell_other _ _ _ _ _ HNE.out).trans HD7.out)⟩
        have HFIN := Lib.hid FIN
        clear ho7 CN K6 B6 HD6 FIN hgw hDg
        go_upto_region 9 with fail
        obtain ⟨F, hF⟩ : ∃ F, F = max 600 v := ⟨_, rfl⟩
        have hmx : (if (600 : Int) < (v : Int) then (v : Int) else 600) = (F : Int) := by split <;> omega
        rw [hmx]
        obtain ⟨K8, B8, HD8⟩ := HFIN.out F
        have HF8 : Hid (frsh (some d) = F) := Lib.hid (HF.out.trans hF.symm)
        clear hmx hF HF HFIN c2 f2 l7 B7 HD7 K7
        generalize w7.setCell ⟨w.heap.size, 2, none⟩ (.int .u32 (F : Int)) = w8 at *
        have kv := (K8).out
        have os1 := ansC_ones (F)
        have os2 := ansC_size (F)
        have lv := bk_lt kv
        go_wp2_with fail
        have hK2 : ((w8).setRow w.heap.size (ansC (F))).heap[D]? = some (.deferred (some [])) := (bk_setRow_other _ _ _ _ HNE.out).trans (HD8).out
        have kf : bk (((w8).setRow w.heap.size (ansC (F))).putObj D (.deferred none)) w.heap.size = some (.cells (ansC (F)) 36 (0, 0)) := by
          refine (World.putObj_heap_other (fun e => HNE.out e.symm)).trans ?_
          show bk ((w8).setRow w.heap.size (ansC (F))) w.heap.size = _
          rw [bk_setRow_same, (K8).out]; rfl
        have hB9 : Below w.heap.size w (((w8).setRow w.heap.size (ansC (F))).putObj D (.deferred none)) := by
          have h1 := below_setRow (B8).out (Nat.le_refl w.heap.size) (ansC (F))
          exact h1.grown (grownBy_putObj' _ D (.deferred none)) h1.size (fun k e => by cases e; exact HWD.out)
        refine ⟨by simp, .inl ⟨_, _, rfl, run_takeDeferred hK2, ?_⟩⟩
        exact ⟨_, results_cell_row rfl _ _ w.heap.size 36 (ansC (F)) (0, 0) _ rfl kf Try.underlying36 rfl (by rw [ansC_size]; kernel_rfl), (by rw [HF8.out]), hB9⟩
      · have n4 : ((d.length : Int) == 4) = false := beq_eq_false_iff_ne.2 (by omega)
        have HF : Hid (frsh (some d) = 86400) := Lib.hid (by unfold frsh; simp only [if_neg h4])
        clear h4 hkc hgw hDg
        go_upto_region 9 with fail
        have kv := (K6).out
        have os1 := ansC_ones (86400)
        have os2 := ansC_size (86400)
        have lv := bk_lt kv
        go_wp2_with fail
        have hK2 : ((w6).setRow w.heap.size (ansC (86400))).heap[D]? = some (.deferred (some [])) := (bk_setRow_other _ _ _ _ HNE.out).trans (HD6).out
        have kf : bk (((w6).setRow w.heap.size (ansC (86400))).putObj D (.deferred none)) w.heap.size = some (.cells (ansC (86400)) 36 (0, 0)) := by
          refine (World.putObj_heap_other (fun e => HNE.out e.symm)).trans ?_
          show bk ((w6).setRow w.heap.size (ansC (86400))) w.heap.size = _
          rw [bk_setRow_same, (K6).out]; rfl
        have hB9 : Below w.heap.size w (((w6).setRow w.heap.size (ansC (86400))).putObj D (.deferred none)) := by
          have h1 := below_setRow (B6).out (Nat.le_refl w.heap.size) (ansC (86400))
          exact h1.grown (grownBy_putObj' _ D (.deferred none)) h1.size (fun k e => by cases e; exact HWD.out)
        refine ⟨by simp, .inl ⟨_, _, rfl, run_takeDeferred hK2, ?_⟩⟩
        exact ⟨_, results_cell_row rfl _ _ w.heap.size 36 (ansC (86400)) (0, 0) _ rfl kf Try.underlying36 rfl (by rw [ansC_size]; kernel_rfl), (by rw [HF.out]), hB9⟩
theorem answer_any (g nn : Nat) (M : Nat → Option Value) (d : Option (List UInt8)) (w : World) (hM : MapIs w g nn M) (h23 : M 23 = none) (h24 : M 24 = none) (h32 : At32 w M d) :
    Calls Try.prog 28 #[.map (some g)] w fun e w' => e = .returned (.agg (ansC (frsh d))) ∧ Below w.heap.size w w' :=
  (callsIn_wide (n := 4)).1 (answer_in 4 (by omega) g nn M d w hM h23 h24 h32)
end Go.Proofs.Ytfldoihindbdmaa

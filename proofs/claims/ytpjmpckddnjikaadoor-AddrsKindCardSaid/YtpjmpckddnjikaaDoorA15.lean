/- Lists of addresses: are two the same; the reference's kinds of addresses. -/
import Derived.Test.YtpjmpckddnjikaaDoorA13
import Derived.Test.YtpjmpckddnjikaaDoorA2
namespace Go.Proofs.YtpjmpckddnjikaaDoor
open Go.RowKit Ad
set_option maxRecDepth 100000
/-- The six known addresses, one behind the other. -/
def six : List UInt8 := knownL.take 96
@[go_sem ↓] theorem bsAddrs (len : Nat) (dst : Option Tmp) (ps : Array (Nat × Operand)) (t : TypeId) (pos : String) (af : Array Edge) (g : Option (Nat × Bool)) (a : Act) (w : World) (K : Act → World → Prop) (Q : Exit → Act → World → Prop) :
    Oper.wp Tryd.prog ⟨dst, .buildSlice 35 len ps, t, pos, af, g⟩ a w K Q = bsTo (wpHid Tryd.prog ⟨dst, .buildSlice 35 len ps, t, pos, af, g⟩ a w K Q) (fun c e => K (a.put dst (.slice (some ⟨w.heap.size, 0, none⟩) len len)) (w.alloc (.cells c e))) (builtSl Tryd.prog 35 len (ps.toList.map fun x => (x.1, a.eval x.2))) :=
  wp_buildSlice_bk 35 len dst ps t pos af g a w K Q
@[go_sem] theorem built6 (c0 c1 c2 c3 c4 c5 : Array Value) (h0 : c0.size = 16) (h1 : c1.size = 16) (h2 : c2.size = 16) (h3 : c3.size = 16) (h4 : c4.size = 16) (h5 : c5.size = 16) :
    builtSl Tryd.prog 35 6 [(0, .agg c0), (1, .agg c1), (2, .agg c2), (3, .agg c3), (4, .agg c4), (5, .agg c5)] = some ((c0.toList ++ c1.toList ++ c2.toList ++ c3.toList ++ c4.toList ++ c5.toList).toArray, 23) := by
  have e : ∀ parts, builtSl Tryd.prog 35 6 parts = (Instr.fill (fun k => some (k * 16, 16)) (Array.replicate 96 (.int .u8 0)) parts).map fun c => (c, 23) := fun parts => by kernel_rfl
  rw [e, show [(0, Value.agg c0), (1, Value.agg c1), (2, Value.agg c2), (3, Value.agg c3), (4, Value.agg c4), (5, Value.agg c5)] = partsAt 0 [.agg c0, .agg c1, .agg c2, .agg c3, .agg c4, .agg c5] from rfl,
    fill_all _ _ 0 0 _ (by simp [placesOk, Value.cells, h0, h1, h2, h3, h4, h5]) (by simp [widths, Value.cells, h0, h1, h2, h3, h4, h5])]
  simp [widths, Value.cells, h0, h1, h2, h3, h4, h5]
theorem six_cat : List.map B (knownA 0) ++ List.map B (knownA 1) ++ List.map B (knownA 2) ++ List.map B (knownA 3) ++ List.map B (knownA 4) ++ List.map B (knownA 5) = List.map B six := rfl
theorem known6 (k : Nat) (h : k < 6) : (knownA k).length = 16 := by
  rcases (show k = 0 ∨ k = 1 ∨ k = 2 ∨ k = 3 ∨ k = 4 ∨ k = 5 by omega) with rfl | rfl | rfl | rfl | rfl | rfl <;> rfl
/-- Lists of n addresses with the same bytes are the same. -/
theorem same_any (g1 g2 n : Nat) (l : List UInt8) (t1 t2 : TypeId) (f1 f2 : Nat × Nat) (hl : l.length = 16 * n) (hn : n < 2 ^ 40) (w : World) (h1 : bk w g1 = some (.cells (List.map B l).toArray t1 f1)) (h2 : bk w g2 = some (.cells (List.map B l).toArray t2 f2)) :
    Calls Tryd.prog 35 #[.slice (some ⟨g1, 0, none⟩) n n, .slice (some ⟨g2, 0, none⟩) n n] w fun e w' => e = .returned (.bool true) ∧ Below w.heap.size w w' := by
  have HL := Lib.hid hl; clear hl
  go_enter Tryd.func35, Tryd.ntmps35
  go_wp2
  go_loopw [5] (fun i w' => ∃ k : Nat, k ≤ n ∧ i = .int .i64 k ∧ Below w.heap.size w w') (fun i _ => n - (intOf i).toNat)
  case atStart => exact ⟨0, by omega, rfl, Below.refl _ _⟩
  case round =>
    obtain ⟨k, hk, rfl, hbel⟩ := hrel
    have k1 := bk_keep hbel (bk_lt h1) h1
    have k2 := bk_keep hbel (bk_lt h2) h2
    by_cases hlt : k < n
    · have hs : (sl l (k * 16) 16).length = 16 := sl_length _ _ _ (by have := HL.out; omega)
      have e1 := eqAddr (sl l (k * 16) 16) (sl l (k * 16) 16) hs hs
      simp only [beq_self_eq_true] at e1
      have l3 : k * 16 + 16 ≤ l.length := by have := HL.out; omega
      have l1 := bk_lt k1
      have l2 := bk_lt k2
      go_wp2
      refine wp_region_later (wr.heap.size) (by kernel_rfl) (by kernel_rfl) ?_
      repeat (go_big_quiet_step (fail))
      (first | refine wpQuiet_nil ?_ | (go_big_quiet_want; (try go_big_quiet_op); trace_state; fail))
      intro w1 hw'
      have q1 := later_elim hw'
      clear hw'
      go_wp2
      go_roundw
      case rel => exact ⟨k + 1, by omega, by go_num, hbel.trans (q1.mono hbel.size)⟩
      case measure => simp [intOf]; omega
    · obtain rfl : k = n := by omega
      go_wp2
      go_ret
      exact ⟨by simp, hbel⟩
theorem sameAddrs_any (g1 g2 n : Nat) (l : List UInt8) (t1 t2 : TypeId) (f1 f2 : Nat × Nat) (hl : l.length = 16 * n) (hn : n < 2 ^ 40) (w : World) (h1 : bk w g1 = some (.cells (List.map B l).toArray t1 f1)) (h2 : bk w g2 = some (.cells (List.map B l).toArray t2 f2)) :
    Calls Tryd.prog 22 #[.slice (some ⟨g1, 0, none⟩) n n, .slice (some ⟨g2, 0, none⟩) n n] w fun e w' => e = .returned (.bool true) ∧ Below w.heap.size w w' := by
  have C := Lib.hid (same_any g1 g2 n l t1 t2 f1 f2 hl hn w h1 h2)
  clear h1 h2 hl
  go_enter Tryd.func22, Tryd.ntmps22
  go_wp2_with fail
  refine (C.out).mono ?_
  rintro e w1 ⟨rfl, b1⟩
  go_wp2_with fail
  go_ret
  exact ⟨rfl, b1⟩
theorem rKnown_any (w : World) :
    Calls Tryd.prog 23 #[] w fun e w' => ∃ g, e = .returned (.slice (some ⟨g, 0, none⟩) 6 6) ∧ bk w' g = some (.cells (List.map B six).toArray 23 (0, 0)) ∧ w.heap.size ≤ g ∧ Below w.heap.size w w' := by
  go_enter Tryd.func23, Tryd.ntmps23
  go_wp2
  go_ret
  refine ⟨_, rfl, ?_, by omega, ?_⟩
  · rw [bk_alloc_at _ _ _ (by simp)]; rfl
  ·
    (repeat (first | exact Below.refl _ _ | assumption | refine Below.drew ?_ | refine bdrewN ?_ _ | refine Below.alloc ?_ (by first | omega | (simp <;> omega) | (simp only [World.size_alloc] <;> omega)) _ | refine below_setRow ?_ (by first | omega | (simp <;> omega)) _ | refine Below.setCell ?_ (by first | omega | (simp <;> omega)) _))
theorem rIsMul_any (l : List UInt8) (h : l.length = 16) (w : World) :
    Calls Tryd.prog 24 #[av l] w fun e w' => e = .returned (.bool (isMul l)) ∧ Below w.heap.size w w' := by
  have hfin : isMul l = ((l[0].toNat : Int) == 255) := by
    rw [isMul, ← u8_beq]; simp [List.getD_eq_getElem?_getD, h]
  have HF := Lib.hid hfin; clear hfin
  unfold av
  go_enter Tryd.func24, Tryd.ntmps24
  go_wp2
  go_ret
  refine ⟨?_, (Below.refl _ _).alloc (Nat.le_refl _) _⟩
  rw [HF.out]; rfl
theorem ll_common (l : List UInt8) (h : l.length = 16) : isLL l = decide (10 ≤ common l [254, 128, 0, 0, 0, 0, 0, 0, 0, 0, 0, 0, 0, 0, 0, 0]) := by
  rw [Bool.eq_iff_iff]
  simp only [decide_eq_true_eq]
  rw [le_common _ _ _ (by omega)]
  unfold isLL
  simp only [Bool.and_eq_true, beq_iff_eq]
  have g0 := (l.getD 0 0).toNat_lt
  have g1 := (l.getD 1 0).toNat_lt
  constructor
  · rintro ⟨h1, h2⟩ j hj
    unfold bitN
    by_cases h8 : j < 8
    · rw [show j / 8 = 0 by omega, h1]; rfl
    · rw [show j / 8 = 1 by omega]
      have e : (l.getD 1 0).toNat / 64 = 2 := by
        have := congrArg UInt8.toNat h2
        simpa using this
      unfold bitB
      show (l.getD 1 0).toNat / 2 ^ (7 - j % 8) % 2 = (128 : UInt8).toNat / 2 ^ (7 - j % 8) % 2
      generalize (l.getD 1 0).toNat = y at e g1 ⊢
      rcases (show j % 8 = 0 ∨ j % 8 = 1 by omega) with h | h <;> rw [h]
      · show y / 128 % 2 = 1; omega
      · show y / 64 % 2 = 0; omega
  · intro hb
    constructor
    · apply byte_ext
      intro k hk
      have := hb k (by omega)
      unfold bitN at this
      rw [show k / 8 = 0 by omega, show k % 8 = k by omega] at this
      exact this
    · have b0 := hb 8 (by omega)
      have b1 := hb 9 (by omega)
      have b0' : (l.getD 1 0).toNat / 128 % 2 = 1 := b0
      have b1' : (l.getD 1 0).toNat / 64 % 2 = 0 := b1
      rw [← UInt8.toNat_inj]
      simp
      have : (l.getD 1 0).toNat / 64 = 2 := by omega
      simpa using this
theorem rIsLL_any (l : List UInt8) (h : l.length = 16) (w : World) :
    Calls Tryd.prog 25 #[av l] w fun e w' => e = .returned (.bool (isLL l)) ∧ Below w.heap.size w w' := by
  have c1 : ∀ w, Calls Tryd.prog 29 #[.agg (List.map B l).toArray, .agg #[Value.int IntKind.u8 254, Value.int IntKind.u8 128, Value.int IntKind.u8 0, Value.int IntKind.u8 0, Value.int IntKind.u8 0, Value.int IntKind.u8 0, Value.int IntKind.u8 0, Value.int IntKind.u8 0, Value.int IntKind.u8 0, Value.int IntKind.u8 0, Value.int IntKind.u8 0, Value.int IntKind.u8 0, Value.int IntKind.u8 0, Value.int IntKind.u8 0, Value.int IntKind.u8 0, Value.int IntKind.u8 0]] w fun e w' => e = .returned (.int .i64 (common l [254, 128, 0, 0, 0, 0, 0, 0, 0, 0, 0, 0, 0, 0, 0, 0])) ∧ Below w.heap.size w w' := fun w => rcommon_any l [254, 128, 0, 0, 0, 0, 0, 0, 0, 0, 0, 0, 0, 0, 0, 0] h rfl w
  have hfin : isLL l = decide (10 ≤ ((common l [254, 128, 0, 0, 0, 0, 0, 0, 0, 0, 0, 0, 0, 0, 0, 0] : Nat) : Int)) := by rw [ll_common l h, decide_eq_decide]; omega
  generalize common l [254, 128, 0, 0, 0, 0, 0, 0, 0, 0, 0, 0, 0, 0, 0, 0] = c at *
  have C := Lib.hid c1; have HF := Lib.hid hfin
  clear c1 hfin
  go_enter Tryd.func25, Tryd.ntmps25
  go_wp2_with fail
  refine (C.out _).mono ?_
  rintro e w1 ⟨rfl, b1⟩
  go_wp2_with fail
  go_ret
  exact ⟨by rw [HF.out]; rfl, ((Below.refl _ _).alloc (Nat.le_refl _) _).trans (b1.mono (by simp))⟩
end Go.Proofs.YtpjmpckddnjikaaDoor

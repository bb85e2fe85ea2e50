/- Selects, the document's: labels. -/
import Derived.Test.YtcoonncedlbbkaaDoorX9
namespace Go.Proofs.YtcoonncedlbbkaaDoor
open Go.RowKit Ad
set_option maxRecDepth 100000
set_option maxHeartbeats 1000000
def table2 : List (List UInt8 × Nat) := [([0, 0, 0, 0, 0, 0, 0, 0, 0, 0, 0, 0, 0, 0, 0, 1, 128], 0), ([0, 0, 0, 0, 0, 0, 0, 0, 0, 0, 0, 0, 0, 0, 0, 0, 0], 1), ([0, 0, 0, 0, 0, 0, 0, 0, 0, 0, 255, 255, 0, 0, 0, 0, 96], 4), ([32, 2, 0, 0, 0, 0, 0, 0, 0, 0, 0, 0, 0, 0, 0, 0, 16], 2), ([32, 1, 0, 0, 0, 0, 0, 0, 0, 0, 0, 0, 0, 0, 0, 0, 32], 5), ([252, 0, 0, 0, 0, 0, 0, 0, 0, 0, 0, 0, 0, 0, 0, 0, 7], 13), ([0, 0, 0, 0, 0, 0, 0, 0, 0, 0, 0, 0, 0, 0, 0, 0, 96], 3), ([254, 192, 0, 0, 0, 0, 0, 0, 0, 0, 0, 0, 0, 0, 0, 0, 10], 11), ([63, 254, 0, 0, 0, 0, 0, 0, 0, 0, 0, 0, 0, 0, 0, 0, 16], 12)]
def tab2C : Array Value := (table2.flatMap fun x => List.map B x.1 ++ [Value.int .i64 (x.2 : Int)]).toArray
theorem tab2C_size : tab2C.size = 162 := by rfl
def pf (k : Nat) : List UInt8 := (table2.getD k ([], 0)).1
def bt (k : Nat) : Nat := ((pf k).getD 16 0).toNat
def lb2 (k : Nat) : Nat := (table2.getD k ([], 0)).2
def bst (a : List UInt8) : Nat → Nat
  | 0 => 1
  | k + 1 => if within a (pf k) && decide (bt (bst a k) ≤ bt k) then k else bst a k
theorem bst_lt (a : List UInt8) : ∀ k, k ≤ 9 → bst a k < 9
  | 0, _ => by unfold bst; decide
  | k + 1, h => by
    unfold bst
    split
    · omega
    · exact bst_lt a k (by omega)
def label2 (a : List UInt8) : Nat := lb2 (bst a 9)
theorem tab2_row (k : Nat) (h : k < 9) : (pf k).length = 17 ∧ xt tab2C (k * 18) 17 = (List.map B (pf k)).toArray ∧ tab2C[k * 18 + 16]? = some (.int .u8 (bt k : Int)) ∧ tab2C[k * 18 + 17]? = some (.int .i64 (lb2 k : Int)) ∧ bt k < 256 := by
  obtain rfl | rfl | rfl | rfl | rfl | rfl | rfl | rfl | rfl : k = 0 ∨ k = 1 ∨ k = 2 ∨ k = 3 ∨ k = 4 ∨ k = 5 ∨ k = 6 ∨ k = 7 ∨ k = 8 := by omega
  all_goals exact ⟨rfl, rfl, rfl, rfl, by decide⟩
theorem label23_any (a : List UInt8) (ha : a.length = 16) (w : World) :
    Calls Tryd.prog 11 #[av a] w fun e w' => e = .returned (.int .i64 (label2 a)) ∧ Below w.heap.size w w' := by
  have ba : Below w.heap.size w ((w.alloc (.cells (List.map B a).toArray 23)).alloc (.cells tab2C 64)) := (by (repeat (first | exact Below.refl _ _ | assumption | refine Below.drew ?_ | refine bdrewN ?_ _ | refine Below.alloc ?_ (by first | omega | (simp <;> omega) | (simp only [World.size_alloc] <;> omega)) _ | refine below_setRow ?_ (by first | omega | (simp <;> omega)) _ | refine Below.setCell ?_ (by first | omega | (simp <;> omega)) _)))
  have k0 : bk ((w.alloc (.cells (List.map B a).toArray 23)).alloc (.cells tab2C 64)) w.heap.size = some (.cells (List.map B a).toArray 23 (0, 0)) := (bk_alloc_past _ _ _ (by simp)).trans (bk_alloc_at _ _ _ rfl)
  have k1 : bk ((w.alloc (.cells (List.map B a).toArray 23)).alloc (.cells tab2C 64)) (w.heap.size + 1) = some (.cells tab2C 64 (0, 0)) := bk_alloc_at _ _ _ (by simp)
  have K0 := Lib.hid k0; have K1 := Lib.hid k1; have BA := Lib.hid ba
  clear k0 k1 ba
  go_enter Tryd.func11, Tryd.ntmps11
  go_wp2_with fail
  change Code.wp _ _ _ _ ((w.alloc (.cells (List.map B a).toArray 23)).alloc (.cells tab2C 64))
  generalize (w.alloc (.cells (List.map B a).toArray 23)).alloc (.cells tab2C 64) = w1 at *
  go_loopw [4, 5] (fun b i wr => ∃ k : Nat, k ≤ 9 ∧ i = .int .i64 k ∧ b = .int .i64 (bst a k : Int) ∧ Hid (Below w.heap.size w wr) ∧ Hid (bk wr w.heap.size = some (.cells (List.map B a).toArray 23 (0, 0))) ∧ Hid (bk wr (w.heap.size + 1) = some (.cells tab2C 64 (0, 0)))) (fun _ i _ => 9 - (intOf i).toNat)
  case atStart => exact ⟨0, by omega, rfl, rfl, BA, K0, K1⟩
  case round =>
    clear K0 K1 BA
    obtain ⟨k, hk, rfl, rfl, BR, K0, K1⟩ := hrel
    have v0 := K0.out; have v1 := K1.out
    have l0 := bk_lt v0; have l1 := bk_lt v1
    have hj9 := bst_lt a k hk
    have HS : Hid (bst a (k + 1) = if within a (pf k) && decide (bt (bst a k) ≤ bt k) then k else bst a k) := Lib.hid rfl
    by_cases hk9 : k < 9
    · obtain ⟨j, hj⟩ : ∃ j, j = bst a k := ⟨_, rfl⟩
      rw [← hj] at hj9 HS ⊢
      obtain ⟨g1, g2, g3, g4, g5⟩ := tab2_row k hk9
      obtain ⟨_, _, t3, _, t5⟩ := tab2_row j hj9
      have d1 : decide ((k : Int) < 9) = true := by simp; omega
      have CW := Lib.hid (within20_any a (pf k) ha g1)
      obtain ⟨q, hq⟩ : ∃ q, q = within a (pf k) := ⟨_, rfl⟩
      rw [← hq] at CW HS
      generalize pf k = p at *
      generalize bt k = x at *
      generalize bt j = y at *
      have cx := (bk_cell v1 (k * 18 + 16)).trans g3
      have cy := (bk_cell v1 (j * 18 + 16)).trans t3
      have hs : k * 18 + 17 ≤ tab2C.size := by rw [tab2C_size]; omega
      clear g3 g4 t3 hj hq
      cases q
      case false =>
        go_upto_region 6 with fail
        refine wp_region_later (wr.heap.size) (by kernel_rfl) (by kernel_rfl) ?_
        repeat (go_big_quiet_step (((rename_i xq; with_reducible exact later_call xq (Nat.le_refl _) (CW.out xq.w)))))
        (first | refine wpQuiet_nil ?_ | (go_big_quiet_want; (try go_big_quiet_op); trace_state; fail))
        intro w2 hw'
        have q2 := later_elim hw'
        clear hw'
        have K0' := Lib.hid (bk_keep q2 l0 v0); have K1' := Lib.hid (bk_keep q2 l1 v1)
        have B2 := Lib.hid (BR.out.trans (q2.mono BR.out.size))
        clear v0 v1 l0 l1 q2 cx cy g2 hs
        go_wp2_with fail
        refine ⟨⟨k + 1, by omega, by go_num, by rw [HS.out]; rfl, B2, K0', K1'⟩, by simp [intOf]; omega⟩
      case true =>
        by_cases hxy : y ≤ x
        · have d2 : decide ((y : Int) ≤ (x : Int)) = true := by simp; omega
          have d2' : decide (y ≤ x) = true := by simp; omega
          rw [Bool.true_and, if_pos d2'] at HS
          go_upto_region 6 with fail
          refine wp_region_later (wr.heap.size) (by kernel_rfl) (by kernel_rfl) ?_
          repeat (go_big_quiet_step (((rename_i xq; with_reducible exact later_call xq (Nat.le_refl _) (CW.out xq.w)))))
          (first | refine wpQuiet_nil ?_ | (go_big_quiet_want; (try go_big_quiet_op); trace_state; fail))
          intro w2 hw'
          have q2 := later_elim hw'
          clear hw'
          have K0' := Lib.hid (bk_keep q2 l0 v0); have K1' := Lib.hid (bk_keep q2 l1 v1)
          have B2 := Lib.hid (BR.out.trans (q2.mono BR.out.size))
          clear v0 v1 l0 l1 q2 cx cy g2 hs
          go_wp2_with fail
          refine ⟨⟨k + 1, by omega, by go_num, by rw [HS.out], B2, K0', K1'⟩, by simp [intOf]; omega⟩
        · have d2 : decide ((y : Int) ≤ (x : Int)) = false := by simp; omega
          have d2' : decide (y ≤ x) = false := by simp; omega
          rw [Bool.true_and, if_neg (by rw [d2']; decide)] at HS
          go_upto_region 6 with fail
          refine wp_region_later (wr.heap.size) (by kernel_rfl) (by kernel_rfl) ?_
          repeat (go_big_quiet_step (((rename_i xq; with_reducible exact later_call xq (Nat.le_refl _) (CW.out xq.w)))))
          (first | refine wpQuiet_nil ?_ | (go_big_quiet_want; (try go_big_quiet_op); trace_state; fail))
          intro w2 hw'
          have q2 := later_elim hw'
          clear hw'
          have K0' := Lib.hid (bk_keep q2 l0 v0); have K1' := Lib.hid (bk_keep q2 l1 v1)
          have B2 := Lib.hid (BR.out.trans (q2.mono BR.out.size))
          clear v0 v1 l0 l1 q2 cx cy g2 hs
          go_wp2_with fail
          refine ⟨⟨k + 1, by omega, by go_num, by rw [HS.out], B2, K0', K1'⟩, by simp [intOf]; omega⟩
    · obtain rfl : k = 9 := by omega
      have d1 : decide (((9 : Nat) : Int) < 9) = false := by simp
      obtain ⟨j, hj⟩ : ∃ j, j = bst a 9 := ⟨_, rfl⟩
      rw [← hj] at hj9 ⊢
      obtain ⟨_, _, _, t4, _⟩ := tab2_row j hj9
      have HL : Hid (label2 a = lb2 j) := by rw [hj]; exact Lib.hid rfl
      have cy := (bk_cell v1 (j * 18 + 17)).trans t4
      clear t4 hj v0 l0 v1
      generalize lb2 j = z at *
      go_wp2_with fail
      go_ret
      exact ⟨by rw [HL.out]; rfl, BR.out⟩
end Go.Proofs.YtcoonncedlbbkaaDoor

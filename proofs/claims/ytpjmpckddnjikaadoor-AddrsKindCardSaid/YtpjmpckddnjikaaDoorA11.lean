/- The reference's masked address. -/
import Derived.Test.YtpjmpckddnjikaaDoorA5
import Derived.Test.YtpjmpckddnjikaaDoorL2
namespace Go.Proofs.YtpjmpckddnjikaaDoor
open Go.RowKit Ad
set_option maxRecDepth 100000
namespace Ad
theorem mb_of_ge (b : UInt8) (n m : Nat) (hn : 8 ≤ n) (hm : 8 ≤ m) : mb b n = mb b m := by
  unfold mb; rw [show 8 - n = 0 by omega, show 8 - m = 0 by omega]
theorem masked_get (l : List UInt8) (n j : Nat) (h : j < 16) : (masked l n)[j]? = some (mb (l.getD j 0) (n - 8 * j)) := by
  unfold masked; rw [List.getElem?_map, List.getElem?_range h]; rfl
theorem masked_succ (l : List UInt8) (k : Nat) (hk : k < 128) : (masked l k).set (k / 8) (mb (l.getD (k / 8) 0) (k % 8 + 1)) = masked l (k + 1) := by
  apply List.ext_getElem?
  intro j
  by_cases hj : j < 16
  · rw [List.getElem?_set, masked_get _ _ _ hj, masked_get _ _ _ hj]
    by_cases e : k / 8 = j
    · subst e
      rw [if_pos rfl, if_pos (by rw [masked_length]; omega), show k + 1 - 8 * (k / 8) = k % 8 + 1 by omega]
    · rw [if_neg e]
      rcases Nat.lt_or_ge j (k / 8) with h | h
      · rw [mb_of_ge _ (k - 8 * j) (k + 1 - 8 * j) (by omega) (by omega)]
      · rw [show k - 8 * j = k + 1 - 8 * j by omega]
  · rw [List.getElem?_eq_none (by simp; omega), List.getElem?_eq_none (by rw [masked_length]; omega)]
theorem or_num : ∀ j : Fin 8, ∀ b : Fin 256, bits .or .u8 ((b.val / 2 ^ (8 - j.val) * 2 ^ (8 - j.val) : Nat) : Int) (((b.val / 2 ^ (7 - j.val) % 2 : Nat) : Int) * 2 ^ (7 - j.val) % 256) = ((b.val / 2 ^ (8 - (j.val + 1)) * 2 ^ (8 - (j.val + 1)) : Nat) : Int) := by decide +kernel
theorem or_val (l : List UInt8) (k : Nat) (hk : k < 128) (x : UInt8) (hx : x = (masked l k).getD (k / 8) 0) :
    bits .or .u8 (x.toNat : Int) ((bitN l k : Int) * 2 ^ (7 - k % 8) % 256) = ((mb (l.getD (k / 8) 0) (k % 8 + 1)).toNat : Int) := by
  have e : (masked l k).getD (k / 8) 0 = mb (l.getD (k / 8) 0) (k % 8) := by
    rw [List.getD_eq_getElem?_getD, masked_get _ _ _ (by omega), show k - 8 * (k / 8) = k % 8 by omega]; rfl
  rw [hx, e, mb_toNat, mb_toNat]
  exact or_num ⟨k % 8, by omega⟩ ⟨(l.getD (k / 8) 0).toNat, UInt8.toNat_lt _⟩
theorem masked_big (l : List UInt8) (n m : Nat) (hn : 128 ≤ n) (hm : 128 ≤ m) : masked l n = masked l m := by
  apply addr_ext (masked_length _ _) (masked_length _ _)
  intro i hi
  rw [bitN_masked _ _ _ hi, bitN_masked _ _ _ hi, if_pos (by omega), if_pos (by omega)]
end Ad
theorem rmasked_any (l : List UInt8) (h : l.length = 16) (n : UInt8) (w : World) :
    Calls Tryd.prog 30 #[av l, B n] w fun e w' => e = .returned (av (masked l n.toNat)) ∧ Below w.heap.size w w' := by
  have hnl := n.toNat_lt
  go_enter Tryd.func30, Tryd.ntmps30
  go_wp2
  go_loopw [6] (fun i w' => ∃ k : Nat, k ≤ 128 ∧ k ≤ n.toNat ∧ i = .int .i64 k ∧ Below w.heap.size w w' ∧ w.heap.size + 3 ≤ w'.heap.size ∧ bk w' w.heap.size = some (.cells (List.map B l).toArray 23 (0, 0)) ∧ bk w' (w.heap.size + 2) = some (.cells (List.map B (masked l k)).toArray 23 (0, 0)) ∧ ∃ c, bk w' (w.heap.size + 1) = some (.cells c 23 (0, 0)) ∧ c.size = 16) (fun i _ => 128 - (intOf i).toNat)
  case atStart =>
    refine ⟨0, by omega, by omega, rfl, ?_, by simp, ?_, ?_, ?_⟩
    · exact (((Below.refl _ _).alloc (Nat.le_refl _) _).alloc (by simp) _).alloc (by simp <;> omega) _
    · simp [go_sem]
    · rw [masked_none, bk_alloc_at _ _ _ (by simp)]; rfl
    · exact ⟨_, (bk_alloc_past _ _ _ (by simp)).trans (bk_alloc_at _ _ _ (by simp)), rfl⟩
  case round =>
    obtain ⟨k, hk, hkn, rfl, hbel, hsz, hca, hcm, c, hcb, hcs⟩ := hrel
    by_cases hlt : k < 128 ∧ k < n.toNat
    · obtain ⟨hl1, hl2⟩ := hlt
      have d1 : decide ((k : Int) < 128) = true := by simp; omega
      have d2 : decide ((k : Int) < (n.toNat : Int)) = true := by simp; omega
      have hm8 : k / 8 < (masked l k).length := by rw [masked_length]; omega
      obtain ⟨x, hx⟩ : ∃ x, x = (masked l k).getD (k / 8) 0 := ⟨_, rfl⟩
      have hcell : wr.cell? ⟨w.heap.size + 2, k / 8, none⟩ = some (B x) := by rw [bk_cell hcm, hx]; simp only [List.getElem?_toArray, List.getElem?_map, List.getElem?_eq_getElem hm8, List.getD_eq_getElem?_getD]; rfl
      have HX := Lib.hid hx; clear hx
      have hbl := bitN_lt l k
      have hxl := x.toNat_lt
      have CB := Lib.hid (bit_any l h k hl1)
      go_wp2
      refine wp_region_later_tail (w.heap.size + 3) 15 (by kernel_rfl) (by kernel_rfl) ?_
      simp only [List.take_succ_cons, List.take_zero, List.drop_succ_cons, List.drop_zero]
      repeat (go_big_quiet_step (((rename_i xq; exact later_call xq hsz (CB.out xq.w)))))
      (first | refine wpQuiet_nil ?_ | (go_big_quiet_want; (try go_big_quiet_op); trace_state; fail))
      intro w1 hw'
      have q1 := later_elim hw'
      clear hw'
      have k1 := bk_keep q1 (by omega) hcm
      have hcell1 : w1.cell? ⟨w.heap.size + 2, k / 8, none⟩ = some (B x) := (q1.cell (p := ⟨w.heap.size + 2, k / 8, none⟩) (by simp)).trans hcell
      have hfz1 := bk_frozen k1 (k / 8)
      have K1 := Lib.hid k1
      clear k1 hcell
      go_wp2
      go_roundw
      case rel =>
        have hv := or_val l k hl1 x HX.out
        refine ⟨k + 1, by omega, by omega, by go_num, (hbel.trans (q1.mono (by omega))).setCell (by simp <;> omega) _, ?_, ?_, ?_, c, ?_, hcs⟩
        · have := q1.size; simp [World.setCell]; omega
        · rw [bk_setCell_other _ _ _ _ _ (by omega)]; exact bk_keep q1 (by omega) hca
        · rw [hv, bk_setCell_same, K1.out]
          show some (putObj (k / 8) (B (mb (l.getD (k / 8) 0) (k % 8 + 1))) _) = _
          rw [putObj_cells, map_set, masked_succ _ _ hl1]
        · rw [bk_setCell_other _ _ _ _ _ (by omega)]; exact bk_keep q1 (by omega) hcb
      case measure => simp [intOf]; omega
    · have e : masked l k = masked l n.toNat := by
        by_cases h1 : k < 128
        · rw [show k = n.toNat by omega]
        · exact masked_big _ _ _ (by omega) (by omega)
      rw [e] at hcm
      have hml := masked_length l n.toNat
      have hm2 : bk wr (w.heap.size + 1 + 1) = some (.cells (List.map B (masked l n.toNat)).toArray 23 (0, 0)) := hcm
      clear hcm e
      by_cases h1 : k < 128
      all_goals
        go_wp2
        refine ret_cell rfl rfl rfl (by simp only [bk_setRow_same, hcb]; rfl) Tryd.underlying23 rfl (by rw [map_size, hml]; kernel_rfl) ?_
        exact ⟨rfl, below_setRow hbel (by omega) _⟩
end Go.Proofs.YtpjmpckddnjikaaDoor

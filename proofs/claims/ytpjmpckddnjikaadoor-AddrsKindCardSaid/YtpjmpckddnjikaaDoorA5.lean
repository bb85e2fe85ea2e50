/- Addresses masked. -/
import Derived.Test.YtpjmpckddnjikaaDoorA4
namespace Go.Proofs.YtpjmpckddnjikaaDoor
open Go.RowKit Ad
set_option maxRecDepth 100000
namespace Ad
def mstep (l : List UInt8) (n k : Nat) : List UInt8 := (List.range 16).map fun j => if j < k then mb (l.getD j 0) (n - 8 * j) else l.getD j 0
theorem mstep_length (l : List UInt8) (n k : Nat) : (mstep l n k).length = 16 := by simp [mstep]
theorem mstep_get (l : List UInt8) (n k j : Nat) (h : j < 16) : (mstep l n k)[j]? = some (if j < k then mb (l.getD j 0) (n - 8 * j) else l.getD j 0) := by
  unfold mstep; rw [List.getElem?_map, List.getElem?_range h]; rfl
theorem mstep_zero (l : List UInt8) (n : Nat) (h : l.length = 16) : mstep l n 0 = l := by
  apply List.ext_getElem?
  intro j
  by_cases hj : j < 16
  · rw [mstep_get l n 0 j hj]; simp [List.getD_eq_getElem?_getD, List.getElem?_eq_getElem (show j < l.length by omega)]
  · rw [List.getElem?_eq_none (by rw [mstep_length]; omega), List.getElem?_eq_none (by omega)]
theorem mstep_all (l : List UInt8) (n : Nat) : mstep l n 16 = masked l n := by
  unfold mstep masked
  apply List.map_congr_left
  intro j hj
  rw [if_pos (by simpa using hj)]
theorem mstep_succ (l : List UInt8) (n k : Nat) (hk : k < 16) : (mstep l n k).set k (mb (l.getD k 0) (n - 8 * k)) = mstep l n (k + 1) := by
  apply List.ext_getElem?
  intro j
  by_cases hj : j < 16
  · rw [List.getElem?_set, mstep_get l n (k + 1) j hj, mstep_get l n k j hj]
    by_cases e : k = j
    · subst e; simp [mstep_length, hk]
    · by_cases e2 : j < k
      · simp [e, e2, show j < k + 1 by omega]
      · simp [e, e2, show ¬ j < k + 1 by omega]
  · rw [List.getElem?_eq_none (by simp [mstep_length]; omega), List.getElem?_eq_none (by rw [mstep_length]; omega)]
theorem mask_num : ∀ m : Fin 9, ∀ x : Fin 256, bits .and .u8 (x.val : Int) (bits .xor .u8 (if IntKind.u8.signed = true then -1 else IntKind.u8.max) (255 / 2 ^ m.val)) = ((x.val / 2 ^ (8 - m.val) * 2 ^ (8 - m.val) : Nat) : Int) := by decide +kernel
theorem mask_val (x n : UInt8) (k : Nat) : bits .and .u8 (x.toNat : Int) (bits .xor .u8 (if IntKind.u8.signed = true then -1 else IntKind.u8.max) (255 / 2 ^ (min 8 (max 0 ((n.toNat : Int) - 8 * (k : Int)))).toNat)) = ((mb x (n.toNat - 8 * k)).toNat : Int) := by
  have e : (min 8 (max 0 ((n.toNat : Int) - 8 * (k : Int)))).toNat = min 8 (n.toNat - 8 * k) := by omega
  rw [e, mb_toNat, mask_num ⟨min 8 (n.toNat - 8 * k), by omega⟩ ⟨x.toNat, x.toNat_lt⟩]
  simp only
  rw [show 8 - min 8 (n.toNat - 8 * k) = 8 - (n.toNat - 8 * k) by omega]
end Ad
theorem masked_any (l : List UInt8) (h : l.length = 16) (n : UInt8) (w : World) :
    Calls Tryd.prog 9 #[av l, B n] w fun e w' => e = .returned (av (masked l n.toNat)) ∧ Below w.heap.size w w' := by
  go_enter Tryd.func9, Tryd.ntmps9
  go_wp2
  go_loopw [5, 6, 7] (fun _ _ i w' => ∃ k : Nat, k ≤ 16 ∧ i = .int .i64 k ∧ Below w.heap.size w w' ∧ bk w' w.heap.size = some (.cells (List.map B (mstep l n.toNat k)).toArray 23 (0, 0)) ∧ ∃ c, bk w' (w.heap.size + 1) = some (.cells c 23 (0, 0)) ∧ c.size = 16) (fun _ _ i _ => 16 - (intOf i).toNat)
  case atStart =>
    refine ⟨0, by omega, rfl, ?_, ?_, ?_⟩
    · exact ((Below.refl _ _).alloc (Nat.le_refl _) _).alloc (by simp) _
    · rw [mstep_zero l _ h]; simp [go_sem]
    · exact ⟨_, bk_alloc_at _ _ _ (by simp), rfl⟩
  case round =>
    obtain ⟨k, hk, rfl, hbel, hca, c, hcb, hcs⟩ := hrel
    have hlm := mstep_length l n.toNat k
    by_cases hlt : k < 16
    · obtain ⟨x, hxd⟩ : ∃ x, x = l.getD k 0 := ⟨_, rfl⟩
      have h1 : wr.cell? ⟨w.heap.size, k, none⟩ = some (B x) := by
        rw [bk_cell hca, hxd]; simp [mstep_get l n.toNat k k hlt]
      have f1 := bk_frozen hca k
      have hv := mask_val x n k
      have HX := Lib.hid hxd
      have HV := Lib.hid hv
      have KA := Lib.hid hca; have KB := Lib.hid hcb; have HS := Lib.hid hcs
      have hnl := n.toNat_lt
      have hxl := x.toNat_lt
      clear hxd hca hcb hcs hlm hv
      go_wp2
      go_region
      go_wp2
      go_roundw
      case rel =>
        refine ⟨k + 1, by omega, by go_num, ((hbel.setCell (Nat.le_refl _) _).drew), ?_, c, ?_, HS.out⟩
        · rw [HV.out, bk_drew, bk_setCell_same, KA.out]
          show some (putObj k (B (mb x (n.toNat - 8 * k))) _) = _
          rw [putObj_cells, map_set, HX.out, mstep_succ _ _ _ hlt]
        · rw [bk_drew, bk_setCell_other _ _ _ _ _ (by omega), KB.out]
      case measure => simp [intOf]; omega
    · obtain rfl : k = 16 := by omega
      rw [mstep_all] at hca
      have hlm := masked_length l n.toNat
      clear hlt
      go_wp2
      refine ret_cell rfl rfl rfl (by simp only [bk_setRow_same, hcb]; rfl) Tryd.underlying23 rfl (by rw [map_size, hlm]; kernel_rfl) ?_
      exact ⟨rfl, below_setRow hbel (by omega) _⟩
end Go.Proofs.YtpjmpckddnjikaaDoor

/- The reference's bits of addresses. -/
import Derived.Test.YtpjmpckddnjikaaDoorA3
namespace Go.Proofs.YtpjmpckddnjikaaDoor
open Go.RowKit Ad
set_option maxRecDepth 100000
theorem bit_any (l : List UInt8) (h : l.length = 16) (i : Nat) (hi : i < 128) (w : World) :
    Calls Tryd.prog 36 #[av l, .int .i64 (i : Int)] w fun e w' => e = .returned (.int .u8 (bitN l i)) ∧ Below w.heap.size w w' := by
  have h8 : i / 8 < l.length := by omega
  have H := Lib.hid h; clear h
  go_enter Tryd.func36, Tryd.ntmps36
  go_wp2
  go_ret
  refine ⟨?_, (Below.refl _ _).alloc (Nat.le_refl _) _⟩
  refine ret_int ?_

  show (((l[i / 8].toNat : Int) / 2 ^ (7 - i % 8)).tmod 2) = _
  rw [Int.tmod_eq_emod_of_nonneg (Int.ediv_nonneg (by omega) (by exact_mod_cast Nat.zero_le _))]
  unfold bitN bitB
  rw [List.getD_eq_getElem?_getD, List.getElem?_eq_getElem h8]
  simp
theorem rcommon_any (a b : List UInt8) (ha : a.length = 16) (hb : b.length = 16) (w : World) :
    Calls Tryd.prog 29 #[av a, av b] w fun e w' => e = .returned (.int .i64 (common a b)) ∧ Below w.heap.size w w' := by
  go_enter Tryd.func29, Tryd.ntmps29
  go_wp2
  go_loopw [5] (fun i w' => ∃ k : Nat, k ≤ 128 ∧ i = .int .i64 k ∧ Below w.heap.size w w' ∧ w.heap.size + 2 ≤ w'.heap.size ∧ bk w' w.heap.size = some (.cells (List.map B a).toArray 23 (0, 0)) ∧ bk w' (w.heap.size + 1) = some (.cells (List.map B b).toArray 23 (0, 0)) ∧ ∀ j, j < k → bitN a j = bitN b j) (fun i _ => 128 - (intOf i).toNat)
  case atStart =>
    refine ⟨0, by omega, rfl, ?_, by simp, ?_, ?_, fun j h => by omega⟩
    · exact ((Below.refl _ _).alloc (Nat.le_refl _) _).alloc (by simp) _
    · simp [go_sem]
    · simp [go_sem]
  case round =>
    obtain ⟨k, hk, rfl, hbel, hsz, hca, hcb, hj⟩ := hrel
    have HJ := Lib.hid hj
    clear hj
    by_cases hlt : k < 128
    · have hd : decide ((k : Int) < 128) = true := by simp; omega
      have ca := bit_any a ha k hlt
      have cb := bit_any b hb k hlt
      have HA := Lib.hid ha; have HB := Lib.hid hb
      have CA := Lib.hid ca; have CB := Lib.hid cb
      clear ca cb
      by_cases hx : bitN a k = bitN b k
      · have hz : ((bitN a k : Int) == (bitN b k : Int)) = true := by simp [hx]
        have HE := Lib.hid hx; clear hx
        go_wp2
        refine wp_region_later (w.heap.size + 2) (by kernel_rfl) (by kernel_rfl) ?_
        repeat (go_big_quiet_step (((rename_i xq; first | (with_reducible exact later_call xq hsz (CA.out xq.w)) | (with_reducible exact later_call xq hsz (CB.out xq.w))))))
        (first | refine wpQuiet_nil ?_ | (go_big_quiet_want; (try go_big_quiet_op); trace_state; fail))
        intro w1 hw'
        have q1 := later_elim hw'
        clear hw'
        go_wp2
        go_roundw
        case rel => exact ⟨k + 1, by omega, by go_num, hbel.trans (q1.mono (by omega)), Nat.le_trans hsz q1.size, bk_keep q1 (by omega) hca, bk_keep q1 (by omega) hcb, fun j h => by
          by_cases e : j = k
          · subst e; exact HE.out
          · exact HJ.out j (by omega)⟩
        case measure => simp [intOf]; omega
      · have hz : ((bitN a k : Int) == (bitN b k : Int)) = false := by simp; omega
        have HC : Hid (common a b = k) := common_eq ⟨by omega, HJ.out, fun _ => hx⟩
        have HE := Lib.hid hx; clear hx
        go_wp2
        refine wp_region_later (w.heap.size + 2) (by kernel_rfl) (by kernel_rfl) ?_
        repeat (go_big_quiet_step (((rename_i xq; first | (with_reducible exact later_call xq hsz (CA.out xq.w)) | (with_reducible exact later_call xq hsz (CB.out xq.w))))))
        (first | refine wpQuiet_nil ?_ | (go_big_quiet_want; (try go_big_quiet_op); trace_state; fail))
        intro w1 hw'
        have q1 := later_elim hw'
        clear hw'
        go_wp2
        go_ret
        exact ⟨by rw [HC.out]; rfl, hbel.trans (q1.mono (by omega))⟩
    · obtain rfl : k = 128 := by omega
      have HC : Hid (common a b = 128) := common_eq ⟨by omega, HJ.out, fun h => by omega⟩
      have hd : decide (((128 : Nat) : Int) < 128) = false := by simp
      clear hlt
      go_wp2
      refine wp_region_later (w.heap.size + 2) (by kernel_rfl) (by kernel_rfl) ?_
      repeat (go_big_quiet_step (fail))
      (first | refine wpQuiet_nil ?_ | (go_big_quiet_want; (try go_big_quiet_op); trace_state; fail))
      intro w1 hw'
      have q1 := later_elim hw'
      clear hw'
      go_wp2
      go_ret
      exact ⟨by rw [HC.out]; rfl, hbel.trans (q1.mono (by omega))⟩
end Go.Proofs.YtpjmpckddnjikaaDoor

/- The addresses' functions: what two have in common. -/
import Derived.Test.YtcoonncedlbbkaaDoorA1
import Derived.Test.YtcoonncedlbbkaaDoorShelf
namespace Go.Proofs.YtcoonncedlbbkaaDoor
open Go.RowKit Ad
set_option maxRecDepth 100000
namespace Ad
theorem lz8 : ∀ z : Fin 256, z.val ≠ 0 → 8 - Lib.bitLen z.val < 8 ∧ Lib.bitLen z.val ≤ 8 ∧ (∀ j : Fin 8, j.val < 8 - Lib.bitLen z.val → z.val / 2 ^ (7 - j.val) % 2 = 0) ∧ z.val / 2 ^ (7 - (8 - Lib.bitLen z.val)) % 2 = 1 := by decide +kernel
theorem bitB_xor (x y : UInt8) (j : Nat) : bitB (x ^^^ y) j = (bitB x j + bitB y j) % 2 := by
  have t : ∀ n i : Nat, n / 2 ^ i % 2 = (n.testBit i).toNat := fun n i => by
    rw [Nat.testBit_eq_decide_div_mod_eq]
    rcases Nat.mod_two_eq_zero_or_one (n / 2 ^ i) with h | h <;> simp [h]
  unfold bitB
  rw [UInt8.toNat_xor, t, t, t, Nat.testBit_xor]
  cases x.toNat.testBit (7 - j) <;> cases y.toNat.testBit (7 - j) <;> rfl
theorem cmn_at {a b : List UInt8} {k : Nat} (hk : k < 16) (h : ∀ j, j < k → a.getD j 0 = b.getD j 0) (hx : a.getD k 0 ≠ b.getD k 0) :
    Lib.bitLen (a.getD k 0 ^^^ b.getD k 0).toNat ≤ 8 ∧ common a b = 8 * k + (8 - Lib.bitLen (a.getD k 0 ^^^ b.getD k 0).toNat) := by
  have hz : (a.getD k 0 ^^^ b.getD k 0).toNat ≠ 0 := fun e => hx (by
    have : a.getD k 0 ^^^ b.getD k 0 = 0 := by rw [← UInt8.toNat_inj]; exact e
    exact UInt8.xor_eq_zero_iff.1 this)
  have hl := lz8 ⟨(a.getD k 0 ^^^ b.getD k 0).toNat, UInt8.toNat_lt _⟩ hz
  simp only at hl
  obtain ⟨h1, h2, h3, h4⟩ := hl
  refine ⟨h2, common_eq ⟨by omega, fun j hj => ?_, fun _ e => ?_⟩⟩
  · unfold bitN
    by_cases hjk : j / 8 < k
    · rw [h _ hjk]
    · have e : j / 8 = k := by omega
      have h3' := h3 ⟨j % 8, by omega⟩ (by simp only; omega)
      have := bitB_xor (a.getD k 0) (b.getD k 0) (j % 8)
      unfold bitB at this ⊢
      rw [e]
      simp only at h3'
      omega
  · unfold bitN at e
    rw [show (8 * k + (8 - Lib.bitLen (a.getD k 0 ^^^ b.getD k 0).toNat)) / 8 = k by omega, show (8 * k + (8 - Lib.bitLen (a.getD k 0 ^^^ b.getD k 0).toNat)) % 8 = 8 - Lib.bitLen (a.getD k 0 ^^^ b.getD k 0).toNat by omega] at e
    have := bitB_xor (a.getD k 0) (b.getD k 0) (8 - Lib.bitLen (a.getD k 0 ^^^ b.getD k 0).toNat)
    rw [e] at this
    unfold bitB at this
    omega
theorem cmn_end {a b : List UInt8} (ha : a.length = 16) (hb : b.length = 16) (h : ∀ j, j < 16 → a.getD j 0 = b.getD j 0) : common a b = 128 := by
  refine (common_all ha hb).2 (List.ext_getElem (by omega) fun j h1 h2 => ?_)
  have := h j (by omega)
  simpa [List.getD_eq_getElem?_getD, h1, h2] using this
end Ad
theorem common_any (a b : List UInt8) (ha : a.length = 16) (hb : b.length = 16) (w : World) :
    Calls Tryd.prog 38 #[av a, av b] w fun e w' => e = .returned (.int .i64 (common a b)) ∧ Below w.heap.size w w' := by
  have HA := Lib.hid ha; have HB := Lib.hid hb
  clear ha hb
  go_enter Tryd.func38, Tryd.ntmps38
  go_wp2
  go_loopw [5, 6, 7] (fun _ _ i w' => ∃ k : Nat, k ≤ 16 ∧ i = .int .i64 k ∧ Below w.heap.size w w' ∧ bk w' w.heap.size = some (.cells (List.map B a).toArray 23 (0, 0)) ∧ bk w' (w.heap.size + 1) = some (.cells (List.map B b).toArray 23 (0, 0)) ∧ ∀ j, j < k → a.getD j 0 = b.getD j 0) (fun _ _ i _ => 16 - (intOf i).toNat)
  case atStart =>
    refine ⟨0, by omega, rfl, ?_, ?_, ?_, fun j h => by omega⟩
    · exact ((Below.refl _ _).alloc (Nat.le_refl _) _).alloc (by simp) _
    · simp [go_sem]
    · simp [go_sem]
  case round =>
    obtain ⟨k, hk, rfl, hbel, hca, hcb, hj⟩ := hrel
    have HJ := Lib.hid hj
    clear hj
    by_cases hlt : k < 16
    · obtain ⟨x, hxd⟩ : ∃ x, x = a.getD k 0 := ⟨_, rfl⟩
      obtain ⟨y, hyd⟩ : ∃ y, y = b.getD k 0 := ⟨_, rfl⟩
      have h1 : wr.cell? ⟨w.heap.size, k, none⟩ = some (B x) := by rw [bk_cell hca, hxd]; simp [HA.out, hlt, List.getD_eq_getElem?_getD]
      have h2 : wr.cell? ⟨w.heap.size + 1, k, none⟩ = some (B y) := by rw [bk_cell hcb, hyd]; simp [HB.out, hlt, List.getD_eq_getElem?_getD]
      have HX := Lib.hid hxd; have HY := Lib.hid hyd
      have KA := Lib.hid hca; have KB := Lib.hid hcb
      clear hxd hyd hca hcb
      obtain ⟨z, hz⟩ : ∃ z, z = x.toNat ^^^ y.toNat := ⟨_, rfl⟩
      have hzl : z < 256 := by rw [hz, ← UInt8.toNat_xor]; exact UInt8.toNat_lt _
      have hzr : bits .xor .u8 (x.toNat : Int) (y.toNat : Int) = (z : Int) := by rw [u8_xor_nat _ _ x.toNat_lt y.toNat_lt, hz]
      have HZ : Hid (z = (x ^^^ y).toNat) := by rw [UInt8.toNat_xor]; exact hz
      clear hz
      by_cases hx : x = y
      · have hz0 : ((z : Int) != 0) = false := by have h := HZ.out; simp [hx] at h; simp [h]
        have HE := Lib.hid hx; clear hx
        go_wp2
        go_quiet (fail)
        go_wp2
        go_roundw
        case rel => exact ⟨k + 1, by omega, by go_num, bdrewN hbel _, (bk_drewN _ _ _).trans KA.out, (bk_drewN _ _ _).trans KB.out, fun j h => by
          by_cases e : j = k
          · subst e; rw [← HX.out, ← HY.out, HE.out]
          · exact HJ.out j (by omega)⟩
        case measure => simp [intOf]; omega
      · have hz0 : ((z : Int) != 0) = true := by
          simp only [bne_iff_ne, ne_eq]
          intro h
          have : (x ^^^ y).toNat = 0 := by have := HZ.out; omega
          exact hx (UInt8.xor_eq_zero_iff.1 (by rw [← UInt8.toNat_inj]; exact this))
        have hc := cmn_at hlt HJ.out (by rw [← HX.out, ← HY.out]; exact hx)
        rw [← HX.out, ← HY.out, ← HZ.out] at hc
        obtain ⟨hb8, hc⟩ := hc
        have HC := Lib.hid hc
        clear hc
        go_wp2
        go_quiet (fail)
        go_wp2_with fail
        refine (Tryd.bits_LeadingZeros8 _ _ (by omega) (by omega)).mono ?_
        rintro e w1 ⟨rfl, rfl⟩
        simp only [Int.toNat_natCast]
        go_wp2
        go_ret
        exact ⟨ret_int (by rw [HC.out]; omega), bdrewN hbel _⟩
    · obtain rfl : k = 16 := by omega
      have HC := Lib.hid (cmn_end HA.out HB.out HJ.out)
      go_wp2
      go_ret
      exact ⟨by rw [HC.out]; rfl, hbel⟩
end Go.Proofs.YtcoonncedlbbkaaDoor

/- AddrsMasked: the law's walk. -/
import Derived.Test.YtpjmpckddnjikaaDoorA7
namespace Go.Proofs.YtpjmpckddnjikaaDoor
open Go.RowKit Ad
set_option maxRecDepth 100000
theorem bit_and_one (n : Nat) (h : n < 256) (h0 : n % 2 = 0) : bits .and .u8 (n : Int) 1 = 0 := by
  have := u8_and_nat n 1 h (by omega)
  rw [Nat.and_one_is_mod, h0] at this
  exact this
theorem addrsMasked_walk (l : List UInt8) (h : l.length = 16) (x y : UInt8) (w : World) (hg : GK w) :
    Calls Tryd.prog 3 #[av l, B x, B y] w fun e w' => e = .returned (.bool true) ∧ Below w.heap.size w w' := by
  have hw0 : 0 < w.heap.size := by obtain ⟨c, t, fr, h1, _⟩ := hg; exact bk_lt h1
  have HG := Lib.hid hg; clear hg
  have hxl := x.toNat_lt; have hyl := y.toNat_lt
  obtain ⟨m, hm⟩ : ∃ m, m = masked l x.toNat := ⟨_, rfl⟩
  have hml : m.length = 16 := by rw [hm]; exact masked_length _ _
  obtain ⟨p, hp⟩ : ∃ p, p = masked m y.toNat := ⟨_, rfl⟩
  have hpl : p.length = 16 := by rw [hp]; exact masked_length _ _
  obtain ⟨z, hz, hzp⟩ : ∃ z : UInt8, min (x.toNat : Int) (y.toNat : Int) = (z.toNat : Int) ∧ masked l z.toNat = p := by
    rcases Nat.le_total x.toNat y.toNat with hxy | hxy
    · exact ⟨x, by omega, by rw [hp, hm, masked_masked, Nat.min_eq_left hxy]⟩
    · exact ⟨y, by omega, by rw [hp, hm, masked_masked, Nat.min_eq_right hxy]⟩
  have hcm : min x.toNat 128 ≤ common l m := by rw [hm]; exact masked_common _ _
  have hbh : ∀ i, x.toNat ≤ i → i < 128 → bitN m i = 0 := fun i h1 h2 => by rw [hm]; exact masked_behind _ _ _ h1 h2
  have c1 := masked_any l h x
  have c2 := masked_any m hml y
  have c3 := masked_any l h z
  have c4 := common_any l m h hml
  have c5 : ∀ w, Calls Tryd.prog 9 #[av l, .int .u8 128] w fun e w' => e = .returned (av l) ∧ Below w.heap.size w w' := fun w => by
    have := masked_any l h 128 w
    rw [show masked l (128 : UInt8).toNat = l from masked_all l h] at this
    exact this
  have c6 : ∀ w, Calls Tryd.prog 9 #[av l, .int .u8 0] w fun e w' => e = .returned (av (knownA 0)) ∧ Below w.heap.size w w' := fun w => by
    have := masked_any l h 0 w
    rw [show masked l (0 : UInt8).toNat = knownA 0 from masked_none l] at this
    exact this
  rw [← hm] at c1; rw [← hp] at c2; rw [hzp] at c3
  have e1 := eqAddr p p hpl hpl
  have e2 := eqAddr l l h h
  have e3 := eqAddr (knownA 0) (knownA 0) rfl rfl
  simp only [beq_self_eq_true] at e1 e2 e3
  obtain ⟨c, hc⟩ : ∃ c, c = common l m := ⟨_, rfl⟩
  rw [← hc] at c4 hcm
  have hd : decide ((c : Int) < min (x.toNat : Int) 128) = false := by simp only [decide_eq_false_iff_not]; omega
  have C1 := Lib.hid c1; have C2 := Lib.hid c2; have C3 := Lib.hid c3; have C4 := Lib.hid c4; have C5 := Lib.hid c5; have C6 := Lib.hid c6
  have HB := Lib.hid hbh
  clear hm hp hzp hcm hbh c1 c2 c3 c4 c5 c6 hc
  go_enter Tryd.func3, Tryd.ntmps3
  go_wp2_with fail
  refine (C1.out _).mono ?_
  rintro e w1 ⟨rfl, b1⟩
  have f1 : Below w.heap.size w w1 := ((Below.refl _ _).alloc (Nat.le_refl _) _).trans (b1.mono (by simp))
  have k1 : bk w1 w.heap.size = some (.cells (List.map B l).toArray 23 (0, 0)) := bk_keep b1 (by simp) (bk_alloc_at _ _ _ rfl)
  have s1 : w.heap.size + 1 ≤ w1.heap.size := by simpa using b1.size
  clear b1
  have l1 : w.heap.size < w1.heap.size := by omega
  have l2 : w.heap.size < w1.heap.size + 1 := by omega
  go_wp2_with fail
  refine wp_region_later (w1.heap.size + 1) (by kernel_rfl) (by kernel_rfl) ?_
  repeat (go_big_quiet_step (((rename_i xq; first | (with_reducible exact later_call xq (by simp) (C2.out xq.w)) | (with_reducible exact later_call xq (by simp) (C3.out xq.w)) | (with_reducible exact later_call xq (by simp) (C4.out xq.w))))))
  (first | refine wpQuiet_nil ?_ | (go_big_quiet_want; (try go_big_quiet_op); trace_state; fail))
  intro w2 hw'
  have q2 := later_elim hw'
  clear hw'
  have f2 : Below w.heap.size w w2 := (f1.alloc (by omega) _).trans (q2.mono (by omega))
  have k2 : bk w2 w.heap.size = some (.cells (List.map B l).toArray 23 (0, 0)) := bk_keep q2 (by omega) ((bk_alloc_past _ _ _ (by omega)).trans k1)
  have k3 : bk w2 w1.heap.size = some (.cells (List.map B m).toArray 23 (0, 0)) := bk_keep q2 (by omega) (bk_alloc_at _ _ _ rfl)
  have s2 : w1.heap.size + 1 ≤ w2.heap.size := by simpa using q2.size
  clear q2 k1 f1
  go_wp2_with fail
  go_loopw [8] (fun i w' => ∃ k : Nat, x.toNat ≤ k ∧ k ≤ 255 ∧ i = .int .i64 k ∧ w' = w2) (fun i _ => 256 - (intOf i).toNat)
  case atStart => exact ⟨_, Nat.le_refl _, by omega, rfl, rfl⟩
  case round =>
    obtain ⟨k, hk1, hk2, rfl, rfl⟩ := hrel
    by_cases hlt : k < 128
    · have h8 : k / 8 < m.length := by omega
      have hv := HB.out k hk1 hlt
      have hcell : wr.cell? ⟨w1.heap.size, k / 8, none⟩ = some (B m[k / 8]) := by rw [bk_cell k3]; simp [h8]
      have hbit : bits .and .u8 ((m[k / 8].toNat : Int) / 2 ^ (7 - k % 8)) 1 = 0 := by
        have hlt2 : m[k / 8].toNat / 2 ^ (7 - k % 8) < 256 := Nat.lt_of_le_of_lt (Nat.div_le_self _ _) (UInt8.toNat_lt _)
        have h0 : m[k / 8].toNat / 2 ^ (7 - k % 8) % 2 = 0 := by
          unfold bitN bitB at hv
          rw [List.getD_eq_getElem?_getD, List.getElem?_eq_getElem h8] at hv
          simpa using hv
        have := bit_and_one _ hlt2 h0
        simpa using this
      clear hv
      go_wp2_with fail
      go_roundw
      case rel => exact ⟨k + 1, by omega, by omega, by go_num, by trivial⟩
      case measure => simp [intOf]; omega
    · have hd2 : decide ((k : Int) < 128) = false := by simp; omega
      go_wp2_with fail
      refine wp_region_later (w1.heap.size + 1) (by kernel_rfl) (by kernel_rfl) ?_
      repeat (go_big_quiet_step (((rename_i xq; first | (with_reducible exact later_call xq s2 (C5.out xq.w)) | (with_reducible exact later_call xq s2 (C6.out xq.w)) | (with_reducible exact later_call xq s2 (unspec_any xq.w (HG.out.below (f2.trans (xq.h.mono (by omega))) hw0))) | (with_reducible exact later_call xq s2 (lives_any xq.w (HG.out.below (f2.trans (xq.h.mono (by omega))) hw0)))))))
      (first | refine wpQuiet_nil ?_ | (go_big_quiet_want; (try go_big_quiet_op); trace_state; fail))
      intro w3 hw'
      have q3 := later_elim hw'
      clear hw'
      go_wp2_with fail
      go_ret
      exact ⟨rfl, f2.trans (q3.mono (by omega))⟩
end Go.Proofs.YtpjmpckddnjikaaDoor

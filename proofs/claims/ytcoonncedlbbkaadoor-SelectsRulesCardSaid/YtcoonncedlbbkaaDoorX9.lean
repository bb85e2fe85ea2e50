/- Selects, the document's: bits, prefixes, scopes. -/
import Derived.Test.YtcoonncedlbbkaaDoorX8
namespace Go.Proofs.YtcoonncedlbbkaaDoor
open Go.RowKit Ad
set_option maxRecDepth 100000
set_option maxHeartbeats 1000000
theorem bit20_any (l : List UInt8) (h : l.length = 16) (i : Nat) (hi : i < 128) (w : World) :
    Calls Tryd.prog 36 #[av l, .int .i64 (i : Int)] w fun e w' => e = .returned (.int .u8 (bitN l i)) ∧ Below w.heap.size w w' := by
  have h8 : i / 8 < l.length := by omega
  have H := Lib.hid h; clear h
  go_enter Tryd.func36, Tryd.ntmps36
  go_wp2
  go_ret
  refine ⟨?_, (Below.refl _ _).alloc (Nat.le_refl _) _⟩
  refine ret_int ?_
  have e : (l[i / 8].toNat : Int) / 2 ^ (7 - i % 8) = ((l[i / 8].toNat / 2 ^ (7 - i % 8) : Nat) : Int) := by
    rw [Int.natCast_ediv, Int.natCast_pow]; rfl
  have hlt : l[i / 8].toNat / 2 ^ (7 - i % 8) < 256 := Nat.lt_of_le_of_lt (Nat.div_le_self _ _) (UInt8.toNat_lt _)
  show bits .and .u8 ((l[i / 8].toNat : Int) / 2 ^ (7 - i % 8)) 1 = _
  rw [e]
  have h2 := u8_and_nat (l[i / 8].toNat / 2 ^ (7 - i % 8)) 1 hlt (by omega)
  rw [Nat.and_one_is_mod] at h2
  refine h2.trans ?_
  unfold bitN bitB
  rw [List.getD_eq_getElem?_getD, List.getElem?_eq_getElem h8]
  simp
theorem within20_any (a p : List UInt8) (ha : a.length = 16) (hp : p.length = 17) (w : World) :
    Calls Tryd.prog 18 #[av a, av p] w fun e w' => e = .returned (.bool (within a p)) ∧ Below w.heap.size w w' := by
  obtain ⟨n, hn⟩ : ∃ n, n = p.getD 16 0 := ⟨_, rfl⟩
  have h16 : p[16]? = some n := by rw [hn, List.getD_eq_getElem?_getD, List.getElem?_eq_getElem (by omega)]; rfl
  obtain ⟨q, hq⟩ : ∃ q, q = sl p 0 16 := ⟨_, rfl⟩
  have hql : q.length = 16 := by rw [hq]; exact sl_length _ _ _ (by omega)
  have hnl := n.toNat_lt
  have HW : Hid (within a p = decide (min n.toNat 128 ≤ common a q)) := by rw [hq, hn]; exact Lib.hid rfl
  have xw : xt (List.map B p).toArray 0 16 = (List.map B q).toArray := by rw [hq]; exact xt_map _ _ _
  have ba : Below w.heap.size w ((w.alloc (.cells (List.map B a).toArray 23)).alloc (.cells (List.map B p).toArray 62)) := (by (repeat (first | exact Below.refl _ _ | assumption | refine Below.drew ?_ | refine bdrewN ?_ _ | refine Below.alloc ?_ (by first | omega | (simp <;> omega) | (simp only [World.size_alloc] <;> omega)) _ | refine below_setRow ?_ (by first | omega | (simp <;> omega)) _ | refine Below.setCell ?_ (by first | omega | (simp <;> omega)) _)))
  have k0 : bk ((w.alloc (.cells (List.map B a).toArray 23)).alloc (.cells (List.map B p).toArray 62)) w.heap.size = some (.cells (List.map B a).toArray 23 (0, 0)) := (bk_alloc_past _ _ _ (by simp)).trans (bk_alloc_at _ _ _ rfl)
  have k1 : bk ((w.alloc (.cells (List.map B a).toArray 23)).alloc (.cells (List.map B p).toArray 62)) (w.heap.size + 1) = some (.cells (List.map B p).toArray 62 (0, 0)) := bk_alloc_at _ _ _ (by simp)
  have K0 := Lib.hid k0; have K1 := Lib.hid k1; have BA := Lib.hid ba
  clear hq hn k0 k1 ba
  go_enter Tryd.func18, Tryd.ntmps18
  go_wp2_with fail
  generalize (w.alloc (.cells (List.map B a).toArray 23)).alloc (.cells (List.map B p).toArray 62) = w1 at *
  go_loopw [5] (fun i wr => ∃ k : Nat, k ≤ min n.toNat 128 ∧ i = .int .i64 k ∧ Hid (Below w.heap.size w wr) ∧ Hid (bk wr w.heap.size = some (.cells (List.map B a).toArray 23 (0, 0))) ∧ Hid (bk wr (w.heap.size + 1) = some (.cells (List.map B p).toArray 62 (0, 0))) ∧ Hid (∀ j, j < k → bitN a j = bitN q j)) (fun i _ => 128 - (intOf i).toNat)
  case atStart => exact ⟨0, by omega, rfl, BA, K0, K1, Lib.hid fun j h => by omega⟩
  case round =>
    clear K0 K1 BA
    obtain ⟨k, hk, rfl, BR, K0, K1, HJ⟩ := hrel
    have v0 := K0.out; have v1 := K1.out
    have l0 := bk_lt v0; have l1 := bk_lt v1
    have c16 : wr.cell? ⟨w.heap.size + 1, 16, none⟩ = some (.int .u8 (n.toNat : Int)) := by
      rw [bk_cell v1, List.getElem?_toArray, List.getElem?_map, h16]; rfl
    have psz : 16 ≤ (List.map B p).toArray.size := by rw [map_size, hp]; omega
    by_cases hkn : k < min n.toNat 128
    · have d1 : decide ((k : Int) < (n.toNat : Int)) = true := by simp; omega
      have d1' : decide (k < n.toNat) = true := by simp; omega
      have d2 : decide ((k : Int) < 128) = true := by simp; omega
      have CA := Lib.hid (bit20_any a ha k (by omega)); have CB := Lib.hid (bit20_any q hql k (by omega))
      by_cases hx : bitN a k = bitN q k
      · have hz : ((bitN a k : Int) != (bitN q k : Int)) = false := by simp [hx]
        have HE := Lib.hid hx; clear hx
        go_upto_region 4 with fail
        refine wp_region_later (wr.heap.size) (by kernel_rfl) (by kernel_rfl) ?_
        repeat (go_big_quiet_step (((rename_i xq; first | (with_reducible exact later_call xq (Nat.le_refl _) (CA.out xq.w)) | (with_reducible exact later_call xq (Nat.le_refl _) (CB.out xq.w))))))
        (first | refine wpQuiet_nil ?_ | (go_big_quiet_want; (try go_big_quiet_op); trace_state; fail))
        intro w2 hw'
        have q2 := later_elim hw'
        clear hw'
        have K0' := Lib.hid (bk_keep q2 l0 v0); have K1' := Lib.hid (bk_keep q2 l1 v1)
        have B2 := Lib.hid (BR.out.trans (q2.mono BR.out.size))
        clear c16 v0 v1 l0 l1 q2
        go_wp2_with fail
        refine ⟨⟨k + 1, by omega, by go_num, B2, K0', K1', Lib.hid fun j h => ?_⟩, by simp [intOf]; omega⟩
        by_cases e : j = k
        · subst e; exact HE.out
        · exact HJ.out j (by omega)
      · have hz : ((bitN a k : Int) != (bitN q k : Int)) = true := by simp; omega
        have HC : Hid (within a p = false) := Lib.hid (by
          rw [HW.out, decide_eq_false_iff_not, le_common _ _ _ (by omega)]
          exact fun h => hx (h k hkn))
        go_upto_region 4 with fail
        refine wp_region_later (wr.heap.size) (by kernel_rfl) (by kernel_rfl) ?_
        repeat (go_big_quiet_step (((rename_i xq; first | (with_reducible exact later_call xq (Nat.le_refl _) (CA.out xq.w)) | (with_reducible exact later_call xq (Nat.le_refl _) (CB.out xq.w))))))
        (first | refine wpQuiet_nil ?_ | (go_big_quiet_want; (try go_big_quiet_op); trace_state; fail))
        intro w2 hw'
        have q2 := later_elim hw'
        clear hw'
        have B2 := Lib.hid (BR.out.trans (q2.mono BR.out.size))
        clear c16 v0 v1 l0 l1 q2
        go_wp2_with fail
        go_ret
        exact ⟨by rw [HC.out]; rfl, B2.out⟩
    · obtain rfl : k = min n.toNat 128 := by omega
      have HC : Hid (within a p = true) := Lib.hid (by
        rw [HW.out, decide_eq_true_eq, le_common _ _ _ (by omega)]
        exact HJ.out)
      obtain ⟨k, hk'⟩ : ∃ k, k = min n.toNat 128 := ⟨_, rfl⟩
      rw [← hk'] at hk ⊢
      by_cases hk8 : k < n.toNat
      · have d1 : decide ((k : Int) < (n.toNat : Int)) = true := by simp; omega
        have d1' : decide (k < n.toNat) = true := by simp; omega
        have hk128 : k = 128 := by omega
        have d2 : decide ((k : Int) < 128) = false := by rw [hk128]; simp
        clear hk' hkn
        go_wp2_with fail
        go_ret
        exact ⟨by rw [HC.out]; rfl, BR.out⟩
      · have d1 : decide ((k : Int) < (n.toNat : Int)) = false := by simp; omega
        have d1' : decide (k < n.toNat) = false := by simp; omega
        clear hk' hkn
        go_wp2_with fail
        go_ret
        exact ⟨by rw [HC.out]; rfl, BR.out⟩
theorem link20_any (l : List UInt8) (h : l.length = 16) (w : World) :
    Calls Tryd.prog 37 #[av l] w fun e w' => e = .returned (.bool (isLL l)) ∧ Below w.heap.size w w' := by
  have hfin : isLL l = ((l[0].toNat : Int) == 254 && (decide (128 ≤ (l[1].toNat : Int)) && decide ((l[1].toNat : Int) < 192))) := by
    have h1 : (decide (128 ≤ (l[1].toNat : Int)) && decide ((l[1].toNat : Int) < 192)) = (l[1] / 64 == 2) := by
      have e : (l[1] / 64 == 2) = decide (l[1].toNat / 64 = 2) := by
        rw [Bool.eq_iff_iff]; simp [← UInt8.toNat_inj]
      rw [e, Bool.eq_iff_iff]
      simp
      omega
    rw [isLL, ← u8_beq, h1]; simp [List.getD_eq_getElem?_getD, h]
  have HF := Lib.hid hfin; clear hfin
  unfold av
  by_cases hd : (l[0].toNat : Int) = 254
  all_goals by_cases he : 128 ≤ (l[1].toNat : Int)
  all_goals
    go_enter Tryd.func37, Tryd.ntmps37
    go_wp2
    go_ret
    refine ⟨?_, (Below.refl _ _).alloc (Nat.le_refl _) _⟩
    rw [HF.out]; first | (simp; done) | (simp; omega) | (simp [hd]; done) | (simp [hd]; omega)
theorem knownZ : knownA 0 = zadr := by rfl
theorem known1' : knownA 1 = [0, 0, 0, 0, 0, 0, 0, 0, 0, 0, 0, 0, 0, 0, 0, 1] := by rfl
theorem scope23_any (l : List UInt8) (h : l.length = 16) (w : World) :
    Calls Tryd.prog 19 #[av l] w fun e w' => e = .returned (.int .i64 (scope l)) ∧ Below w.heap.size w w' := by
  have E0 : ∀ w, (Op.equalIn 10000 23 (.agg (List.map B l).toArray) (.agg #[Value.int IntKind.u8 0, Value.int IntKind.u8 0, Value.int IntKind.u8 0, Value.int IntKind.u8 0, Value.int IntKind.u8 0, Value.int IntKind.u8 0, Value.int IntKind.u8 0, Value.int IntKind.u8 0, Value.int IntKind.u8 0, Value.int IntKind.u8 0, Value.int IntKind.u8 0, Value.int IntKind.u8 0, Value.int IntKind.u8 0, Value.int IntKind.u8 0, Value.int IntKind.u8 0, Value.int IntKind.u8 0])).run Tryd.prog w = .ok (l == knownA 0) w := eqAddr l (knownA 0) h rfl
  have E1 : ∀ w, (Op.equalIn 10000 23 (.agg (List.map B l).toArray) (.agg #[Value.int IntKind.u8 0, Value.int IntKind.u8 0, Value.int IntKind.u8 0, Value.int IntKind.u8 0, Value.int IntKind.u8 0, Value.int IntKind.u8 0, Value.int IntKind.u8 0, Value.int IntKind.u8 0, Value.int IntKind.u8 0, Value.int IntKind.u8 0, Value.int IntKind.u8 0, Value.int IntKind.u8 0, Value.int IntKind.u8 0, Value.int IntKind.u8 0, Value.int IntKind.u8 0, Value.int IntKind.u8 1])).run Tryd.prog w = .ok (l == knownA 1) w := eqAddr l (knownA 1) h rfl
  have hfin : scope l = if isMul l then l[1].toNat % 16 else if isLL l || l == knownA 1 then 2 else if l == knownA 0 then 0 else 14 := by
    rw [scope]; simp [List.getD_eq_getElem?_getD, h]
  have hm : isMul l = ((l[0].toNat : Int) == 255) := by
    rw [isMul, ← u8_beq]; simp [List.getD_eq_getElem?_getD, h]
  have h01 : (l == knownA 0) = true → isLL l = false ∧ (l == knownA 1) = false := fun e => by
    have e := eq_of_beq e
    subst e
    exact ⟨by decide, by decide⟩
  have CL := Lib.hid (link20_any l h)
  obtain ⟨bm, hbm⟩ : ∃ b, b = isMul l := ⟨_, rfl⟩
  obtain ⟨bl, hbl⟩ : ∃ b, b = isLL l := ⟨_, rfl⟩
  obtain ⟨b1, hb1⟩ : ∃ b, b = (l == knownA 1) := ⟨_, rfl⟩
  obtain ⟨b0, hb0⟩ : ∃ b, b = (l == knownA 0) := ⟨_, rfl⟩
  rw [← hb0] at E0 h01; rw [← hb1] at E1 h01; rw [← hbl] at h01 CL; rw [← hbm] at hm
  rw [← hbm, ← hbl, ← hb1, ← hb0] at hfin
  have HF := Lib.hid hfin; have H01 := Lib.hid h01; have HM := Lib.hid hm
  have hm' : ((l[0].toNat : Int) == 255) = bm := hm.symm
  clear hfin h01 hbm hbl hb1 hb0 hm
  have ba : Below w.heap.size w (w.alloc (.cells (List.map B l).toArray 23)) := (Below.refl _ _).alloc (Nat.le_refl _) _
  cases bm
  case true =>
    go_enter Tryd.func19, Tryd.ntmps19
    go_wp2_with fail
    go_ret
    exact ⟨by rw [HF.out]; rfl, ba⟩
  cases b0
  case true =>
    obtain ⟨e1, e2⟩ := H01.out rfl
    go_enter Tryd.func19, Tryd.ntmps19
    go_wp2_with fail
    go_ret
    exact ⟨by rw [HF.out, e1, e2]; rfl, ba⟩
  cases b1
  case true =>
    go_enter Tryd.func19, Tryd.ntmps19
    go_wp2_with fail
    go_ret
    exact ⟨by rw [HF.out]; simp, ba⟩
  go_enter Tryd.func19, Tryd.ntmps19
  go_wp2_with fail
  refine (CL.out _).mono ?_
  rintro e w2 ⟨rfl, b2⟩
  have B2 := Lib.hid (ba.trans (b2.mono ba.size))
  clear b2 ba
  cases bl
  all_goals
    go_wp2_with fail
    go_ret
    exact ⟨by rw [HF.out]; rfl, B2.out⟩
theorem common23_any (a b : List UInt8) (ha : a.length = 16) (hb : b.length = 16) (w : World) :
    Calls Tryd.prog 20 #[av a, av b] w fun e w' => e = .returned (.int .i64 ((min 64 (common a b) : Nat) : Int)) ∧ Below w.heap.size w w' := by
  have ba : Below w.heap.size w ((w.alloc (.cells (List.map B a).toArray 23)).alloc (.cells (List.map B b).toArray 23)) := (by (repeat (first | exact Below.refl _ _ | assumption | refine Below.drew ?_ | refine bdrewN ?_ _ | refine Below.alloc ?_ (by first | omega | (simp <;> omega) | (simp only [World.size_alloc] <;> omega)) _ | refine below_setRow ?_ (by first | omega | (simp <;> omega)) _ | refine Below.setCell ?_ (by first | omega | (simp <;> omega)) _)))
  have k0 : bk ((w.alloc (.cells (List.map B a).toArray 23)).alloc (.cells (List.map B b).toArray 23)) w.heap.size = some (.cells (List.map B a).toArray 23 (0, 0)) := (bk_alloc_past _ _ _ (by simp)).trans (bk_alloc_at _ _ _ rfl)
  have k1 : bk ((w.alloc (.cells (List.map B a).toArray 23)).alloc (.cells (List.map B b).toArray 23)) (w.heap.size + 1) = some (.cells (List.map B b).toArray 23 (0, 0)) := bk_alloc_at _ _ _ (by simp)
  have K0 := Lib.hid k0; have K1 := Lib.hid k1; have BA := Lib.hid ba
  clear k0 k1 ba
  go_enter Tryd.func20, Tryd.ntmps20
  go_wp2_with fail
  generalize (w.alloc (.cells (List.map B a).toArray 23)).alloc (.cells (List.map B b).toArray 23) = w1 at *
  go_loopw [5] (fun i wr => ∃ k : Nat, k ≤ 64 ∧ i = .int .i64 k ∧ Hid (Below w.heap.size w wr) ∧ Hid (bk wr w.heap.size = some (.cells (List.map B a).toArray 23 (0, 0))) ∧ Hid (bk wr (w.heap.size + 1) = some (.cells (List.map B b).toArray 23 (0, 0))) ∧ Hid (∀ j, j < k → bitN a j = bitN b j)) (fun i _ => 64 - (intOf i).toNat)
  case atStart => exact ⟨0, by omega, rfl, BA, K0, K1, Lib.hid fun j h => by omega⟩
  case round =>
    clear K0 K1 BA
    obtain ⟨k, hk, rfl, BR, K0, K1, HJ⟩ := hrel
    have v0 := K0.out; have v1 := K1.out
    have l0 := bk_lt v0; have l1 := bk_lt v1
    by_cases hkn : k < 64
    · have d1 : decide ((k : Int) < 64) = true := by simp; omega
      have CA := Lib.hid (bit20_any a ha k (by omega)); have CB := Lib.hid (bit20_any b hb k (by omega))
      by_cases hx : bitN a k = bitN b k
      · have hz : ((bitN a k : Int) == (bitN b k : Int)) = true := by simp [hx]
        have HE := Lib.hid hx; clear hx
        go_upto_region 2 with fail
        refine wp_region_later (wr.heap.size) (by kernel_rfl) (by kernel_rfl) ?_
        repeat (go_big_quiet_step (((rename_i xq; first | (with_reducible exact later_call xq (Nat.le_refl _) (CA.out xq.w)) | (with_reducible exact later_call xq (Nat.le_refl _) (CB.out xq.w))))))
        (first | refine wpQuiet_nil ?_ | (go_big_quiet_want; (try go_big_quiet_op); trace_state; fail))
        intro w2 hw'
        have q2 := later_elim hw'
        clear hw'
        have K0' := Lib.hid (bk_keep q2 l0 v0); have K1' := Lib.hid (bk_keep q2 l1 v1)
        have B2 := Lib.hid (BR.out.trans (q2.mono BR.out.size))
        clear v0 v1 l0 l1 q2
        go_wp2_with fail
        refine ⟨⟨k + 1, by omega, by go_num, B2, K0', K1', Lib.hid fun j h => ?_⟩, by simp [intOf]; omega⟩
        by_cases e : j = k
        · subst e; exact HE.out
        · exact HJ.out j (by omega)
      · have hz : ((bitN a k : Int) == (bitN b k : Int)) = false := by simp; omega
        have HC : Hid (min 64 (common a b) = k) := Lib.hid (by
          have := common_eq (a := a) (b := b) (n := k) ⟨by omega, HJ.out, fun _ => hx⟩
          omega)
        go_upto_region 2 with fail
        refine wp_region_later (wr.heap.size) (by kernel_rfl) (by kernel_rfl) ?_
        repeat (go_big_quiet_step (((rename_i xq; first | (with_reducible exact later_call xq (Nat.le_refl _) (CA.out xq.w)) | (with_reducible exact later_call xq (Nat.le_refl _) (CB.out xq.w))))))
        (first | refine wpQuiet_nil ?_ | (go_big_quiet_want; (try go_big_quiet_op); trace_state; fail))
        intro w2 hw'
        have q2 := later_elim hw'
        clear hw'
        have B2 := Lib.hid (BR.out.trans (q2.mono BR.out.size))
        clear v0 v1 l0 l1 q2
        go_wp2_with fail
        go_ret
        exact ⟨by rw [HC.out]; rfl, B2.out⟩
    · obtain rfl : k = 64 := by omega
      have HC : Hid (min 64 (common a b) = 64) := Lib.hid (by
        have := (le_common a b 64 (by omega)).2 HJ.out
        omega)
      have d1 : decide (((64 : Nat) : Int) < 64) = false := by simp
      clear hkn
      go_upto_region 2 with fail
      refine wp_region_later (wr.heap.size) (by kernel_rfl) (by kernel_rfl) ?_
      repeat (go_big_quiet_step ((fail)))
      (first | refine wpQuiet_nil ?_ | (go_big_quiet_want; (try go_big_quiet_op); trace_state; fail))
      intro w2 hw'
      have q2 := later_elim hw'
      clear hw'
      have B2 := Lib.hid (BR.out.trans (q2.mono BR.out.size))
      clear v0 v1 l0 l1 q2
      go_wp2_with fail
      go_ret
      exact ⟨by rw [HC.out]; rfl, B2.out⟩
end Go.Proofs.YtcoonncedlbbkaaDoor

/- Of a prefix and an id; within a prefix, by the reference. -/
import Derived.Test.YtpjmpckddnjikaaDoorA6
import Derived.Test.YtpjmpckddnjikaaDoorA11
namespace Go.Proofs.YtpjmpckddnjikaaDoor
open Go.RowKit Ad
set_option maxRecDepth 100000
def ofB (p d : List UInt8) : List UInt8 := splB (sl p 0 16) 8 d
theorem ofB_length (p d : List UInt8) (hp : p.length = 17) (hd : d.length = 8) : (ofB p d).length = 16 := by
  unfold ofB; rw [splB_length _ _ _ (by rw [sl_length _ _ _ (by omega)]; omega), sl_length _ _ _ (by omega)]
theorem of_any (p d : List UInt8) (hp : p.length = 17) (hd : d.length = 8) (w : World) :
    Calls Tryd.prog 32 #[av p, av d] w fun e w' => e = .returned (av (ofB p d)) ∧ Below w.heap.size w w' := by
  have hl := ofB_length p d hp hd
  have h1 : (sl p 0 16).length = 16 := sl_length _ _ _ (by omega)
  have h2 : sl d 0 8 = d := sl_whole d 8 hd
  unfold ofB at *
  go_enter Tryd.func32, Tryd.ntmps32
  go_wp2
  go_region
  go_wp2
  refine ret_cell rfl rfl rfl ?_ Tryd.underlying23 rfl (by rw [map_size, hl]; kernel_rfl) ?_
  rotate_left
  · refine ⟨rfl, ?_⟩
    (repeat (first | exact Below.refl _ _ | assumption | refine Below.drew ?_ | refine bdrewN ?_ _ | refine Below.alloc ?_ (by first | omega | (simp <;> omega) | (simp only [World.size_alloc] <;> omega)) _ | refine below_setRow ?_ (by first | omega | (simp <;> omega)) _ | refine Below.setCell ?_ (by first | omega | (simp <;> omega)) _))
  · simp [go_sem]
namespace Ad
def ofk (p d : List UInt8) (k : Nat) : List UInt8 := (List.range 16).map fun j => if j < 8 then (if j < k then p.getD j 0 else 0) else if j - 8 < k then d.getD (j - 8) 0 else 0
theorem ofk_length (p d : List UInt8) (k : Nat) : (ofk p d k).length = 16 := by simp [ofk]
theorem ofk_get (p d : List UInt8) (k j : Nat) (h : j < 16) : (ofk p d k)[j]? = some (if j < 8 then (if j < k then p.getD j 0 else 0) else if j - 8 < k then d.getD (j - 8) 0 else 0) := by
  unfold ofk; rw [List.getElem?_map, List.getElem?_range h]; rfl
theorem ofk_succ (p d : List UInt8) (k : Nat) (hk : k < 8) : ((ofk p d k).set k (p.getD k 0)).set (8 + k) (d.getD k 0) = ofk p d (k + 1) := by
  apply List.ext_getElem?
  intro j
  by_cases hj : j < 16
  · rw [List.getElem?_set, List.getElem?_set, ofk_get _ _ _ _ hj, ofk_get _ _ _ _ hj]
    simp only [List.length_set, ofk_length]
    by_cases e1 : 8 + k = j
    · subst e1; simp [show 8 + k < 16 by omega, show ¬ 8 + k < 8 by omega]
    · by_cases e2 : k = j
      · subst e2; simp [show ¬ 8 + k = k by omega, show k < 16 by omega, hk]
      · rw [if_neg e1, if_neg e2]
        congr 1
        by_cases h8 : j < 8
        · simp only [h8, if_true]; by_cases h : j < k
          · simp [h, show j < k + 1 by omega]
          · simp [h, show ¬ j < k + 1 by omega]
        · simp only [h8, if_false]; by_cases h : j - 8 < k
          · simp [h, show j - 8 < k + 1 by omega]
          · simp [h, show ¬ j - 8 < k + 1 by omega]
  · rw [List.getElem?_eq_none (by simp [ofk_length]; omega), List.getElem?_eq_none (by rw [ofk_length]; omega)]
theorem ofk_zero (p d : List UInt8) : ofk p d 0 = List.replicate 16 0 := by
  apply List.ext_getElem?
  intro j
  by_cases hj : j < 16
  · rw [ofk_get _ _ _ _ hj, List.getElem?_replicate, if_pos hj]; simp
  · rw [List.getElem?_eq_none (by rw [ofk_length]; omega), List.getElem?_eq_none (by simp; omega)]
end Ad
theorem ofk_all (p d : List UInt8) (hp : p.length = 17) (hd : d.length = 8) : ofk p d 8 = ofB p d := by
  have hl := ofB_length p d hp hd
  apply List.ext_getElem?
  intro j
  by_cases hj : j < 16
  · have h1 := splB_getD (sl p 0 16) 8 d (by rw [sl_length _ _ _ (by omega)]; omega) j
    have h2 := sl_getD p 0 16 j hj
    rw [ofk_get _ _ _ _ hj]
    have e : (ofB p d)[j]? = some ((ofB p d).getD j 0) := by
      rw [List.getD_eq_getElem?_getD, List.getElem?_eq_getElem (by omega)]; rfl
    rw [e]
    unfold ofB
    rw [h1, h2, hd]
    congr 1
    by_cases h8 : j < 8
    · simp [h8, show ¬ (8 ≤ j ∧ j < 8 + 8) by omega]
    · simp [h8, show j - 8 < 8 by omega, show 8 ≤ j ∧ j < 8 + 8 by omega]
  · rw [List.getElem?_eq_none (by rw [ofk_length]; omega), List.getElem?_eq_none (by omega)]
theorem rof_any (p d : List UInt8) (hp : p.length = 17) (hd : d.length = 8) (w : World) :
    Calls Tryd.prog 33 #[av p, av d] w fun e w' => e = .returned (av (ofB p d)) ∧ Below w.heap.size w w' := by
  have HL := Lib.hid (ofk_all p d hp hd)
  have HP := Lib.hid hp; have HD := Lib.hid hd
  clear hp hd
  go_enter Tryd.func33, Tryd.ntmps33
  go_wp2
  go_loopw [6] (fun i w' => ∃ k : Nat, k ≤ 8 ∧ i = .int .i64 k ∧ Below w.heap.size w w' ∧ bk w' w.heap.size = some (.cells (List.map B p).toArray 33 (0, 0)) ∧ bk w' (w.heap.size + 1) = some (.cells (List.map B d).toArray 39 (0, 0)) ∧ bk w' (w.heap.size + 3) = some (.cells (List.map B (ofk p d k)).toArray 23 (0, 0)) ∧ ∃ c, bk w' (w.heap.size + 2) = some (.cells c 23 (0, 0)) ∧ c.size = 16) (fun i _ => 8 - (intOf i).toNat)
  case atStart =>
    refine ⟨0, by omega, rfl, ?_, ?_, ?_, ?_, ?_⟩
    ·
      (repeat (first | exact Below.refl _ _ | assumption | refine Below.drew ?_ | refine bdrewN ?_ _ | refine Below.alloc ?_ (by first | omega | (simp <;> omega) | (simp only [World.size_alloc] <;> omega)) _ | refine below_setRow ?_ (by first | omega | (simp <;> omega)) _ | refine Below.setCell ?_ (by first | omega | (simp <;> omega)) _))
    · simp [go_sem]
    · simp [go_sem]
    · rw [ofk_zero, bk_alloc_at _ _ _ (by simp)]; rfl
    · exact ⟨_, (bk_alloc_past _ _ _ (by simp)).trans (bk_alloc_at _ _ _ (by simp)), rfl⟩
  case round =>
    obtain ⟨k, hk, rfl, hbel, hcp, hcd, hco, c, hcc, hcs⟩ := hrel
    by_cases hlt : k < 8
    · obtain ⟨x, hx⟩ : ∃ x, x = p.getD k 0 := ⟨_, rfl⟩
      obtain ⟨y, hy⟩ : ∃ y, y = d.getD k 0 := ⟨_, rfl⟩
      have h1 : wr.cell? ⟨w.heap.size, k, none⟩ = some (B x) := by
        rw [bk_cell hcp, hx]; have := HP.out; simp [List.getD_eq_getElem?_getD, List.getElem?_eq_getElem (show k < p.length by omega)]
      have h2 : wr.cell? ⟨w.heap.size + 1, k, none⟩ = some (B y) := by
        rw [bk_cell hcd, hy]; have := HD.out; simp [List.getD_eq_getElem?_getD, List.getElem?_eq_getElem (show k < d.length by omega)]
      have hol := ofk_length p d k
      have hs1 : (wr.cell? ⟨w.heap.size + 2 + 1, k, none⟩).isSome = true := by rw [show w.heap.size + 2 + 1 = w.heap.size + 3 by omega, bk_cell hco]; simp [hol]; omega
      have hs2 : (wr.cell? ⟨w.heap.size + 2 + 1, 8 + k, none⟩).isSome = true := by rw [show w.heap.size + 2 + 1 = w.heap.size + 3 by omega, bk_cell hco]; simp [hol]; omega
      obtain ⟨o1, hs1⟩ := Option.isSome_iff_exists.1 hs1
      obtain ⟨o2, hs2⟩ := Option.isSome_iff_exists.1 hs2
      have f1 : wr.frozen? ⟨w.heap.size + 2 + 1, k, none⟩ = false := bk_frozen hco k
      have f2 : wr.frozen? ⟨w.heap.size + 2 + 1, 8 + k, none⟩ = false := bk_frozen hco (8 + k)
      have HX := Lib.hid hx; have HY := Lib.hid hy; have KP := Lib.hid hcp; have KD := Lib.hid hcd; have KO := Lib.hid hco; have KC := Lib.hid hcc
      clear hx hy hcp hcd hco hcc hol
      go_wp2
      go_roundw
      case rel =>
        refine ⟨k + 1, by omega, by go_num, ?_, ?_, ?_, ?_, c, ?_, hcs⟩
        ·
          (repeat (first | exact Below.refl _ _ | assumption | refine Below.drew ?_ | refine bdrewN ?_ _ | refine Below.alloc ?_ (by first | omega | (simp <;> omega) | (simp only [World.size_alloc] <;> omega)) _ | refine below_setRow ?_ (by first | omega | (simp <;> omega)) _ | refine Below.setCell ?_ (by first | omega | (simp <;> omega)) _))
        · rw [bk_setCell_other _ _ _ _ _ (by omega), bk_setCell_other _ _ _ _ _ (by omega)]; exact KP.out
        · rw [bk_setCell_other _ _ _ _ _ (by omega), bk_setCell_other _ _ _ _ _ (by omega)]; exact KD.out
        · rw [show w.heap.size + 1 + 1 + 1 = w.heap.size + 3 by omega, bk_setCell_same, bk_setCell_same, KO.out]
          show some (putObj (8 + k) (B y) (putObj k (B x) _)) = _
          rw [putObj_cells, putObj_cells, map_set, map_set, HX.out, HY.out, ofk_succ _ _ _ hlt]
        · rw [bk_setCell_other _ _ _ _ _ (by omega), bk_setCell_other _ _ _ _ _ (by omega)]; exact KC.out
      case measure => simp [intOf]; omega
    · obtain rfl : k = 8 := by omega
      rw [HL.out] at hco
      have hml := ofB_length p d HP.out HD.out
      have hm2 : bk wr (w.heap.size + 1 + 1 + 1) = some (.cells (List.map B (ofB p d)).toArray 23 (0, 0)) := hco
      have hc2 : bk wr (w.heap.size + 1 + 1) = some (.cells c 23 (0, 0)) := hcc
      clear hco hcc hlt
      go_wp2
      refine ret_cell rfl rfl rfl (by simp only [bk_setRow_same, hc2]; rfl) Tryd.underlying23 rfl (by rw [map_size, hml]; kernel_rfl) ?_
      exact ⟨rfl, below_setRow hbel (by omega) _⟩
theorem rwithin_any (a p : List UInt8) (ha : a.length = 16) (hp : p.length = 17) (w : World) :
    Calls Tryd.prog 31 #[av a, av p] w fun e w' => e = .returned (.bool (decide (min (p.getD 16 0).toNat 128 ≤ common a (sl p 0 16)))) ∧ Below w.heap.size w w' := by
  have hsl : (sl p 0 16).length = 16 := sl_length _ _ _ (by omega)
  obtain ⟨n, hn⟩ : ∃ n, n = p.getD 16 0 := ⟨_, rfl⟩
  have h16 : p[16] = n := by rw [hn]; simp [List.getD_eq_getElem?_getD, hp]
  have e := eqAddr (masked a n.toNat) (masked (sl p 0 16) n.toNat) (masked_length _ _) (masked_length _ _)
  have e2 : (masked a n.toNat == masked (sl p 0 16) n.toNat) = decide (min n.toNat 128 ≤ common a (sl p 0 16)) := by
    rw [Bool.eq_iff_iff]; simp [masked_eq_iff]
  rw [e2] at e
  have C1 := Lib.hid (rmasked_any a ha n); have C2 := Lib.hid (rmasked_any (sl p 0 16) hsl n)
  rw [← hn]
  generalize decide (min n.toNat 128 ≤ common a (sl p 0 16)) = b at *
  clear e2 hn
  go_enter Tryd.func31, Tryd.ntmps31
  go_wp2
  refine wp_region_later (w.heap.size + 2) (by kernel_rfl) (by kernel_rfl) ?_
  repeat (go_big_quiet_step (((rename_i xq; first | (with_reducible exact later_call xq (by simp) (C1.out xq.w)) | (with_reducible exact later_call xq (by simp) (C2.out xq.w))))))
  (first | refine wpQuiet_nil ?_ | (go_big_quiet_want; (try go_big_quiet_op); trace_state; fail))
  intro w1 hw'
  have q1 := later_elim hw'
  clear hw'
  go_wp2
  go_ret
  exact ⟨rfl, (((Below.refl _ _).alloc (Nat.le_refl _) _).alloc (by simp) _).trans (q1.mono (by omega))⟩
end Go.Proofs.YtpjmpckddnjikaaDoor

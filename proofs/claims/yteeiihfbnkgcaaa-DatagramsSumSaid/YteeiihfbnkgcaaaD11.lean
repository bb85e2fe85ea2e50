/- DatagramsSum, walked. -/
import Derived.Test.YteeiihfbnkgcaaaD10
import Derived.Test.YteeiihfbnkgcaaaD12
namespace Go.Proofs.Yteeiihfbnkgcaaa
open Go.RowKit
set_option maxRecDepth 100000
theorem datagramsSum_long (src dst : List UInt8) (f t : Nat) (A : Option Addr) (n c : Nat) (w : World) (h1 : src.length = 16) (h2 : dst.length = 16) (hl : 3000 < n) :
    Calls Try.prog 6 #[av (src ++ dst), .agg (dgc f t A n c)] w fun e w' => e = .returned (.bool true) ∧ Below w.heap.size w w' := by
  obtain ⟨E, hE⟩ : ∃ E, E = src ++ dst := ⟨_, rfl⟩
  have q0 : sl E 0 16 = src := by rw [hE]; exact sl_src h1
  have q1 : sl E 16 16 = dst := by rw [hE]; exact sl_dst h1 h2
  have qn : E.length = 32 := by rw [hE, List.length_append]; omega
  rw [← hE]
  clear hE
  have d1 : decide (3000 < (n : Int)) = true := by simp; omega
  have d2 : decide (3000 < n) = true := by simp; omega
  go_enter Try.func6, Try.ntmps6
  go_wp2_with fail
  have a0 : Below w.heap.size w ((w.alloc (.cells (List.map B E).toArray 25)).alloc (.cells (dgc f t A n c) 29)) := (by (repeat (first | exact Below.refl _ _ | assumption | refine Below.drew ?_ | refine bdrewN ?_ _ | refine Below.alloc ?_ (by first | omega | (simp <;> omega) | (simp only [World.size_alloc] <;> omega)) _ | refine below_setRow ?_ (by first | omega | (simp <;> omega)) _ | refine Below.setCell ?_ (by first | omega | (simp <;> omega)) _)))
  refine (lives16_any _).mono ?_
  rintro e w1 ⟨rfl, b1⟩
  go_wp2_with fail
  go_ret
  exact ⟨rfl, a0.trans (b1.mono a0.size)⟩
set_option maxHeartbeats 2000000 in
theorem datagramsSum_walk (src dst : List UInt8) (f t : Nat) (A : Option Addr) (l : List UInt8) (c : Nat) (w : World) (h1 : src.length = 16) (h2 : dst.length = 16) (hf : f < 65536) (ht : t < 65536)
    (h : Rd w w.heap.size A l) (hA : A = none → l = [] ∧ c = 0) (hc : l.length ≤ c) (hl : l.length ≤ 3000) :
    Calls Try.prog 6 #[av (src ++ dst), .agg (dgc f t A l.length c)] w fun e w' => e = .returned (.bool true) ∧ Below w.heap.size w w' := by
  have RI := Lib.hid h; have HA := Lib.hid hA
  clear h hA
  have d1 : decide (3000 < (l.length : Int)) = false := by simp; omega
  have d2 : decide (3000 < l.length) = false := by simp; omega
  -- the even part of Data
  obtain ⟨m, hm⟩ : ∃ m, m = l.length / 2 * 2 := ⟨_, rfl⟩
  have hml : m ≤ l.length := by omega
  have hm2 : m % 2 = 0 := by omega
  have hmc : m ≤ c := by omega
  have em1 : (l.length : Int).tdiv 2 * 2 = (m : Int) := by rw [Int.tdiv_eq_ediv_of_nonneg (by omega), hm]; simp
  have em2 : (l.length : Int) / 2 * 2 = (m : Int) := by rw [hm]; simp
  have em3 : IntKind.i64.wrap ((m : Nat) : Int) = (m : Int) := by rw [IntKind.wrap_i64]; omega
  have em4 : IntKind.i64.wrap ((l.length : Int) / 2 * 2) = (m : Int) := by rw [em2, em3]
  have em5 : decide (m ≤ c) = true := by simp; omega
  clear hm
  obtain ⟨E, hE⟩ : ∃ E, E = src ++ dst := ⟨_, rfl⟩
  have q0 : sl E 0 16 = src := by rw [hE]; exact sl_src h1
  have q1 : sl E 16 16 = dst := by rw [hE]; exact sl_dst h1 h2
  have qn : E.length = 32 := by rw [hE, List.length_append]; omega
  rw [← hE]
  clear hE
  go_enter Try.func6, Try.ntmps6
  have a0 : Below w.heap.size w ((w.alloc (.cells (List.map B E).toArray 25)).alloc (.cells (dgc f t A l.length c) 29)) := (by (repeat (first | exact Below.refl _ _ | assumption | refine Below.drew ?_ | refine bdrewN ?_ _ | refine Below.alloc ?_ (by first | omega | (simp <;> omega) | (simp only [World.size_alloc] <;> omega)) _ | refine below_setRow ?_ (by first | omega | (simp <;> omega)) _ | refine Below.setCell ?_ (by first | omega | (simp <;> omega)) _)))
  have KE : Hid (bk ((w.alloc (.cells (List.map B E).toArray 25)).alloc (.cells (dgc f t A l.length c) 29)) w.heap.size = some (.cells (List.map B E).toArray 25 (0, 0))) := Lib.hid (by rw [bk_alloc_past _ _ _ (by simp)]; exact bk_alloc_at _ _ _ rfl)
  have KD : Hid (bk ((w.alloc (.cells (List.map B E).toArray 25)).alloc (.cells (dgc f t A l.length c) 29)) (w.heap.size + 1) = some (.cells (dgc f t A l.length c) 29 (0, 0))) := Lib.hid (bk_alloc_at _ _ _ (by simp))
  have z0 : ((w.alloc (.cells (List.map B E).toArray 25)).alloc (.cells (dgc f t A l.length c) 29)).heap.size = w.heap.size + 1 + 1 := by simp
  have F := Lib.hid a0
  have Z0 := Lib.hid z0
  replace RI := Lib.hid ((RI.out.below a0 (Nat.le_refl _)).mono a0.size)
  obtain ⟨L0, hL0⟩ : ∃ L0, L0 = l.take m := ⟨_, rfl⟩
  have hL0l : L0.length = m := by rw [hL0, List.length_take]; omega
  have R0 := Lib.hid (hL0 ▸ RI.out.take (m := m))
  have HA0 : Hid (A = none → L0 = [] ∧ c = 0) := Lib.hid fun h => ⟨by rw [hL0, (HA.out h).1]; simp, (HA.out h).2⟩
  have ELN := Lib.hid hL0l
  clear a0 hL0 hL0l z0
  go_wp2_with (at_builtin; refine append_rd rfl _ _ rfl (w.heap.size + 1 + 1) (.slice none 0 0) 0 [] rfl (World.ownsRow_nil _ _ _ _) A L0 c (by rw [ELN.out]; rfl) HA0.out R0.out (by rw [ELN.out]; omega) (by rw [Z0.out]; omega) ?_)
  intro v1 w1 hown hgrow
  have b1 : Below (w.heap.size + 1 + 1) ((w.alloc (.cells (List.map B E).toArray 25)).alloc (.cells (dgc f t A l.length c) 29)) w1 := (Below.refl _ _).grown hgrow (by rw [Z0.out]; omega) (fun k hk => by simp [Value.ownBlock] at hk)
  have ltE := bk_lt KE.out; have ltD := bk_lt KD.out
  have KE1 := Lib.hid (bk_keep b1 (by omega) KE.out)
  have KD1 := Lib.hid (bk_keep b1 (by omega) KD.out)
  have F1 := Lib.hid (F.out.trans (b1.mono (by omega)))
  have HO1 := Lib.hid hown
  have s1 := b1.size
  rw [Z0.out] at s1
  have cd1 := (bk_cell KD1.out 2).trans dgc_data
  have fd1 := bk_frozen KD1.out 2
  clear b1 KE KD F hgrow hown R0 HA0 Z0 RI HA
  go_wp2_with (at_builtin; refine append_rd rfl _ _ rfl (w.heap.size + 1 + 1) v1 L0.length (L0.map B) rfl (HO1.out.alloc _) (some ⟨w1.heap.size, 0, none⟩) [0, 0] 2 rfl (fun h => by cases h) (Rd.lit w1 [0, 0] 5) (by rw [ELN.out]; simp; omega) (by simp; omega) ?_)
  intro v2 w2 hown hgrow
  have a1 := (Below.refl w1.heap.size w1).alloc (Nat.le_refl _) (.cells (List.map B [0, 0]).toArray 5 (0, 0))
  have b2 : Below (w.heap.size + 1 + 1) (w1.alloc (.cells (List.map B [0, 0]).toArray 5)) w2 := (Below.refl _ _).grown hgrow (by simp; omega) (fun k hk => (HO1.out.lt k hk).1)
  have KE2 := Lib.hid (bk_keep b2 (by omega) (bk_keep a1 (bk_lt KE1.out) KE1.out))
  have KD2 := Lib.hid (bk_keep b2 (by omega) (bk_keep a1 (bk_lt KD1.out) KD1.out))
  have F2 := Lib.hid ((F1.out.trans (a1.mono F1.out.size)).trans (b2.mono (by omega)))
  have s2 : w.heap.size + 1 + 1 ≤ w2.heap.size := by have h1 := a1.size; have h2 := b2.size; omega
  obtain ⟨L1, hL1⟩ : ∃ L1, L1 = L0 ++ [0, 0] := ⟨_, rfl⟩
  have hL1l : L1.length = m + 2 := by rw [hL1, List.length_append, ELN.out]; rfl
  have ho2 : w2.ownsRow (w.heap.size + 1 + 1) 5 1 v2 L1.length (L1.map B) := by
    rw [hL1, List.length_append, List.map_append]; exact hown
  obtain ⟨A2, c2, rfl, _, _, _⟩ := Rd.of_own ho2 rfl
  obtain ⟨g2, cur2, rfl, hg2, hgs2, hcu2, hlc2, htk2⟩ := own_parts ho2 (by omega)
  have KG2 := Lib.hid hg2; have HTK2 := Lib.hid htk2
  have HL1l := Lib.hid hL1l
  have z0' : L1[m]? = some 0 := by rw [hL1, List.getElem?_append_right (by rw [ELN.out]; omega), ELN.out]; simp
  have z1' : L1[m + 1]? = some 0 := by rw [hL1, List.getElem?_append_right (by rw [ELN.out]; omega), ELN.out]; simp
  -- the datagram with its new Data
  have KD3 : Hid (bk (w2.setCell ⟨w.heap.size + 1, 2, none⟩ (.slice (some ⟨g2, 0, none⟩) L1.length c2)) (w.heap.size + 1) = some (.cells (dgc f t (some ⟨g2, 0, none⟩) L1.length c2) 29 (0, 0))) := Lib.hid (by rw [bk_setCell_same, KD2.out]; simp only [Option.map_some, putObj_cells, dgc_set])
  have KE3 := Lib.hid ((bk_setCell_other w2 (w.heap.size + 1) 2 w.heap.size (.slice (some ⟨g2, 0, none⟩) L1.length c2) (by omega)).trans KE2.out)
  have KG3 := Lib.hid ((bk_setCell_other w2 (w.heap.size + 1) 2 g2 (.slice (some ⟨g2, 0, none⟩) L1.length c2) (by omega)).trans KG2.out)
  have F3 : Hid (Below w.heap.size w (w2.setCell ⟨w.heap.size + 1, 2, none⟩ (.slice (some ⟨g2, 0, none⟩) L1.length c2))) := Lib.hid (F2.out.setCell (p := ⟨w.heap.size + 1, 2, none⟩) (show w.heap.size ≤ w.heap.size + 1 by omega) _)
  have cd2 := (bk_cell KD2.out 2).trans dgc_data
  have fd2 := bk_frozen KD2.out 2
  have hneE : ¬ w.heap.size = w.heap.size + 1 := by omega
  clear a1 b2 hown hgrow ho2 hg2 htk2 KE1 KD1 F1 HO1 cd1 fd1 KG2 F2 hL1 hL1l
  have vKE2 := KE2.out; have wKE2 := bk_lt vKE2
  have vKD2 := KD2.out; have wKD2 := bk_lt vKD2
  go_wp2_with fail
  clear vKE2 wKE2
  clear vKD2 wKD2
  clear cd2 fd2 KD2 KE2
  generalize w2.setCell ⟨w.heap.size + 1, 2, none⟩ (.slice (some ⟨g2, 0, none⟩) L1.length c2) = w3 at *
  obtain ⟨D, hD⟩ : ∃ D, D = dgb src dst f t L1 := ⟨_, rfl⟩
  have hDl : D.length = 8 + L1.length := by rw [hD, dgb_length]
  have HD := Lib.hid hD; have HDL := Lib.hid hDl
  have hm3 : m ≤ 3000 := by omega
  clear hD hDl
  refine (dput_any src dst f t (some ⟨g2, 0, none⟩) L1 c2 w3 h1 h2 hf ht (Rd.of_take KG3.out HTK2.out (bk_lt KG3.out)) (fun h => by cases h) (by rw [HL1l.out]; omega)).mono ?_
  rintro e w4 ⟨v, rfl, ho, b4⟩
  rw [← HD.out] at ho
  obtain ⟨A4, c4, rfl, _⟩ := Rd.of_own ho rfl
  obtain ⟨g4, cur4, rfl, hg4, hgs4, hcu4, hlc4, htk4⟩ := own_parts ho (by have := HDL.out; omega)
  have KG4 := Lib.hid hg4; have HTK4 := Lib.hid htk4
  have n3 := bk_lt KG3.out
  replace KE3 := Lib.hid (bk_keep b4 (bk_lt KE3.out) KE3.out)
  replace KD3 := Lib.hid (bk_keep b4 (bk_lt KD3.out) KD3.out)
  replace KG3 := Lib.hid (bk_keep b4 (bk_lt KG3.out) KG3.out)
  replace F3 := Lib.hid (F3.out.trans (b4.mono F3.out.size))
  clear ho hg4 htk4 b4
  obtain ⟨cs, hcs⟩ : ∃ cs, cs = dsum src dst f t L1 := ⟨_, rfl⟩
  obtain ⟨x6, hx6⟩ : ∃ x, x = UInt8.ofNat (cs / 256) := ⟨_, rfl⟩
  obtain ⟨x7, hx7⟩ : ∃ x, x = UInt8.ofNat cs := ⟨_, rfl⟩
  have hD6 : D[6]? = some x6 := by rw [HD.out, dgb_cons, hx6, hcs]; rfl
  have hD7 : D[7]? = some x7 := by rw [HD.out, dgb_cons, hx7, hcs]; rfl
  have hfull : dsum src dst f t ((L1.set m x6).set (m + 1) x7) = 65535 := by rw [hx6, hx7, hcs]; exact dsum_full src dst f t L1 m h1 h2 HL1l.out hm2 z0' z1'
  have HFULL := Lib.hid hfull
  have u6 : w4.cell? ⟨g4, 6, none⟩ = some (B x6) := own_cell KG4.out HTK4.out hD6
  have u7 : w4.cell? ⟨g4, 7, none⟩ = some (B x7) := own_cell KG4.out HTK4.out hD7
  have iD6 : (6 : Int) < (D.length : Int) := by have := HDL.out; omega
  have iD7 : (7 : Int) < (D.length : Int) := by have := HDL.out; omega
  have iD10 : decide ((D.length : Int) < 10) = false := by have := HDL.out; have := HL1l.out; simp; omega
  have Z0' := Lib.hid z0'; have Z1' := Lib.hid z1'
  clear hcs hx6 hx7 hD6 hD7 hfull z0' z1'
  have cd4 := (bk_cell KD3.out 2).trans dgc_data
  have wm : IntKind.i64.wrap ((L1.length : Int) - 2) = (m : Int) := by rw [IntKind.wrap_i64, HL1l.out]; omega
  have wm1 : IntKind.i64.wrap ((L1.length : Int) - 1) = ((m + 1 : Nat) : Int) := by rw [IntKind.wrap_i64, HL1l.out]; omega
  have im : (m : Int) < (L1.length : Int) := by rw [HL1l.out]; omega
  have im1 : ((m + 1 : Nat) : Int) < (L1.length : Int) := by rw [HL1l.out]; omega
  obtain ⟨m1, hm1⟩ : ∃ m1, m1 = m + 1 := ⟨_, rfl⟩
  rw [← hm1] at wm1 im1 HFULL Z1'
  have HM1 := Lib.hid hm1
  clear hm1
  have l3 := bk_lt KG3.out; have l4 := bk_lt KG4.out; have lD := bk_lt KD3.out
  go_wp2_with fail
  refine wp_region_later_tail (w4.heap.size) 10 (by kernel_rfl) (by kernel_rfl) ?_
  simp only [List.take_succ_cons, List.take_zero, List.drop_succ_cons, List.drop_zero]
  repeat (go_big_quiet_step ((fail)))
  (first | refine wpQuiet_nil ?_ | (go_big_quiet_want; (try go_big_quiet_op); trace_state; fail))
  intro w5 hw'
  have q5 := later_elim hw'
  clear hw'
  have u7b := (q5.cell (p := ⟨g4, 7, none⟩) l4).trans u7
  replace KE3 := Lib.hid (bk_keep q5 (bk_lt KE3.out) KE3.out)
  replace KD3 := Lib.hid (bk_keep q5 (bk_lt KD3.out) KD3.out)
  replace KG3 := Lib.hid (bk_keep q5 (bk_lt KG3.out) KG3.out)
  replace KG4 := Lib.hid (bk_keep q5 (bk_lt KG4.out) KG4.out)
  replace F3 := Lib.hid (F3.out.trans (q5.mono F3.out.size))
  have ug : w5.cell? ⟨g2, m, none⟩ = some (B 0) := own_cell KG3.out HTK2.out Z0'.out
  have fg := bk_frozen KG3.out m
  clear q5 u6 u7 cd4
  have ng4 : ¬ g4 = g2 := by omega
  have nge : ¬ w.heap.size = g2 := by omega
  have ngd : ¬ w.heap.size + 1 = g2 := by omega
  go_wp2_with fail
  have KG5 : Hid (bk (w5.setCell ⟨g2, m, none⟩ (B x6)) g2 = some (.cells (cur2.setIfInBounds m (B x6)) 5 (0, 0))) := Lib.hid (by rw [bk_setCell_same, KG3.out]; rfl)
  have KE5 := Lib.hid ((bk_setCell_other w5 g2 m w.heap.size (B x6) nge).trans KE3.out)
  have KD5 := Lib.hid ((bk_setCell_other w5 g2 m (w.heap.size + 1) (B x6) ngd).trans KD3.out)
  have KH5 := Lib.hid ((bk_setCell_other w5 g2 m g4 (B x6) ng4).trans KG4.out)
  have F5 : Hid (Below w.heap.size w (w5.setCell ⟨g2, m, none⟩ (B x6))) := Lib.hid (F3.out.setCell (p := ⟨g2, m, none⟩) (show w.heap.size ≤ g2 by omega) _)
  have HTK5 := Lib.hid (take_put (i := m) HTK2.out x6)
  have u7c : (w5.setCell ⟨g2, m, none⟩ (B x6)).cell? ⟨g4, 7, none⟩ = some (B x7) := by rw [cell_of_bk (bk_setCell_other w5 g2 m g4 (B x6) ng4)]; exact u7b
  clear KE3 KD3 KG3 KG4 F3 HTK2 ug fg u7b l3 l4 lD
  generalize w5.setCell ⟨g2, m, none⟩ (B x6) = w6 at *
  have l3 := bk_lt KG5.out; have l4 := bk_lt KH5.out; have lD := bk_lt KD5.out
  have cd6 := (bk_cell KD5.out 2).trans dgc_data
  refine wp_region_later_tail (w6.heap.size) 10 (by kernel_rfl) (by kernel_rfl) ?_
  simp only [List.take_succ_cons, List.take_zero, List.drop_succ_cons, List.drop_zero]
  repeat (go_big_quiet_step ((fail)))
  (first | refine wpQuiet_nil ?_ | (go_big_quiet_want; (try go_big_quiet_op); trace_state; fail))
  intro w7 hw'
  have q7 := later_elim hw'
  clear hw'
  replace KE5 := Lib.hid (bk_keep q7 (bk_lt KE5.out) KE5.out)
  replace KD5 := Lib.hid (bk_keep q7 (bk_lt KD5.out) KD5.out)
  replace KG5 := Lib.hid (bk_keep q7 (bk_lt KG5.out) KG5.out)
  replace F5 := Lib.hid (F5.out.trans (q7.mono F5.out.size))
  have hz1 : (L1.set m x6)[m1]? = some 0 := by rw [List.getElem?_set_ne (by have := HM1.out; omega)]; exact Z1'.out
  have ug : w7.cell? ⟨g2, m1, none⟩ = some (B 0) := own_cell KG5.out HTK5.out hz1
  have fg := bk_frozen KG5.out m1
  have n7 := q7.size
  clear q7 u7c cd6 hz1
  have vKE5 := KE5.out; have wKE5 := bk_lt vKE5
  have vKD5 := KD5.out; have wKD5 := bk_lt vKD5
  go_wp2_with fail
  clear vKE5 wKE5
  clear vKD5 wKD5
  have KG8 : Hid (bk (w7.setCell ⟨g2, m1, none⟩ (B x7)) g2 = some (.cells ((cur2.setIfInBounds m (B x6)).setIfInBounds m1 (B x7)) 5 (0, 0))) := Lib.hid (by rw [bk_setCell_same, KG5.out]; rfl)
  have KE8 := Lib.hid ((bk_setCell_other w7 g2 m1 w.heap.size (B x7) nge).trans KE5.out)
  have KD8 := Lib.hid ((bk_setCell_other w7 g2 m1 (w.heap.size + 1) (B x7) ngd).trans KD5.out)
  have F8 : Hid (Below w.heap.size w (w7.setCell ⟨g2, m1, none⟩ (B x7))) := Lib.hid (F5.out.setCell (p := ⟨g2, m1, none⟩) (show w.heap.size ≤ g2 by omega) _)
  have HTK8 := Lib.hid (take_put (i := m1) HTK5.out x7)
  clear KE5 KD5 KG5 F5 HTK5 ug fg l3 l4 lD KH5
  generalize w7.setCell ⟨g2, m1, none⟩ (B x7) = w8 at *
  obtain ⟨L3, hL3⟩ : ∃ L3, L3 = (L1.set m x6).set m1 x7 := ⟨_, rfl⟩
  rw [← hL3] at HTK8 HFULL
  have hL3l : L3.length = L1.length := by rw [hL3]; simp
  have HL3l := Lib.hid hL3l
  clear hL3 hL3l
  have R8 : Hid (Rd w8 w8.heap.size (some ⟨g2, 0, none⟩) L3) := Lib.hid (Rd.of_take KG8.out HTK8.out (bk_lt KG8.out))
  have C := dput_any src dst f t (some ⟨g2, 0, none⟩) L3 c2 w8 h1 h2 hf ht R8.out (fun h => by cases h) (by rw [HL3l.out, HL1l.out]; omega)
  rw [HL3l.out] at C
  obtain ⟨X, hX⟩ : ∃ X, X = dgb src dst f t L3 := ⟨_, rfl⟩
  have HX := Lib.hid hX
  have HXL : Hid (X.length = 8 + L1.length) := Lib.hid (by rw [hX, dgb_length, HL3l.out])
  rw [← hX] at C
  clear hX
  refine C.mono ?_
  clear C
  rintro e w9 ⟨v, rfl, ho, b9⟩
  obtain ⟨A9, c9, rfl, _⟩ := Rd.of_own ho rfl
  obtain ⟨g9, cur9, rfl, hg9, hgs9, hcu9, hlc9, htk9⟩ := own_parts ho (by have := HXL.out; omega)
  have KG9 := Lib.hid hg9; have HTK9 := Lib.hid htk9
  have n8 := bk_lt KG8.out
  replace KE8 := Lib.hid (bk_keep b9 (bk_lt KE8.out) KE8.out)
  replace KD8 := Lib.hid (bk_keep b9 (bk_lt KD8.out) KD8.out)
  replace KG8 := Lib.hid (bk_keep b9 (bk_lt KG8.out) KG8.out)
  replace F8 := Lib.hid (F8.out.trans (b9.mono F8.out.size))
  replace R8 := Lib.hid ((R8.out.below b9 (Nat.le_refl _)).mono b9.size)
  clear ho hg9 htk9 b9
  have hX6 : X[6]? = some 255 := by rw [HX.out, dgb_cons, HFULL.out]; rfl
  have hX7 : X[7]? = some 255 := by rw [HX.out, dgb_cons, HFULL.out]; rfl
  have v6 : w9.cell? ⟨g9, 6, none⟩ = some (.int .u8 255) := own_cell KG9.out HTK9.out hX6
  have v7 : w9.cell? ⟨g9, 7, none⟩ = some (.int .u8 255) := own_cell KG9.out HTK9.out hX7
  have jX6 : (6 : Int) < (X.length : Int) := by have := HXL.out; omega
  have jX7 : (7 : Int) < (X.length : Int) := by have := HXL.out; omega
  have jXD : ((X.length : Int) != (D.length : Int)) = false := by rw [HXL.out, HDL.out]; simp
  have jXE : ((X.length : Int) == (D.length : Int)) = true := by rw [HXL.out, HDL.out]; simp
  clear hX6 hX7
  have vKE8 := KE8.out; have wKE8 := bk_lt vKE8
  go_wp2_with fail
  have EQ : Hid (gF src dst X = f ∧ gT src dst X = t ∧ gD src dst X = L3 ∧ gE src dst X = 0) := Lib.hid (by
    have hl3 : L3.length ≤ 65527 := by rw [HL3l.out, HL1l.out]; omega
    have a := gF_back (t := t) h1 h2 hf hl3 []; have b := gT_back (f := f) h1 h2 ht hl3 []; have c := gD_back (f := f) (t := t) h1 h2 hl3 []; have d := gE_back (f := f) (t := t) h1 h2 hl3 []
    rw [List.append_nil, ← HX.out] at a b c d
    exact ⟨a, b, c, d⟩)
  have E6 : gE src dst ((X.set 6 0).set 7 0) = 6 := by rw [HX.out]; exact gE_zero src dst f t L3 (by rw [HL3l.out, HL1l.out]; omega)
  have HE6 := Lib.hid E6
  clear E6
  have hXm : X.length < 2 ^ 32 := by rw [HXL.out, HL1l.out]; omega
  refine (dget_any src dst (some ⟨g9, 0, none⟩) X c9 w9 h1 h2 (Rd.of_take KG9.out HTK9.out (bk_lt KG9.out)) (fun h => by cases h) hcu9 hXm).mono ?_
  rintro e w10 ⟨A10, rfl, hG, b10⟩
  rw [EQ.out.1, EQ.out.2.1, EQ.out.2.2.1, EQ.out.2.2.2] at *
  have G10 := Lib.hid hG
  have n9 := bk_lt KG9.out
  clear vKE8 wKE8
  replace KE8 := Lib.hid (bk_keep b10 (bk_lt KE8.out) KE8.out)
  replace KD8 := Lib.hid (bk_keep b10 (bk_lt KD8.out) KD8.out)
  replace KG9 := Lib.hid (bk_keep b10 (bk_lt KG9.out) KG9.out)
  replace F8 := Lib.hid (F8.out.trans (b10.mono F8.out.size))
  replace R8 := Lib.hid ((R8.out.below b10 (Nat.le_refl _)).mono b10.size)
  clear hG b10 v6 v7
  have a11 := (Below.refl w10.heap.size w10).alloc (Nat.le_refl _) (.cells (dgc f t A10 L3.length L3.length) 29 (0, 0))
  have KO := Lib.hid (bk_alloc_at w10 (.cells (dgc f t A10 L3.length L3.length) 29 (0, 0)) _ rfl)
  have vKE8 := KE8.out; have wKE8 := bk_lt vKE8
  have v6 : w10.cell? ⟨g9, 6, none⟩ = some (B 255) := own_cell KG9.out HTK9.out (by rw [HX.out, dgb_cons, HFULL.out]; rfl)
  have v7 : w10.cell? ⟨g9, 7, none⟩ = some (B 255) := own_cell KG9.out HTK9.out (by rw [HX.out, dgb_cons, HFULL.out]; rfl)
  have f6 := bk_frozen KG9.out 6
  have f7 := bk_frozen KG9.out 7
  have n9e : ¬ w.heap.size = g9 := by omega
  have l9 := bk_lt KG9.out
  have l9n : ¬ g9 = w10.heap.size := by omega
  go_wp2_with fail
  -- the worlds behind the two stores
  have nd9 : ¬ w.heap.size + 1 = g9 := by omega
  have ng9 : ¬ g2 = g9 := by omega
  have zV : ((w10.setCell ⟨g9, 6, none⟩ (.int .u8 0)).setCell ⟨g9, 7, none⟩ (.int .u8 0)).heap.size = w10.heap.size := by simp [World.setCell]
  have KGv : bk ((w10.setCell ⟨g9, 6, none⟩ (.int .u8 0)).setCell ⟨g9, 7, none⟩ (.int .u8 0)) g9 = some (.cells ((cur9.setIfInBounds 6 (B 0)).setIfInBounds 7 (B 0)) 5 (0, 0)) := by rw [bk_setCell_same, bk_setCell_same, KG9.out]; rfl
  have KDv : bk ((w10.setCell ⟨g9, 6, none⟩ (.int .u8 0)).setCell ⟨g9, 7, none⟩ (.int .u8 0)) (w.heap.size + 1) = some (.cells (dgc f t (some ⟨g2, 0, none⟩) L1.length c2) 29 (0, 0)) := by rw [bk_setCell_other _ _ _ _ _ nd9, bk_setCell_other _ _ _ _ _ nd9]; exact KD8.out
  have Fv : Below w.heap.size w ((w10.setCell ⟨g9, 6, none⟩ (.int .u8 0)).setCell ⟨g9, 7, none⟩ (.int .u8 0)) := (F8.out.setCell (p := ⟨g9, 6, none⟩) (show w.heap.size ≤ g9 by omega) _).setCell (p := ⟨g9, 7, none⟩) (show w.heap.size ≤ g9 by omega) _
  have Rv : Rd ((w10.setCell ⟨g9, 6, none⟩ (.int .u8 0)).setCell ⟨g9, 7, none⟩ (.int .u8 0)) ((w10.setCell ⟨g9, 6, none⟩ (.int .u8 0)).setCell ⟨g9, 7, none⟩ (.int .u8 0)).heap.size (some ⟨g2, 0, none⟩) L3 := R8.out.turn (fun b o e j => by cases e; exact cell_of_bk (by rw [bk_setCell_other _ _ _ _ _ ng9, bk_setCell_other _ _ _ _ _ ng9]) _) (by rw [zV]; exact Nat.le_refl _)
  have Gv : Rd ((w10.setCell ⟨g9, 6, none⟩ (.int .u8 0)).setCell ⟨g9, 7, none⟩ (.int .u8 0)) ((w10.setCell ⟨g9, 6, none⟩ (.int .u8 0)).setCell ⟨g9, 7, none⟩ (.int .u8 0)).heap.size A10 L3 := by
    intro h0
    obtain ⟨b, o, e, hlt, hj⟩ := G10.out.rd h0
    have hlo : w9.heap.size ≤ b := G10.out.lo b o ⟨o, e, by omega, by omega⟩
    refine ⟨b, o, e, by rw [zV]; exact hlt, fun j hj' => ?_⟩
    rw [cell_of_bk (show bk ((w10.setCell ⟨g9, 6, none⟩ (.int .u8 0)).setCell ⟨g9, 7, none⟩ (.int .u8 0)) b = bk w10 b by rw [bk_setCell_other _ _ _ _ _ (by omega), bk_setCell_other _ _ _ _ _ (by omega)])]
    exact hj j hj'
  have av := (Below.refl ((w10.setCell ⟨g9, 6, none⟩ (.int .u8 0)).setCell ⟨g9, 7, none⟩ (.int .u8 0)).heap.size ((w10.setCell ⟨g9, 6, none⟩ (.int .u8 0)).setCell ⟨g9, 7, none⟩ (.int .u8 0))).alloc (Nat.le_refl _) (.cells (dgc f t A10 L3.length L3.length) 29 (0, 0))
  have KOz := Lib.hid (bk_alloc_at ((w10.setCell ⟨g9, 6, none⟩ (.int .u8 0)).setCell ⟨g9, 7, none⟩ (.int .u8 0)) (.cells (dgc f t A10 L3.length L3.length) 29 (0, 0)) w10.heap.size zV.symm)
  have KGz := Lib.hid (bk_keep av (bk_lt KGv) KGv); have KDz := Lib.hid (bk_keep av (bk_lt KDv) KDv)
  have Fz := Lib.hid (Fv.trans (av.mono Fv.size))
  have Rz := Lib.hid ((Rv.below av (Nat.le_refl _)).mono av.size); have Gz := Lib.hid ((Gv.below av (Nat.le_refl _)).mono av.size)
  have HTKz := Lib.hid (take_put (i := 7) (take_put (i := 6) HTK9.out 0) 0)
  clear vKE8 wKE8
  clear KO a11 v6 v7 f6 f7 KE8 KD8 KG9 F8 R8 G10 KGv KDv Fv Rv Gv av zV
  generalize (((w10.setCell ⟨g9, 6, none⟩ (.int .u8 0)).setCell ⟨g9, 7, none⟩ (.int .u8 0)).alloc (.cells (dgc f t A10 L3.length L3.length) 29)) = w12 at *
  have RX : Rd w12 w12.heap.size (some ⟨g9, 0, none⟩) ((X.set 6 0).set 7 0) := Rd.of_take KGz.out HTKz.out (bk_lt KGz.out)
  have C := dget_any src dst (some ⟨g9, 0, none⟩) ((X.set 6 0).set 7 0) c9 w12 h1 h2 RX (fun h => by cases h) (by simpa using hcu9) (by simpa using hXm)
  rw [show ((X.set 6 0).set 7 0).length = X.length by simp, ] at C
  refine C.mono ?_
  clear C
  rintro e w13 ⟨A13, rfl, _, b13⟩
  rw [HE6.out]
  have RL := Lib.hid ((Rz.out.below b13 (Nat.le_refl _)).mono b13.size); have RM := Lib.hid ((Gz.out.below b13 (Nat.le_refl _)).mono b13.size)
  replace Fz := Lib.hid (Fz.out.trans (b13.mono Fz.out.size))
  replace KOz := Lib.hid (bk_keep b13 (bk_lt KOz.out) KOz.out); replace KDz := Lib.hid (bk_keep b13 (bk_lt KDz.out) KDz.out)
  clear b13 Rz Gz RX
  generalize gF src dst ((X.set 6 0).set 7 0) = pf
  generalize gT src dst ((X.set 6 0).set 7 0) = pt
  generalize gD src dst ((X.set 6 0).set 7 0) = pd
  have vKOz := KOz.out; have wKOz := bk_lt vKOz
  have vKDz := KDz.out; have wKDz := bk_lt vKDz
  go_wp2_with fail
  have a14 := (Below.refl w13.heap.size w13).alloc (Nat.le_refl _) (.cells (dgc pf pt A13 pd.length pd.length) 29 (0, 0))
  have CS : Calls Try.prog 18 #[.agg (dgc f t A10 L3.length L3.length), .agg (dgc f t (some ⟨g2, 0, none⟩) L1.length c2)] (w13.alloc (.cells (dgc pf pt A13 pd.length pd.length) 29)) fun e w' => e = .returned (.bool true) ∧ Below (w13.alloc (.cells (dgc pf pt A13 pd.length pd.length) 29)).heap.size (w13.alloc (.cells (dgc pf pt A13 pd.length pd.length) 29)) w' := by
    have h := sameDatagram_any f t f t A10 (some ⟨g2, 0, none⟩) L3 L3 L3.length c2 (w13.alloc (.cells (dgc pf pt A13 pd.length pd.length) 29)) ((RM.out.below a14 (Nat.le_refl _)).mono a14.size) ((RL.out.below a14 (Nat.le_refl _)).mono a14.size) (by rw [HL3l.out, HL1l.out]; omega) (by rw [HL3l.out, HL1l.out]; omega)
    simp only [beq_self_eq_true, decide_true, Bool.and_true] at h
    rw [HL3l.out] at h ⊢
    exact h
  refine CS.mono ?_
  clear CS
  rintro e w15 ⟨rfl, b15⟩
  replace Fz := Lib.hid (Fz.out.trans ((a14.trans (b15.mono a14.size)).mono Fz.out.size))
  clear a14 b15
  clear vKOz wKOz
  clear vKDz wKDz
  go_wp2_with fail
  refine (lives16_any _).mono ?_
  rintro e w16 ⟨rfl, b16⟩
  replace Fz := Lib.hid (Fz.out.trans (b16.mono Fz.out.size))
  clear b16
  go_wp2_with fail
  go_ret
  exact ⟨rfl, Fz.out⟩
end Go.Proofs.Yteeiihfbnkgcaaa

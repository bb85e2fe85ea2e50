/- Headers: the document's walk: a part. -/
import Derived.Test.YtbfiakikhkiefaaMgH
namespace Go.Proofs.Ytbfiakikhkiefaa
open Go.RowKit
set_option maxRecDepth 100000
set_option maxHeartbeats 4000000
theorem walk9_part (mc : Bool) (N : Nat) (IH0 : WalkOK mc N) (nx : UInt8) (A : Option Addr) (b : List UInt8) (c p told : Nat) (fs al : Bool) (w : World) (h44 : nx = 44) (h0 : ¬ nx = 0) (h60 : ¬ nx = 60) (h43 : ¬ nx = 43) (hN : b.length < N + 1) (hr : Rd w w.heap.size A b) (hA : A = none → b = [] ∧ c = 0) (hc : b.length ≤ c) (h30 : b.length < 2 ^ 30) (hp : p + b.length < 2 ^ 40) (_ : told < 2 ^ 40) :
    Calls Try.prog 36 #[B nx, .slice A b.length c, .int .u64 (p : Int), .int .u64 (told : Int), .bool fs, .bool mc, .bool al] w fun e w' => ∃ A' c', e = .returned (toV (chain mc nx b p told fs al) A' c') ∧
      Gots (chain mc nx b p told fs al).rest w.heap.size A' w' ∧ Below w.heap.size w w' := by
  have IH := Lib.hid IH0
  unfold WalkOK at IH
  clear IH0
  obtain ⟨R, hR⟩ : ∃ R, R = chain mc nx b p told fs al := ⟨_, rfl⟩
  rw [← hR]
  have HE := Lib.hid (hR.trans (chain_eq ..))
  have HRD := Lib.hid hr; have HA := Lib.hid hA
  clear hR hr hA
  go_enter Try.func36, Try.ntmps36
  go_upto_region 1 with fail
  have R0 : Hid (Rw w (w.alloc (.cells (tdC (tlA false) nilV) 51 (0, 0)))) := Lib.hid ⟨(by (repeat (first | exact Below.refl _ _ | assumption | refine Below.drew ?_ | refine bdrewN ?_ _ | refine Below.alloc ?_ (by first | omega | (simp <;> omega) | (simp only [World.size_alloc] <;> omega)) _ | refine below_setRow ?_ (by first | omega | (simp <;> omega)) _ | refine Below.setCell ?_ (by first | omega | (simp <;> omega)) _))), bk_alloc_at _ _ _ rfl⟩
  change Code.wp _ _ _ _ (w.alloc (.cells (tdC (tlA false) nilV) 51 (0, 0)))
  generalize w.alloc (.cells (tdC (tlA false) nilV) 51 (0, 0)) = w1 at *
  have q1 := R0.out.k
  have l1 := R0.out.lt
  have k0 : ¬ (nx.toNat : Int) = 0 := fun e => h0 (UInt8.toNat_inj.1 (by show nx.toNat = 0; omega))
  have k60 : ¬ (nx.toNat : Int) = 60 := fun e => h60 (UInt8.toNat_inj.1 (by show nx.toNat = 60; omega))
  replace HE := Lib.hid (HE.out.trans (if_neg (by rintro (e | e) <;> contradiction)))
  have k43 : ¬ (nx.toNat : Int) = 43 := fun e => h43 (UInt8.toNat_inj.1 (by show nx.toNat = 43; omega))
  replace HE := Lib.hid (HE.out.trans (if_neg h43))
  have k44 : (nx.toNat : Int) = 44 := by rw [h44]; rfl
  replace HE := Lib.hid (HE.out.trans (if_pos h44))
  clear h0 h60 h43 h44
  by_cases h8 : b.length < 8
  · have d1 : decide ((b.length : Int) < 8) = true := by simp; omega
    have d2 : decide (b.length < 8) = true := by simp; omega
    replace HE := Lib.hid (HE.out.trans (if_pos h8))
    go_wp2_with fail
    refine ret_cell (cs := tdC (tlE 5) nilV) rfl rfl rfl ?_ Try.underlying51 rfl (by kernel_rfl) ?_
    rotate_left
    · exact ⟨none, 0, by rw [HE.out]; rfl, by rw [HE.out]; exact Gots.nil, (R0).out.ret (tlE 5) nilV |>.1⟩
    · exact ((R0).out.ret (tlE 5) nilV).2
  · have d1 : decide ((b.length : Int) < 8) = false := by simp; omega
    have d2 : decide (b.length < 8) = false := by simp; omega
    replace HE := Lib.hid (HE.out.trans (if_neg h8))
    have hzl : 8 ≤ b.length := by omega
    have HR3 : Hid (Rd w1 (w1).heap.size A b) := Lib.hid ((HRD.out.below (R0).out.f (Nat.le_refl _)).mono (R0).out.f.size)
    obtain ⟨bb, o, rfl, hblt, hcl⟩ := HR3.out (by omega)
    have u0 := hcl 0 (by omega)
    obtain ⟨y, hy⟩ : ∃ y, y = at8 b 0 := ⟨_, rfl⟩
    rw [show b[0]'(by omega) = y by rw [hy]; unfold at8; rw [List.getD_eq_getElem?_getD, List.getElem?_eq_getElem]; rfl] at u0
    simp only [Nat.add_zero] at u0
    have h0i : (0 : Int) < (b.length : Int) := by omega
    have h0n : 0 < b.length := by omega
    have hbl : (b.drop 8).length = b.length - 8 := by rw [List.length_drop]
    have hzI : (8 : Int) ≤ (b.length : Int) := by omega
    have hzc : (8 : Int) ≤ (c : Int) := by omega
    have hzc' : 8 ≤ c := by omega
    have dz : decide (8 ≤ b.length) = true := by simpa using hzl
    obtain ⟨q, hq⟩ : ∃ q, q = p + 8 := ⟨_, rfl⟩
    have HQ := Lib.hid hq
    have e0 : IntKind.u64.wrap (8 : Int) = (8 : Int) := by rw [IntKind.wrap_u64]; omega
    have e1 : IntKind.u64.wrap ((p : Int) + (8 : Int)) = (q : Int) := by rw [IntKind.wrap_u64]; omega
    have u2 := hcl 2 (by omega); have u3 := hcl 3 (by omega); have u4 := hcl 4 (by omega); have u5 := hcl 5 (by omega); have u6 := hcl 6 (by omega); have u7 := hcl 7 (by omega)
    have e8 : ∀ j (h : j < b.length), b[j] = at8 b j := fun j h => by unfold at8; rw [List.getD_eq_getElem?_getD, List.getElem?_eq_getElem h]; rfl
    rw [e8] at u2 u3 u4 u5 u6 u7
    have n2 : (2 : Int) < (b.length : Int) := by omega
    have n3 : (3 : Int) < (b.length : Int) := by omega
    have n4 : (4 : Int) < (b.length : Int) := by omega
    have n5 : (5 : Int) < (b.length : Int) := by omega
    have n6 : (6 : Int) < (b.length : Int) := by omega
    have n7 : (7 : Int) < (b.length : Int) := by omega
    have hW : wd b = 256 * (at8 b 2).toNat + (at8 b 3).toNat := rfl
    have hP : pid b = 16777216 * (at8 b 4).toNat + 65536 * (at8 b 5).toNat + 256 * (at8 b 6).toNat + (at8 b 7).toNat := rfl
    obtain ⟨W, hW0⟩ : ∃ x, x = wd b := ⟨_, rfl⟩
    obtain ⟨I, hI0⟩ : ∃ x, x = pid b := ⟨_, rfl⟩
    rw [← hW0] at hW
    rw [← hI0] at hP
    have hEE := HE.out
    rw [← hW0, ← hI0, ← hy, ← hq] at hEE
    obtain ⟨x2, hx2⟩ : ∃ x, x = at8 b 2 := ⟨_, rfl⟩
    obtain ⟨x3, hx3⟩ : ∃ x, x = at8 b 3 := ⟨_, rfl⟩
    obtain ⟨x4, hx4⟩ : ∃ x, x = at8 b 4 := ⟨_, rfl⟩
    obtain ⟨x5, hx5⟩ : ∃ x, x = at8 b 5 := ⟨_, rfl⟩
    obtain ⟨x6, hx6⟩ : ∃ x, x = at8 b 6 := ⟨_, rfl⟩
    obtain ⟨x7, hx7⟩ : ∃ x, x = at8 b 7 := ⟨_, rfl⟩
    rw [← hx2] at u2 hW
    rw [← hx3] at u3 hW
    rw [← hx4] at u4 hP
    rw [← hx5] at u5 hP
    rw [← hx6] at u6 hP
    rw [← hx7] at u7 hP
    have b2 := x2.toNat_lt; have b3 := x3.toNat_lt; have b4 := x4.toNat_lt; have b5 := x5.toNat_lt; have b6 := x6.toNat_lt; have b7 := x7.toNat_lt
    obtain ⟨fo, hfo⟩ : ∃ x, x = W / 8 := ⟨_, rfl⟩
    obtain ⟨r2, hr2⟩ : ∃ x, x = W % 2 := ⟨_, rfl⟩
    rw [← hfo, ← hr2] at hEE
    replace HE := Lib.hid hEE
    clear hEE
    have f1 : IntKind.u16.wrap (x2.toNat : Int) = (x2.toNat : Int) := by rw [IntKind.wrap_u16]; omega
    have f2 : IntKind.u16.wrap (x3.toNat : Int) = (x3.toNat : Int) := by rw [IntKind.wrap_u16]; omega
    have f3 : IntKind.u16.wrap (256 * (x2.toNat : Int)) = 256 * (x2.toNat : Int) := by rw [IntKind.wrap_u16]; omega
    have f4 : IntKind.u16.wrap (256 * (x2.toNat : Int) + (x3.toNat : Int)) = (W : Int) := by rw [IntKind.wrap_u16]; omega
    have g1 : (W : Int) / 8 = (fo : Int) := by omega
    have g1' : (W : Int).tdiv 8 = (fo : Int) := by rw [Int.tdiv_eq_ediv_of_nonneg (by omega)]; exact g1
    have g2 : (W : Int) % 2 = (r2 : Int) := by omega
    have g2' : (W : Int).tmod 2 = (r2 : Int) := by rw [Int.tmod_eq_emod_of_nonneg (by omega)]; exact g2
    have g3 : IntKind.u16.wrap (fo : Int) = (fo : Int) := by rw [IntKind.wrap_u16]; omega
    have g4 : IntKind.u16.wrap (r2 : Int) = (r2 : Int) := by rw [IntKind.wrap_u16]; omega
    have s4 : IntKind.u32.wrap (x4.toNat : Int) = (x4.toNat : Int) := by rw [IntKind.wrap_u32]; omega
    have s5 : IntKind.u32.wrap (x5.toNat : Int) = (x5.toNat : Int) := by rw [IntKind.wrap_u32]; omega
    have s6 : IntKind.u32.wrap (x6.toNat : Int) = (x6.toNat : Int) := by rw [IntKind.wrap_u32]; omega
    have s7 : IntKind.u32.wrap (x7.toNat : Int) = (x7.toNat : Int) := by rw [IntKind.wrap_u32]; omega
    obtain ⟨y4, hy4⟩ : ∃ y, y = 16777216 * x4.toNat := ⟨_, rfl⟩
    obtain ⟨y5, hy5⟩ : ∃ y, y = 65536 * x5.toNat := ⟨_, rfl⟩
    obtain ⟨y6, hy6⟩ : ∃ y, y = 256 * x6.toNat := ⟨_, rfl⟩
    have t4 : IntKind.u32.wrap ((x4.toNat : Int) * 16777216) = (y4 : Int) := by rw [IntKind.wrap_u32]; omega
    have t4' : IntKind.u32.wrap ((x4.toNat : Int) * 2 ^ 24) = (y4 : Int) := by rw [IntKind.wrap_u32]; omega
    have t5 : IntKind.u32.wrap ((x5.toNat : Int) * 65536) = (y5 : Int) := by rw [IntKind.wrap_u32]; omega
    have t5' : IntKind.u32.wrap ((x5.toNat : Int) * 2 ^ 16) = (y5 : Int) := by rw [IntKind.wrap_u32]; omega
    have t6 : IntKind.u32.wrap ((x6.toNat : Int) * 256) = (y6 : Int) := by rw [IntKind.wrap_u32]; omega
    have t6' : IntKind.u32.wrap ((x6.toNat : Int) * 2 ^ 8) = (y6 : Int) := by rw [IntKind.wrap_u32]; omega
    have v1 : IntKind.u32.wrap ((y4 : Int) + (y5 : Int)) = (y4 : Int) + (y5 : Int) := by rw [IntKind.wrap_u32]; omega
    have v2 : IntKind.u32.wrap ((y4 : Int) + (y5 : Int) + (y6 : Int)) = (y4 : Int) + (y5 : Int) + (y6 : Int) := by rw [IntKind.wrap_u32]; omega
    have v3 : IntKind.u32.wrap ((y4 : Int) + (y5 : Int) + (y6 : Int) + (x7.toNat : Int)) = (I : Int) := by rw [IntKind.wrap_u32]; omega
    have hr2b : r2 < 2 := by omega
    have hfo16 : fo < 65536 := by omega
    have hI32 : I < 4294967296 := by omega
    clear hq hcl e8 hW hP hW0 hI0 hx2 hx3 hx4 hx5 hx6 hx7 hfo hr2 hy4 hy5 hy6 hy
    obtain ⟨fm, hfm⟩ : ∃ x, x = (r2 == 1) := ⟨_, rfl⟩
    have w1e : ((r2 : Int) == 1) = fm := by rw [hfm, Bool.eq_iff_iff]; simp; omega
    have w1d : decide ((r2 : Int) = 1) = fm := by rw [hfm, Bool.eq_iff_iff]; simp; omega
    rw [← hfm] at HE
    have HFM := Lib.hid hfm
    clear hfm
    go_upto_region 24 with fail
    obtain ⟨wa, hwa⟩ : ∃ x, x = w1 := ⟨_, rfl⟩
    refine wp_region_later (w1.heap.size) (by kernel_rfl) (by kernel_rfl) ?_
    repeat (go_big_quiet_step ((fail)))
    (first | refine wpQuiet_nil ?_ | (go_big_quiet_want; (try go_big_quiet_op); trace_state; fail))
    intro w2 hw'
    have q2 := later_elim hw'
    clear hw'
    have R1 := Lib.hid (R0.out.next q2)
    have hb2 := Nat.lt_of_lt_of_le hblt q2.size
    rw [← q2.cell (p := ⟨bb, o, none⟩) hblt] at u0
    rw [← q2.cell (p := ⟨bb, o + 4, none⟩) hblt] at u4
    rw [← q2.cell (p := ⟨bb, o + 5, none⟩) hblt] at u5
    rw [← q2.cell (p := ⟨bb, o + 6, none⟩) hblt] at u6
    rw [← q2.cell (p := ⟨bb, o + 7, none⟩) hblt] at u7
    clear q2 u2 u3 R0 q1 l1 hblt hwa HR3
    have R0 := R1
    have hblt := hb2
    clear R1 hb2
    have l1 := R0.out.lt
    go_upto_region 26 with fail
    have R3 : Hid (Rw w (w2.alloc (.cells (fragC true 0 fo fm) 27 (0, 0)))) := Lib.hid (R0.out.next (by (repeat (first | exact Below.refl _ _ | assumption | refine Below.drew ?_ | refine bdrewN ?_ _ | refine Below.alloc ?_ (by first | omega | (simp <;> omega) | (simp only [World.size_alloc] <;> omega)) _ | refine below_setRow ?_ (by first | omega | (simp <;> omega)) _ | refine Below.setCell ?_ (by first | omega | (simp <;> omega)) _))))
    have K3 : Hid (bk (w2.alloc (.cells (fragC true 0 fo fm) 27 (0, 0))) w2.heap.size = some (.cells (fragC true 0 fo fm) 27 (0, 0))) := Lib.hid (bk_alloc_at _ _ _ rfl)
    have hbx : bb < w2.heap.size := hblt
    have U3 : ∀ j, ((w2.alloc (.cells (fragC true 0 fo fm) 27 (0, 0)))).cell? ⟨bb, j, none⟩ = w2.cell? ⟨bb, j, none⟩ := fun j => cell_of_bk (bk_alloc_past _ _ _ hbx) j
    rw [← U3] at u0 u4 u5 u6 u7
    clear U3
    have HR4 : Hid (Rd (w2.alloc (.cells (fragC true 0 fo fm) 27 (0, 0))) (w2.alloc (.cells (fragC true 0 fo fm) 27 (0, 0))).heap.size (some ⟨bb, o, none⟩) b) := Lib.hid ((HRD.out.below R3.out.f (Nat.le_refl _)).mono R3.out.f.size)
    have hfx0 := R0.out.lt
    obtain ⟨fx, hfx⟩ : ∃ x, x = w2.heap.size := ⟨_, rfl⟩
    change Code.wp _ _ _ _ (w2.alloc (.cells (fragC true 0 fo fm) 27 (0, 0)))
    rw [← hfx] at K3 hfx0 hbx ⊢
    generalize w2.alloc (.cells (fragC true 0 fo fm) 27 (0, 0)) = w3 at *
    clear R0 hfx l1 hblt
    have hfx3 := bk_lt K3.out
    have hbx3 : bb < w3.heap.size := by omega
    refine wp_region_later_tail (w3.heap.size) 23 (by kernel_rfl) (by kernel_rfl) ?_
    simp only [List.take_succ_cons, List.take_zero, List.drop_succ_cons, List.drop_zero]
    repeat (go_big_quiet_step ((fail)))
    (first | refine wpQuiet_nil ?_ | (go_big_quiet_want; (try go_big_quiet_op); trace_state; fail))
    intro w4 hw'
    have q4 := later_elim hw'
    clear hw'
    have R4 := Lib.hid (R3.out.next q4)
    have K4 := Lib.hid (bk_keep q4 hfx3 K3.out)
    have H4 := Lib.hid ((HR4.out.below q4 (Nat.le_refl _)).mono q4.size)
    have y0 := (q4.cell (p := ⟨bb, o, none⟩) hbx3).trans u0
    have z1 := bk_frozen K4.out 1
    have cf1 := bk_cell K4.out 1
    simp [fragC] at cf1
    have s44 := q4.size
    clear u0 u4 u5 u6 u7 q4 K3 R3 HR4
    go_upto_region 27 with fail
    have R5 : Hid (Rw w (w4.setCell ⟨fx, 1, none⟩ (.int .u32 (I : Int)))) := Lib.hid ⟨R4.out.f.setCell (p := ⟨fx, 1, none⟩) (show w.heap.size ≤ fx by omega) _, (bk_setCell_other _ _ _ _ _ (by omega)).trans R4.out.k⟩
    have K5 : Hid (bk (w4.setCell ⟨fx, 1, none⟩ (.int .u32 (I : Int))) fx = some (.cells (fragC true I fo fm) 27 (0, 0))) := Lib.hid (by rw [bk_setCell_same, K4.out]; rfl)
    have HR3 : Hid (Rd (w4.setCell ⟨fx, 1, none⟩ (.int .u32 (I : Int))) (w4.setCell ⟨fx, 1, none⟩ (.int .u32 (I : Int))).heap.size (some ⟨bb, o, none⟩) b) := Lib.hid ((HRD.out.below R5.out.f (Nat.le_refl _)).mono R5.out.f.size)
    have u0 : (w4.setCell ⟨fx, 1, none⟩ (.int .u32 (I : Int))).cell? ⟨bb, o, none⟩ = some (B y) := (cell_of_bk (bk_setCell_other _ _ _ _ _ (by omega)) o).trans y0
    clear y0 z1 cf1 R4 K4 H4
    generalize w4.setCell ⟨fx, 1, none⟩ (.int .u32 (I : Int)) = w5 at *
    have cf2 := bk_cell K5.out 2; have cf3 := bk_cell K5.out 3
    simp [fragC] at cf2 cf3
    have hoxlt := bk_lt K5.out
    have hblt : bb < w5.heap.size := by omega
    cases fm with
    | true =>
      replace HE := Lib.hid (HE.out.trans (if_neg (by have := HFM.out; simp at this; omega)))
      by_cases hf0 : fo = 0
      · subst hf0
        simp only [Int.natCast_zero] at cf2
        by_cases hcs : c - 8 = 0
        · have hcz : True := trivial
          have HRD2 : Hid (Rd w5 w5.heap.size (some ⟨bb, o, none⟩) (b.drop 8)) := Lib.hid (by first | exact HR3.out.drop hzl | (rw [List.drop_of_length_le (by omega)]; exact Rd.nil))
          go_upto_region 29 with fail
          obtain ⟨m, hm⟩ : ∃ m, m = w5.heap.size := ⟨_, rfl⟩
          have HM0 : Hid (w.heap.size < m) := Lib.hid (by rw [hm]; exact R5.out.lt)
          obtain ⟨M, hM⟩ : ∃ M : Made m, M = Made.gt m (b.drop 8) := ⟨_, rfl⟩
          have HM := Lib.hid hM
          have hK := K5.out
          clear hM
          rw [← hm] at hblt hoxlt
          refine wp_region_made_tail m 9 (fun j => ([(5, M)] : List (Nat × Made m)).lookup j) (Nat.le_of_eq hm) (by kernel_rfl) (by kernel_rfl) ?_
          simp only [List.take_succ_cons, List.take_zero, List.drop_succ_cons, List.drop_zero]
          refine walk_segn 5 ([]) facts0 (by kernel_rfl) (by kernel_rfl) ?_
          simp only [List.take_succ_cons, List.take_zero, List.drop_succ_cons, List.drop_zero, Nat.reduceAdd]
          repeat (go_big_quiet_step (fail))
          (first | refine wpQuiet_nil ?_ | (go_big_quiet_want; (try go_big_quiet_op); trace_state; fail))
          refine walk_mkop M [] facts0 (by kernel_rfl) (by kernel_rfl) (by kernel_rfl) (fun w' hb' hg' => ?_) (fun v hT hAt => ?_)
          · have hbw : Below w5.heap.size w5 w' := by rw [← hm]; exact hb'
            exact append_gt rfl HM rfl (A := some ⟨bb, o, none⟩) (n := b.length - 8) (c := 0) rfl hbl.symm (fun h => by cases h) ((HRD2.out.below hbw (Nat.le_refl _)).mono hbw.size) (by omega) (by rw [hm]; exact hbw.size)
          obtain ⟨A9, c9, rfl, _⟩ := gt_T HM hT
          clear hT hAt
          simp only [Act.put, List.setIfInBounds_toArray, List.set_cons_succ, List.set_cons_zero, Nat.reduceAdd]
          refine walk_segn 3 ([]) facts0 (by kernel_rfl) (by kernel_rfl) ?_
          simp only [List.take_succ_cons, List.take_zero, List.drop_succ_cons, List.drop_zero, Nat.reduceAdd]
          repeat (go_big_quiet_step (fail))
          (first | refine wpQuiet_nil ?_ | (go_big_quiet_want; (try go_big_quiet_op); trace_state; fail))
          refine walk_nil ?_
          intro w9 hb9 hf
          have G9 := Lib.hid (gt_R HM ((hf 5).1 rfl))
          rw [hm] at hb9
          have R9 := Lib.hid (R5.out.next hb9)
          have q9 := R9.out.k
          have l9 := R9.out.lt
          have hRe := HE.out
          subst hRe
          clear hb9 hf HE cf2 cf3 hK
          go_wp2_with fail
          refine ret_cell (cs := tdC ⟨y, b.drop 8, al, true, I, 0, true, 0, 0, 0⟩ (.slice A9 (b.drop 8).length c9)) rfl rfl rfl ?_ Try.underlying51 rfl (by kernel_rfl) ?_
          rotate_left
          · first | exact ⟨A9, c9, rfl, R9.out.gots _ (by have := HM0.out; omega) G9.out, (R9.out.ret ⟨y, [], al, true, I, 0, true, 0, 0, 0⟩ _).1⟩ | exact ⟨A9, ⟨c9, rfl⟩, R9.out.gots _ (by have := HM0.out; omega) G9.out, (R9.out.ret ⟨y, [], al, true, I, 0, true, 0, 0, 0⟩ _).1⟩
          · rw [← hbl]; exact (R9.out.ret ⟨y, [], al, true, I, 0, true, 0, 0, 0⟩ _).2
        · have hcz : True := trivial
          have HRD2 : Hid (Rd w5 w5.heap.size (some ⟨bb, o + 8, none⟩) (b.drop 8)) := Lib.hid (by first | exact HR3.out.drop hzl | (rw [List.drop_of_length_le (by omega)]; exact Rd.nil))
          go_upto_region 29 with fail
          obtain ⟨m, hm⟩ : ∃ m, m = w5.heap.size := ⟨_, rfl⟩
          have HM0 : Hid (w.heap.size < m) := Lib.hid (by rw [hm]; exact R5.out.lt)
          obtain ⟨M, hM⟩ : ∃ M : Made m, M = Made.gt m (b.drop 8) := ⟨_, rfl⟩
          have HM := Lib.hid hM
          have hK := K5.out
          clear hM
          rw [← hm] at hblt hoxlt
          refine wp_region_made_tail m 9 (fun j => ([(5, M)] : List (Nat × Made m)).lookup j) (Nat.le_of_eq hm) (by kernel_rfl) (by kernel_rfl) ?_
          simp only [List.take_succ_cons, List.take_zero, List.drop_succ_cons, List.drop_zero]
          refine walk_segn 5 ([]) facts0 (by kernel_rfl) (by kernel_rfl) ?_
          simp only [List.take_succ_cons, List.take_zero, List.drop_succ_cons, List.drop_zero, Nat.reduceAdd]
          repeat (go_big_quiet_step (fail))
          (first | refine wpQuiet_nil ?_ | (go_big_quiet_want; (try go_big_quiet_op); trace_state; fail))
          refine walk_mkop M [] facts0 (by kernel_rfl) (by kernel_rfl) (by kernel_rfl) (fun w' hb' hg' => ?_) (fun v hT hAt => ?_)
          · have hbw : Below w5.heap.size w5 w' := by rw [← hm]; exact hb'
            exact append_gt rfl HM rfl (A := some ⟨bb, o + 8, none⟩) (n := b.length - 8) (c := c - 8) rfl hbl.symm (fun h => by cases h) ((HRD2.out.below hbw (Nat.le_refl _)).mono hbw.size) (by omega) (by rw [hm]; exact hbw.size)
          obtain ⟨A9, c9, rfl, _⟩ := gt_T HM hT
          clear hT hAt
          simp only [Act.put, List.setIfInBounds_toArray, List.set_cons_succ, List.set_cons_zero, Nat.reduceAdd]
          refine walk_segn 3 ([]) facts0 (by kernel_rfl) (by kernel_rfl) ?_
          simp only [List.take_succ_cons, List.take_zero, List.drop_succ_cons, List.drop_zero, Nat.reduceAdd]
          repeat (go_big_quiet_step (fail))
          (first | refine wpQuiet_nil ?_ | (go_big_quiet_want; (try go_big_quiet_op); trace_state; fail))
          refine walk_nil ?_
          intro w9 hb9 hf
          have G9 := Lib.hid (gt_R HM ((hf 5).1 rfl))
          rw [hm] at hb9
          have R9 := Lib.hid (R5.out.next hb9)
          have q9 := R9.out.k
          have l9 := R9.out.lt
          have hRe := HE.out
          subst hRe
          clear hb9 hf HE cf2 cf3 hK
          go_wp2_with fail
          refine ret_cell (cs := tdC ⟨y, b.drop 8, al, true, I, 0, true, 0, 0, 0⟩ (.slice A9 (b.drop 8).length c9)) rfl rfl rfl ?_ Try.underlying51 rfl (by kernel_rfl) ?_
          rotate_left
          · first | exact ⟨A9, c9, rfl, R9.out.gots _ (by have := HM0.out; omega) G9.out, (R9.out.ret ⟨y, [], al, true, I, 0, true, 0, 0, 0⟩ _).1⟩ | exact ⟨A9, ⟨c9, rfl⟩, R9.out.gots _ (by have := HM0.out; omega) G9.out, (R9.out.ret ⟨y, [], al, true, I, 0, true, 0, 0, 0⟩ _).1⟩
          · rw [← hbl]; exact (R9.out.ret ⟨y, [], al, true, I, 0, true, 0, 0, 0⟩ _).2
      · have hf0' : ¬ (fo : Int) = 0 := by omega
        by_cases hcs : c - 8 = 0
        · have hcz : True := trivial
          have HRD2 : Hid (Rd w5 w5.heap.size (some ⟨bb, o, none⟩) (b.drop 8)) := Lib.hid (by first | exact HR3.out.drop hzl | (rw [List.drop_of_length_le (by omega)]; exact Rd.nil))
          go_upto_region 29 with fail
          obtain ⟨m, hm⟩ : ∃ m, m = w5.heap.size := ⟨_, rfl⟩
          have HM0 : Hid (w.heap.size < m) := Lib.hid (by rw [hm]; exact R5.out.lt)
          obtain ⟨M, hM⟩ : ∃ M : Made m, M = Made.gt m (b.drop 8) := ⟨_, rfl⟩
          have HM := Lib.hid hM
          have hK := K5.out
          clear hM
          rw [← hm] at hblt hoxlt
          refine wp_region_made_tail m 9 (fun j => ([(5, M)] : List (Nat × Made m)).lookup j) (Nat.le_of_eq hm) (by kernel_rfl) (by kernel_rfl) ?_
          simp only [List.take_succ_cons, List.take_zero, List.drop_succ_cons, List.drop_zero]
          refine walk_segn 5 ([]) facts0 (by kernel_rfl) (by kernel_rfl) ?_
          simp only [List.take_succ_cons, List.take_zero, List.drop_succ_cons, List.drop_zero, Nat.reduceAdd]
          repeat (go_big_quiet_step (fail))
          (first | refine wpQuiet_nil ?_ | (go_big_quiet_want; (try go_big_quiet_op); trace_state; fail))
          refine walk_mkop M [] facts0 (by kernel_rfl) (by kernel_rfl) (by kernel_rfl) (fun w' hb' hg' => ?_) (fun v hT hAt => ?_)
          · have hbw : Below w5.heap.size w5 w' := by rw [← hm]; exact hb'
            exact append_gt rfl HM rfl (A := some ⟨bb, o, none⟩) (n := b.length - 8) (c := 0) rfl hbl.symm (fun h => by cases h) ((HRD2.out.below hbw (Nat.le_refl _)).mono hbw.size) (by omega) (by rw [hm]; exact hbw.size)
          obtain ⟨A9, c9, rfl, _⟩ := gt_T HM hT
          clear hT hAt
          simp only [Act.put, List.setIfInBounds_toArray, List.set_cons_succ, List.set_cons_zero, Nat.reduceAdd]
          refine walk_segn 3 ([]) facts0 (by kernel_rfl) (by kernel_rfl) ?_
          simp only [List.take_succ_cons, List.take_zero, List.drop_succ_cons, List.drop_zero, Nat.reduceAdd]
          repeat (go_big_quiet_step (fail))
          (first | refine wpQuiet_nil ?_ | (go_big_quiet_want; (try go_big_quiet_op); trace_state; fail))
          refine walk_nil ?_
          intro w9 hb9 hf
          have G9 := Lib.hid (gt_R HM ((hf 5).1 rfl))
          rw [hm] at hb9
          have R9 := Lib.hid (R5.out.next hb9)
          have q9 := R9.out.k
          have l9 := R9.out.lt
          have hRe := HE.out
          subst hRe
          clear hb9 hf HE cf2 cf3 hK
          go_wp2_with fail
          refine ret_cell (cs := tdC ⟨y, b.drop 8, al, true, I, fo, true, 0, 0, 0⟩ (.slice A9 (b.drop 8).length c9)) rfl rfl rfl ?_ Try.underlying51 rfl (by kernel_rfl) ?_
          rotate_left
          · first | exact ⟨A9, c9, rfl, R9.out.gots _ (by have := HM0.out; omega) G9.out, (R9.out.ret ⟨y, [], al, true, I, fo, true, 0, 0, 0⟩ _).1⟩ | exact ⟨A9, ⟨c9, rfl⟩, R9.out.gots _ (by have := HM0.out; omega) G9.out, (R9.out.ret ⟨y, [], al, true, I, fo, true, 0, 0, 0⟩ _).1⟩
          · rw [← hbl]; exact (R9.out.ret ⟨y, [], al, true, I, fo, true, 0, 0, 0⟩ _).2
        · have hcz : True := trivial
          have HRD2 : Hid (Rd w5 w5.heap.size (some ⟨bb, o + 8, none⟩) (b.drop 8)) := Lib.hid (by first | exact HR3.out.drop hzl | (rw [List.drop_of_length_le (by omega)]; exact Rd.nil))
          go_upto_region 29 with fail
          obtain ⟨m, hm⟩ : ∃ m, m = w5.heap.size := ⟨_, rfl⟩
          have HM0 : Hid (w.heap.size < m) := Lib.hid (by rw [hm]; exact R5.out.lt)
          obtain ⟨M, hM⟩ : ∃ M : Made m, M = Made.gt m (b.drop 8) := ⟨_, rfl⟩
          have HM := Lib.hid hM
          have hK := K5.out
          clear hM
          rw [← hm] at hblt hoxlt
          refine wp_region_made_tail m 9 (fun j => ([(5, M)] : List (Nat × Made m)).lookup j) (Nat.le_of_eq hm) (by kernel_rfl) (by kernel_rfl) ?_
          simp only [List.take_succ_cons, List.take_zero, List.drop_succ_cons, List.drop_zero]
          refine walk_segn 5 ([]) facts0 (by kernel_rfl) (by kernel_rfl) ?_
          simp only [List.take_succ_cons, List.take_zero, List.drop_succ_cons, List.drop_zero, Nat.reduceAdd]
          repeat (go_big_quiet_step (fail))
          (first | refine wpQuiet_nil ?_ | (go_big_quiet_want; (try go_big_quiet_op); trace_state; fail))
          refine walk_mkop M [] facts0 (by kernel_rfl) (by kernel_rfl) (by kernel_rfl) (fun w' hb' hg' => ?_) (fun v hT hAt => ?_)
          · have hbw : Below w5.heap.size w5 w' := by rw [← hm]; exact hb'
            exact append_gt rfl HM rfl (A := some ⟨bb, o + 8, none⟩) (n := b.length - 8) (c := c - 8) rfl hbl.symm (fun h => by cases h) ((HRD2.out.below hbw (Nat.le_refl _)).mono hbw.size) (by omega) (by rw [hm]; exact hbw.size)
          obtain ⟨A9, c9, rfl, _⟩ := gt_T HM hT
          clear hT hAt
          simp only [Act.put, List.setIfInBounds_toArray, List.set_cons_succ, List.set_cons_zero, Nat.reduceAdd]
          refine walk_segn 3 ([]) facts0 (by kernel_rfl) (by kernel_rfl) ?_
          simp only [List.take_succ_cons, List.take_zero, List.drop_succ_cons, List.drop_zero, Nat.reduceAdd]
          repeat (go_big_quiet_step (fail))
          (first | refine wpQuiet_nil ?_ | (go_big_quiet_want; (try go_big_quiet_op); trace_state; fail))
          refine walk_nil ?_
          intro w9 hb9 hf
          have G9 := Lib.hid (gt_R HM ((hf 5).1 rfl))
          rw [hm] at hb9
          have R9 := Lib.hid (R5.out.next hb9)
          have q9 := R9.out.k
          have l9 := R9.out.lt
          have hRe := HE.out
          subst hRe
          clear hb9 hf HE cf2 cf3 hK
          go_wp2_with fail
          refine ret_cell (cs := tdC ⟨y, b.drop 8, al, true, I, fo, true, 0, 0, 0⟩ (.slice A9 (b.drop 8).length c9)) rfl rfl rfl ?_ Try.underlying51 rfl (by kernel_rfl) ?_
          rotate_left
          · first | exact ⟨A9, c9, rfl, R9.out.gots _ (by have := HM0.out; omega) G9.out, (R9.out.ret ⟨y, [], al, true, I, fo, true, 0, 0, 0⟩ _).1⟩ | exact ⟨A9, ⟨c9, rfl⟩, R9.out.gots _ (by have := HM0.out; omega) G9.out, (R9.out.ret ⟨y, [], al, true, I, fo, true, 0, 0, 0⟩ _).1⟩
          · rw [← hbl]; exact (R9.out.ret ⟨y, [], al, true, I, fo, true, 0, 0, 0⟩ _).2
    | false =>
      by_cases hf0 : fo = 0
      · have hf0' : (fo : Int) = 0 := by omega
        replace HE := Lib.hid (HE.out.trans (if_pos ⟨hf0, by have := HFM.out; simp at this; omega⟩))
        clear hf0 cf2
        have cf2 : w5.cell? ⟨fx, 2, none⟩ = some (.int .u16 (fo : Int)) := (bk_cell K5.out 2)
        by_cases hcs : c - 8 = 0
        · have hcz : True := trivial
          have IHz := IH.out y (some ⟨bb, o, none⟩) (b.drop 8) (0) q p false (al)
          rw [hbl, ← HE.out] at IHz
          have HI := Lib.hid IHz
          have HRD2 : Hid (Rd w5 (w5).heap.size (some ⟨bb, o, none⟩) (b.drop 8)) := Lib.hid (by first | exact HR3.out.drop hzl | (rw [List.drop_of_length_le (by omega)]; exact Rd.nil))
          clear IHz
          go_upto_region 28 with fail
          obtain ⟨m, hm⟩ : ∃ m, m = (w5).heap.size := ⟨_, rfl⟩
          have HM0 : Hid (w.heap.size < m) := Lib.hid (by rw [hm]; exact (R5).out.lt)
          obtain ⟨M, hM⟩ : ∃ M : Made m, M = Made.td m R := ⟨_, rfl⟩
          have HM := Lib.hid hM
          clear hM
          rw [← hm] at hblt hoxlt
          refine wp_region_made_tail m (10 + 1) (fun j => (nk10 m (8 : Nat) M).lookup j) (Nat.le_of_eq hm) (by kernel_rfl) (by kernel_rfl) ?_
          simp only [List.take_succ_cons, List.take_zero, List.drop_succ_cons, List.drop_zero, Nat.reduceAdd]
          refine walk_segn 10 ([]) facts0 (by kernel_rfl) (by kernel_rfl) ?_
          simp only [List.take_succ_cons, List.take_zero, List.drop_succ_cons, List.drop_zero, Nat.reduceAdd]
          repeat (go_big_quiet_step (fail))
          (first | refine wpQuiet_nil ?_ | (go_big_quiet_want; (try go_big_quiet_op); trace_state; fail))
          refine walk_mkop M [] facts0 (by kernel_rfl) (by kernel_rfl) (by kernel_rfl) (fun w' hb' hg' => ?_) (fun v hT hAt => ?_)
          · unfold madeAt
            go_simp
            have hbw : Below (w5).heap.size w5 w' := by rw [← hm]; exact hb'
            have hq := HQ.out
            refine (HI.out w' (by omega) ((HRD2.out.below hbw (Nat.le_refl _)).mono hbw.size) (fun h => by cases h) (by omega) (by omega) (by omega) (by omega)).mono ?_
            rintro e w9 ⟨A9, c9, rfl, hg9, b9⟩
            exact td_end HM b9 (Gots.turn hg9 (by rw [hm]; exact hbw.size) (Nat.le_refl _) (fun _ _ => rfl))
          obtain ⟨A9, c9, rfl⟩ := td_T HM hT
          clear hT hAt
          simp only [Act.put, List.setIfInBounds_toArray, List.set_cons_succ, List.set_cons_zero, Nat.reduceAdd]
          refine walk_nil ?_
          intro w9 hb9 hf
          have G9 := Lib.hid (td_R HM ((hf 10).1 rfl))
          rw [hm] at hb9
          have R9 := Lib.hid ((R5).out.next hb9)
          have q9 := R9.out.k
          have l9 := R9.out.lt
          clear hb9 hf
          unfold toV
          go_wp2_with fail
          refine ret_cell (cs := tdC R (.slice A9 R.rest.length c9)) rfl rfl rfl ?_ Try.underlying51 rfl (by kernel_rfl) ?_
          rotate_left
          · first | exact ⟨A9, c9, rfl, (R9).out.gots _ (by have := HM0.out; omega) G9.out, ((R9).out.ret R _).1⟩ | exact ⟨A9, ⟨c9, rfl⟩, (R9).out.gots _ (by have := HM0.out; omega) G9.out, ((R9).out.ret R _).1⟩
          · exact ((R9).out.ret R _).2
        · have hcz : True := trivial
          have IHz := IH.out y (some ⟨bb, o + 8, none⟩) (b.drop 8) (c - 8) q p false (al)
          rw [hbl, ← HE.out] at IHz
          have HI := Lib.hid IHz
          have HRD2 : Hid (Rd w5 (w5).heap.size (some ⟨bb, o + 8, none⟩) (b.drop 8)) := Lib.hid (by first | exact HR3.out.drop hzl | (rw [List.drop_of_length_le (by omega)]; exact Rd.nil))
          clear IHz
          go_upto_region 28 with fail
          obtain ⟨m, hm⟩ : ∃ m, m = (w5).heap.size := ⟨_, rfl⟩
          have HM0 : Hid (w.heap.size < m) := Lib.hid (by rw [hm]; exact (R5).out.lt)
          obtain ⟨M, hM⟩ : ∃ M : Made m, M = Made.td m R := ⟨_, rfl⟩
          have HM := Lib.hid hM
          clear hM
          rw [← hm] at hblt hoxlt
          refine wp_region_made_tail m (10 + 1) (fun j => (nk10 m (8 : Nat) M).lookup j) (Nat.le_of_eq hm) (by kernel_rfl) (by kernel_rfl) ?_
          simp only [List.take_succ_cons, List.take_zero, List.drop_succ_cons, List.drop_zero, Nat.reduceAdd]
          refine walk_segn 10 ([]) facts0 (by kernel_rfl) (by kernel_rfl) ?_
          simp only [List.take_succ_cons, List.take_zero, List.drop_succ_cons, List.drop_zero, Nat.reduceAdd]
          repeat (go_big_quiet_step (fail))
          (first | refine wpQuiet_nil ?_ | (go_big_quiet_want; (try go_big_quiet_op); trace_state; fail))
          refine walk_mkop M [] facts0 (by kernel_rfl) (by kernel_rfl) (by kernel_rfl) (fun w' hb' hg' => ?_) (fun v hT hAt => ?_)
          · unfold madeAt
            go_simp
            have hbw : Below (w5).heap.size w5 w' := by rw [← hm]; exact hb'
            have hq := HQ.out
            refine (HI.out w' (by omega) ((HRD2.out.below hbw (Nat.le_refl _)).mono hbw.size) (fun h => by cases h) (by omega) (by omega) (by omega) (by omega)).mono ?_
            rintro e w9 ⟨A9, c9, rfl, hg9, b9⟩
            exact td_end HM b9 (Gots.turn hg9 (by rw [hm]; exact hbw.size) (Nat.le_refl _) (fun _ _ => rfl))
          obtain ⟨A9, c9, rfl⟩ := td_T HM hT
          clear hT hAt
          simp only [Act.put, List.setIfInBounds_toArray, List.set_cons_succ, List.set_cons_zero, Nat.reduceAdd]
          refine walk_nil ?_
          intro w9 hb9 hf
          have G9 := Lib.hid (td_R HM ((hf 10).1 rfl))
          rw [hm] at hb9
          have R9 := Lib.hid ((R5).out.next hb9)
          have q9 := R9.out.k
          have l9 := R9.out.lt
          clear hb9 hf
          unfold toV
          go_wp2_with fail
          refine ret_cell (cs := tdC R (.slice A9 R.rest.length c9)) rfl rfl rfl ?_ Try.underlying51 rfl (by kernel_rfl) ?_
          rotate_left
          · first | exact ⟨A9, c9, rfl, (R9).out.gots _ (by have := HM0.out; omega) G9.out, ((R9).out.ret R _).1⟩ | exact ⟨A9, ⟨c9, rfl⟩, (R9).out.gots _ (by have := HM0.out; omega) G9.out, ((R9).out.ret R _).1⟩
          · exact ((R9).out.ret R _).2
      · have hf0' : ¬ (fo : Int) = 0 := by omega
        replace HE := Lib.hid (HE.out.trans (if_neg (by simp [hf0])))
        by_cases hcs : c - 8 = 0
        · have hcz : True := trivial
          have HRD2 : Hid (Rd w5 w5.heap.size (some ⟨bb, o, none⟩) (b.drop 8)) := Lib.hid (by first | exact HR3.out.drop hzl | (rw [List.drop_of_length_le (by omega)]; exact Rd.nil))
          go_upto_region 29 with fail
          obtain ⟨m, hm⟩ : ∃ m, m = w5.heap.size := ⟨_, rfl⟩
          have HM0 : Hid (w.heap.size < m) := Lib.hid (by rw [hm]; exact R5.out.lt)
          obtain ⟨M, hM⟩ : ∃ M : Made m, M = Made.gt m (b.drop 8) := ⟨_, rfl⟩
          have HM := Lib.hid hM
          have hK := K5.out
          clear hM
          rw [← hm] at hblt hoxlt
          refine wp_region_made_tail m 9 (fun j => ([(5, M)] : List (Nat × Made m)).lookup j) (Nat.le_of_eq hm) (by kernel_rfl) (by kernel_rfl) ?_
          simp only [List.take_succ_cons, List.take_zero, List.drop_succ_cons, List.drop_zero]
          refine walk_segn 5 ([]) facts0 (by kernel_rfl) (by kernel_rfl) ?_
          simp only [List.take_succ_cons, List.take_zero, List.drop_succ_cons, List.drop_zero, Nat.reduceAdd]
          repeat (go_big_quiet_step (fail))
          (first | refine wpQuiet_nil ?_ | (go_big_quiet_want; (try go_big_quiet_op); trace_state; fail))
          refine walk_mkop M [] facts0 (by kernel_rfl) (by kernel_rfl) (by kernel_rfl) (fun w' hb' hg' => ?_) (fun v hT hAt => ?_)
          · have hbw : Below w5.heap.size w5 w' := by rw [← hm]; exact hb'
            exact append_gt rfl HM rfl (A := some ⟨bb, o, none⟩) (n := b.length - 8) (c := 0) rfl hbl.symm (fun h => by cases h) ((HRD2.out.below hbw (Nat.le_refl _)).mono hbw.size) (by omega) (by rw [hm]; exact hbw.size)
          obtain ⟨A9, c9, rfl, _⟩ := gt_T HM hT
          clear hT hAt
          simp only [Act.put, List.setIfInBounds_toArray, List.set_cons_succ, List.set_cons_zero, Nat.reduceAdd]
          refine walk_segn 3 ([]) facts0 (by kernel_rfl) (by kernel_rfl) ?_
          simp only [List.take_succ_cons, List.take_zero, List.drop_succ_cons, List.drop_zero, Nat.reduceAdd]
          repeat (go_big_quiet_step (fail))
          (first | refine wpQuiet_nil ?_ | (go_big_quiet_want; (try go_big_quiet_op); trace_state; fail))
          refine walk_nil ?_
          intro w9 hb9 hf
          have G9 := Lib.hid (gt_R HM ((hf 5).1 rfl))
          rw [hm] at hb9
          have R9 := Lib.hid (R5.out.next hb9)
          have q9 := R9.out.k
          have l9 := R9.out.lt
          have hRe := HE.out
          subst hRe
          clear hb9 hf HE cf2 cf3 hK
          go_wp2_with fail
          refine ret_cell (cs := tdC ⟨y, b.drop 8, al, true, I, fo, false, 0, 0, 0⟩ (.slice A9 (b.drop 8).length c9)) rfl rfl rfl ?_ Try.underlying51 rfl (by kernel_rfl) ?_
          rotate_left
          · first | exact ⟨A9, c9, rfl, R9.out.gots _ (by have := HM0.out; omega) G9.out, (R9.out.ret ⟨y, [], al, true, I, fo, false, 0, 0, 0⟩ _).1⟩ | exact ⟨A9, ⟨c9, rfl⟩, R9.out.gots _ (by have := HM0.out; omega) G9.out, (R9.out.ret ⟨y, [], al, true, I, fo, false, 0, 0, 0⟩ _).1⟩
          · rw [← hbl]; exact (R9.out.ret ⟨y, [], al, true, I, fo, false, 0, 0, 0⟩ _).2
        · have hcz : True := trivial
          have HRD2 : Hid (Rd w5 w5.heap.size (some ⟨bb, o + 8, none⟩) (b.drop 8)) := Lib.hid (by first | exact HR3.out.drop hzl | (rw [List.drop_of_length_le (by omega)]; exact Rd.nil))
          go_upto_region 29 with fail
          obtain ⟨m, hm⟩ : ∃ m, m = w5.heap.size := ⟨_, rfl⟩
          have HM0 : Hid (w.heap.size < m) := Lib.hid (by rw [hm]; exact R5.out.lt)
          obtain ⟨M, hM⟩ : ∃ M : Made m, M = Made.gt m (b.drop 8) := ⟨_, rfl⟩
          have HM := Lib.hid hM
          have hK := K5.out
          clear hM
          rw [← hm] at hblt hoxlt
          refine wp_region_made_tail m 9 (fun j => ([(5, M)] : List (Nat × Made m)).lookup j) (Nat.le_of_eq hm) (by kernel_rfl) (by kernel_rfl) ?_
          simp only [List.take_succ_cons, List.take_zero, List.drop_succ_cons, List.drop_zero]
          refine walk_segn 5 ([]) facts0 (by kernel_rfl) (by kernel_rfl) ?_
          simp only [List.take_succ_cons, List.take_zero, List.drop_succ_cons, List.drop_zero, Nat.reduceAdd]
          repeat (go_big_quiet_step (fail))
          (first | refine wpQuiet_nil ?_ | (go_big_quiet_want; (try go_big_quiet_op); trace_state; fail))
          refine walk_mkop M [] facts0 (by kernel_rfl) (by kernel_rfl) (by kernel_rfl) (fun w' hb' hg' => ?_) (fun v hT hAt => ?_)
          · have hbw : Below w5.heap.size w5 w' := by rw [← hm]; exact hb'
            exact append_gt rfl HM rfl (A := some ⟨bb, o + 8, none⟩) (n := b.length - 8) (c := c - 8) rfl hbl.symm (fun h => by cases h) ((HRD2.out.below hbw (Nat.le_refl _)).mono hbw.size) (by omega) (by rw [hm]; exact hbw.size)
          obtain ⟨A9, c9, rfl, _⟩ := gt_T HM hT
          clear hT hAt
          simp only [Act.put, List.setIfInBounds_toArray, List.set_cons_succ, List.set_cons_zero, Nat.reduceAdd]
          refine walk_segn 3 ([]) facts0 (by kernel_rfl) (by kernel_rfl) ?_
          simp only [List.take_succ_cons, List.take_zero, List.drop_succ_cons, List.drop_zero, Nat.reduceAdd]
          repeat (go_big_quiet_step (fail))
          (first | refine wpQuiet_nil ?_ | (go_big_quiet_want; (try go_big_quiet_op); trace_state; fail))
          refine walk_nil ?_
          intro w9 hb9 hf
          have G9 := Lib.hid (gt_R HM ((hf 5).1 rfl))
          rw [hm] at hb9
          have R9 := Lib.hid (R5.out.next hb9)
          have q9 := R9.out.k
          have l9 := R9.out.lt
          have hRe := HE.out
          subst hRe
          clear hb9 hf HE cf2 cf3 hK
          go_wp2_with fail
          refine ret_cell (cs := tdC ⟨y, b.drop 8, al, true, I, fo, false, 0, 0, 0⟩ (.slice A9 (b.drop 8).length c9)) rfl rfl rfl ?_ Try.underlying51 rfl (by kernel_rfl) ?_
          rotate_left
          · first | exact ⟨A9, c9, rfl, R9.out.gots _ (by have := HM0.out; omega) G9.out, (R9.out.ret ⟨y, [], al, true, I, fo, false, 0, 0, 0⟩ _).1⟩ | exact ⟨A9, ⟨c9, rfl⟩, R9.out.gots _ (by have := HM0.out; omega) G9.out, (R9.out.ret ⟨y, [], al, true, I, fo, false, 0, 0, 0⟩ _).1⟩
          · rw [← hbl]; exact (R9.out.ret ⟨y, [], al, true, I, fo, false, 0, 0, 0⟩ _).2

end Go.Proofs.Ytbfiakikhkiefaa

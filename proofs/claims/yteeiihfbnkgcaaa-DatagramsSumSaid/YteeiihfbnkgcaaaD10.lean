/- DatagramsBack, walked. -/
import Derived.Test.YteeiihfbnkgcaaaD7
import Derived.Test.YteeiihfbnkgcaaaD9
import Derived.Deep.DeepCutAuto
namespace Go.Proofs.Yteeiihfbnkgcaaa
open Go.RowKit
set_option maxRecDepth 100000
/-- A byte with a bit turned. -/
def flipB (a : UInt8) (k : Nat) : UInt8 := a ^^^ (1 <<< UInt8.ofNat k)
theorem flipB_ne : ∀ (a : UInt8) (k : Nat), k < 8 → flipB a k ≠ a := by
  have : ∀ a : Fin 256, ∀ k : Fin 8, flipB (UInt8.ofNat a.1) k.1 ≠ UInt8.ofNat a.1 := by decide +kernel
  intro a k hk
  have := this ⟨a.toNat, a.toNat_lt⟩ ⟨k, hk⟩
  simpa using this
theorem flipB_flipB (a : UInt8) (k : Nat) : flipB (flipB a k) k = a := by
  unfold flipB
  rw [UInt8.xor_assoc, UInt8.xor_self, UInt8.xor_zero]
theorem bits_flip (x : UInt8) (r : Nat) (hr : r < 8) : bits BinOp.xor IntKind.u8 (x.toNat : Int) (2 ^ r % 256) = ((flipB x r).toNat : Int) := by
  have : ∀ a : Fin 256, ∀ k : Fin 8, bits BinOp.xor IntKind.u8 (a.1 : Int) (2 ^ k.1 % 256) = ((flipB (UInt8.ofNat a.1) k.1).toNat : Int) := by decide +kernel
  have h := this ⟨x.toNat, x.toNat_lt⟩ ⟨r, hr⟩
  simpa using h
theorem bits_one (x : UInt8) : bits BinOp.xor IntKind.u8 (x.toNat : Int) 1 = ((flipB x 0).toNat : Int) := by
  have h := bits_flip x 0 (by omega)
  exact h
theorem take_put {n i : Nat} {cur : Array Value} {L : List UInt8} (h : cur.toList.take n = L.map B) (y : UInt8) : (cur.setIfInBounds i (B y)).toList.take n = (L.set i y).map B := by
  rw [Array.toList_setIfInBounds, List.take_set, h, List.map_set]
/-- What is behind, and where. -/
def spc (Z : Option Addr) (n c a : Nat) : Array Value := #[.slice Z n c, .int .u16 (a : Int)]
@[go_sem] theorem spc_s {Z : Option Addr} {n c a : Nat} : (spc Z n c a)[0]? = some (.slice Z n c) := by simp [spc]
@[go_sem] theorem spc_a {Z : Option Addr} {n c a : Nat} : (spc Z n c a)[1]? = some (.int .u16 a) := by simp [spc]
theorem own_parts {w : World} {base n c : Nat} {A : Option Addr} {xs : List Value} (h : w.ownsRow base 5 1 (.slice A n c) n xs) (h0 : 0 < n) : ∃ g cur, A = some ⟨g, 0, none⟩ ∧ bk w g = some (.cells cur 5 (0, 0)) ∧ base ≤ g ∧ n ≤ c ∧ cur.size = c ∧ cur.toList.take n = xs := by
  obtain ⟨hl, ⟨h1, h2⟩ | ⟨g, cap, cur, h1, hg, hk, h2, h3, h4, h5⟩⟩ := h
  · omega
  · cases h1
    exact ⟨g, cur, rfl, hk, hg, h2, by omega, by simpa using h5⟩
theorem own_cell {w : World} {g n j : Nat} {cur : Array Value} {t : TypeId} {fr : Nat × Nat} {L : List UInt8} {x : UInt8} (h : bk w g = some (.cells cur t fr)) (ht : cur.toList.take n = L.map B) (hj : L[j]? = some x) : w.cell? ⟨g, j, none⟩ = some (B x) := by
  rw [bk_cell h]
  have h1 : (cur.toList.take n)[j]? = some (B x) := by rw [ht, List.getElem?_map, hj]; rfl
  rw [List.getElem?_take] at h1
  split at h1
  · simpa using h1
  · cases h1
set_option maxHeartbeats 2000000 in
theorem datagramsBack_walk (src dst : List UInt8) (f t : Nat) (A : Option Addr) (l : List UInt8) (c : Nat) (Z : Option Addr) (z : List UInt8) (zc at' : Nat) (w : World) (h1 : src.length = 16) (h2 : dst.length = 16) (hf : f < 65536) (ht : t < 65536)
    (h : Rd w w.heap.size A l) (hA : A = none → l = [] ∧ c = 0) (hl : l.length ≤ 3000) (hz : Rd w w.heap.size Z z) (hZ : Z = none → z = [] ∧ zc = 0) (hzl : z.length ≤ 500) (hat : at' < 65536) :
    Calls Try.prog 5 #[av (src ++ dst), .agg (dgc f t A l.length c), .agg (spc Z z.length zc at')] w fun e w' => e = .returned (.bool true) ∧ Below w.heap.size w w' := by
  have RI := Lib.hid h; have HA := Lib.hid hA; have RZ := Lib.hid hz; have HZ := Lib.hid hZ
  clear h hA hz hZ
  have d1 : decide (3000 < (l.length : Int)) = false := by simp; omega
  have d2 : decide (3000 < l.length) = false := by simp; omega
  have d3 : decide (500 < (z.length : Int)) = false := by simp; omega
  have d4 : decide (500 < z.length) = false := by simp; omega
  have hdl := dgb_length src dst f t l
  obtain ⟨D, hD⟩ : ∃ D, D = dgb src dst f t l := ⟨_, rfl⟩
  rw [← hD] at hdl
  have HD := Lib.hid hD; have HDL := Lib.hid hdl
  clear hD hdl
  obtain ⟨E, hE⟩ : ∃ E, E = src ++ dst := ⟨_, rfl⟩
  have q0 : sl E 0 16 = src := by rw [hE]; exact sl_src h1
  have q1 : sl E 16 16 = dst := by rw [hE]; exact sl_dst h1 h2
  have qn : E.length = 32 := by rw [hE, List.length_append]; omega
  rw [← hE]
  clear hE
  go_enter Try.func5, Try.ntmps5
  have a0 : Below w.heap.size w (((w.alloc (.cells (List.map B E).toArray 25)).alloc (.cells (dgc f t A l.length c) 29)).alloc (.cells (spc Z z.length zc at') 47)) := (by (repeat (first | exact Below.refl _ _ | assumption | refine Below.drew ?_ | refine bdrewN ?_ _ | refine Below.alloc ?_ (by first | omega | (simp <;> omega) | (simp only [World.size_alloc] <;> omega)) _ | refine below_setRow ?_ (by first | omega | (simp <;> omega)) _ | refine Below.setCell ?_ (by first | omega | (simp <;> omega)) _)))
  have KE : Hid (bk (((w.alloc (.cells (List.map B E).toArray 25)).alloc (.cells (dgc f t A l.length c) 29)).alloc (.cells (spc Z z.length zc at') 47)) w.heap.size = some (.cells (List.map B E).toArray 25 (0, 0))) := Lib.hid (by rw [bk_alloc_past _ _ _ (by simp <;> omega), bk_alloc_past _ _ _ (by simp)]; exact bk_alloc_at _ _ _ rfl)
  have KD : Hid (bk (((w.alloc (.cells (List.map B E).toArray 25)).alloc (.cells (dgc f t A l.length c) 29)).alloc (.cells (spc Z z.length zc at') 47)) (w.heap.size + 1) = some (.cells (dgc f t A l.length c) 29 (0, 0))) := Lib.hid (by rw [bk_alloc_past _ _ _ (by simp)]; exact bk_alloc_at _ _ _ (by simp))
  have KS : Hid (bk (((w.alloc (.cells (List.map B E).toArray 25)).alloc (.cells (dgc f t A l.length c) 29)).alloc (.cells (spc Z z.length zc at') 47)) (w.heap.size + 1 + 1) = some (.cells (spc Z z.length zc at') 47 (0, 0))) := Lib.hid (bk_alloc_at _ _ _ (by simp))
  have F := Lib.hid a0
  replace RI := Lib.hid ((RI.out.below a0 (Nat.le_refl _)).mono a0.size)
  replace RZ := Lib.hid ((RZ.out.below a0 (Nat.le_refl _)).mono a0.size)
  clear a0
  have cs0 := (bk_cell KS.out 0).trans spc_s
  have cd2 := (bk_cell KD.out 2).trans dgc_data
  go_wp2_with fail
  clear cs0 cd2
  generalize ((w.alloc (.cells (List.map B E).toArray 25)).alloc (.cells (dgc f t A l.length c) 29)).alloc (.cells (spc Z z.length zc at') 47) = w0 at *
  have n0 := bk_lt KS.out
  refine (dput_any src dst f t A l c w0 h1 h2 hf ht RI.out HA.out (by omega)).mono ?_
  rintro e w1 ⟨v, rfl, ho, b1⟩
  rw [← HD.out] at ho
  obtain ⟨A1, c1, rfl, _⟩ := Rd.of_own ho rfl
  obtain ⟨g, cur, rfl, hg, hgs, hcu, hlc, htk⟩ := own_parts ho (by have := HDL.out; omega)
  have KG := Lib.hid hg
  have HTK := Lib.hid htk
  replace KE := Lib.hid (bk_keep b1 (bk_lt KE.out) KE.out)
  replace KD := Lib.hid (bk_keep b1 (bk_lt KD.out) KD.out)
  replace KS := Lib.hid (bk_keep b1 (bk_lt KS.out) KS.out)
  replace F := Lib.hid (F.out.trans (b1.mono F.out.size))
  replace RI := Lib.hid ((RI.out.below b1 (Nat.le_refl _)).mono b1.size)
  replace RZ := Lib.hid ((RZ.out.below b1 (Nat.le_refl _)).mono b1.size)
  have s1 := b1.size
  clear b1 ho hg htk
  obtain ⟨x6, hx6⟩ : ∃ x, x = UInt8.ofNat (dsum src dst f t l / 256) := ⟨_, rfl⟩
  obtain ⟨x7, hx7⟩ : ∃ x, x = UInt8.ofNat (dsum src dst f t l) := ⟨_, rfl⟩
  have hD6 : D[6]? = some x6 := by rw [HD.out, dgb_cons, hx6]; rfl
  have hD7 : D[7]? = some x7 := by rw [HD.out, dgb_cons, hx7]; rfl
  have hr := dsum_range src dst f t l
  have hx : ¬ (x6.toNat = 0 ∧ x7.toNat = 0) := by rw [hx6, hx7, UInt8.toNat_ofNat', UInt8.toNat_ofNat']; omega
  clear hx6 hx7 hr
  have u6 : w1.cell? ⟨g, 6, none⟩ = some (B x6) := own_cell KG.out HTK.out hD6
  have u7 : w1.cell? ⟨g, 7, none⟩ = some (B x7) := own_cell KG.out HTK.out hD7
  have cd2 := (bk_cell KD.out 2).trans dgc_data
  have iD6 : (6 : Int) < (D.length : Int) := by have := HDL.out; omega
  have iD7 : (7 : Int) < (D.length : Int) := by have := HDL.out; omega
  have w8 : IntKind.i64.wrap (8 + (l.length : Int)) = 8 + (l.length : Int) := by rw [IntKind.wrap_i64]; omega
  have eDL : ((D.length : Int) == 8 + (l.length : Int)) = true := by rw [HDL.out]; simp
  have eDM : ((D.length : Int) != 8 + (l.length : Int)) = false := by rw [HDL.out]; simp
  go_upto_region 4 with fail
  go_cut [61] (fun s61 wx => s61 = .bool false ∧ wx = w1)
  case first =>
    by_cases h6 : x6.toNat = 0
    · have y6 : ((x6.toNat : Int) == 0) = true := by simp; omega
      have y7 : ((x7.toNat : Int) == 0) = false := by simp; omega
      go_wp2_with fail
      go_meet
      exact ⟨rfl, rfl⟩
    · have y6 : ((x6.toNat : Int) == 0) = false := by simp; omega
      go_wp2_with fail
      go_meet
      exact ⟨rfl, rfl⟩
  case rest =>
    obtain ⟨rfl, hwc⟩ := hcut
    obtain rfl : wc = w1 := hwc
    clear u6 u7 cd2 iD6 iD7 eDL eDM w8
    go_wp2_with fail
    have cs0 := (bk_cell KS.out 0).trans spc_s
    have RB : Hid (Rd wc wc.heap.size (some ⟨g, 0, none⟩) D) := Lib.hid (Rd.of_take KG.out HTK.out (bk_lt KG.out))
    have lS := bk_lt KS.out
    have vKE := KE.out; have wKE := bk_lt vKE
    obtain ⟨M5, hM5⟩ : ∃ M : MadeW wc.heap.size, M = MadeW.own _ [] D := ⟨_, rfl⟩
    obtain ⟨X, hX⟩ : ∃ X, X = D ++ z := ⟨_, rfl⟩
    have HX := Lib.hid hX
    have EQ : Hid (gF src dst X = f ∧ gT src dst X = t ∧ gD src dst X = l ∧ gE src dst X = 0) := Lib.hid (by rw [hX, HD.out]; exact ⟨gF_back h1 h2 hf (by omega) z, gT_back h1 h2 ht (by omega) z, gD_back h1 h2 (by omega) z, gE_back h1 h2 (by omega) z⟩)
    have hXl : X.length < 2 ^ 32 := by rw [hX, List.length_append, HDL.out]; omega
    clear hX
    obtain ⟨M8, hM8⟩ : ∃ M : MadeW wc.heap.size, M = MadeW.own _ [5] X := ⟨_, rfl⟩
    obtain ⟨M9, hM9⟩ : ∃ M : MadeW wc.heap.size, M = MadeW.gots _ (fun A => .tuple #[.agg (dgc f t A l.length l.length), .int .i64 0]) l := ⟨_, rfl⟩
    obtain ⟨M13, hM13⟩ : ∃ M : MadeW wc.heap.size, M = MadeW.row _ (fun b => .pointer (some ⟨b, 0, none⟩)) (dgc 0 0 none 0 0) 29 := ⟨_, rfl⟩
    have H5 := Lib.hid hM5; have H8 := Lib.hid hM8; have H9 := Lib.hid hM9; have H13 := Lib.hid hM13
    clear hM5 hM8 hM9 hM13
    refine wp_region_e (wc.heap.size) ([.own 5 H5, .own 8 H8, .gots 9 H9, .row 13 H13, .store wc.heap.size 14 29 [9, 73]]) (fun k => (([(8, [5]), (9, [8]), (14, [13])] : List (Nat × List Nat)).lookup k).getD []) (Fs.nil) (by first | omega | (simp <;> omega)) (by kernel_rfl) (by kernel_rfl) (by kernel_rfl) (by kernel_rfl) EnvW.Ini.nil ?_
    refine walkW_segn 5 [] facts0 noneHx (by kernel_rfl) (by kernel_rfl) ?_
    simp only [List.take_succ_cons, List.take_zero, List.drop_succ_cons, List.drop_zero, Nat.reduceAdd]
    repeat (go_big_quiet_step (fail))
    (first | refine wpQuiet_nil ?_ | (go_big_quiet_want; (try go_big_quiet_op); trace_state; fail))
    refine walkW_mk (fun _ => M5) [] M5 ([]) facts0 (by kernel_rfl) (by kernel_rfl) (by kernel_rfl) rfl rfl (fun w' hb' hg' => ?_) (fun v5 h5 => ?_)
    · ((exact append_mk rfl H5 (l1 := []) (l2 := D) rfl rfl (World.ownsRow_nil _ _ _ _) rfl rfl (fun h => by cases h) ((RB.out.below hb' (Nat.le_refl _)).mono hb'.size) (by have := HDL.out; simp; omega) hb'.size (.inl rfl)))
    obtain ⟨A5, c5, rfl, n5, _⟩ := own_T H5 h5
    simp only [Act.put, List.setIfInBounds_toArray, List.set_cons_succ, List.set_cons_zero, Nat.reduceAdd]
    refine walkW_segn 2 [] facts0 noneHx (by kernel_rfl) (by kernel_rfl) ?_
    simp only [List.take_succ_cons, List.take_zero, List.drop_succ_cons, List.drop_zero, Nat.reduceAdd]
    repeat (go_big_quiet_step (fail))
    (first | refine wpQuiet_nil ?_ | (go_big_quiet_want; (try go_big_quiet_op); trace_state; fail))
    refine walkW_mk (fun _ => M8) [] M8 ([(5, M5.R (.slice A5 D.length c5))]) (facts1 fun w h => h.1 rfl) (by kernel_rfl) (by kernel_rfl) (by kernel_rfl) rfl rfl (fun w' hb' hg' => ?_) (fun v8 h8 => ?_)
    · ((exact append_mk rfl H8 (l1 := D) (l2 := z) HX.out rfl (own_R H5 (hg' _ (.head _))) rfl rfl HZ.out ((RZ.out.below hb' (Nat.le_refl _)).mono hb'.size) (by have := HDL.out; omega) hb'.size (.inr (by simp))))
    obtain ⟨A8, c8, rfl, n8, le8⟩ := own_T H8 h8
    simp only [Act.put, List.setIfInBounds_toArray, List.set_cons_succ, List.set_cons_zero, Nat.reduceAdd]
    refine walkW_mk (fun _ => M9) [] M9 ([(8, M8.R (.slice A8 X.length c8))]) (facts1 fun w h => h.1 rfl) (by kernel_rfl) (by kernel_rfl) (by kernel_rfl) rfl rfl (fun w' hb' hg' => ?_) (fun v9 h9 => ?_)
    · unfold madeAtW
      go_simp
      ((refine (dget_any src dst A8 X c8 w' h1 h2 (own_Rd H8 (hg' _ (.head _))) n8 le8 hXl).mono ?_; rintro e w2 ⟨A', rfl, hG, hb⟩; rw [EQ.out.1, EQ.out.2.1, EQ.out.2.2.1, EQ.out.2.2.2] at *; exact gots_end H9 hb hb'.size (hG.lower hb'.size)))
    obtain ⟨A9, rfl⟩ := gots_T H9 h9
    simp only [Act.put, List.setIfInBounds_toArray, List.set_cons_succ, List.set_cons_zero, Nat.reduceAdd]
    refine walkW_segn 3 [] facts0 noneHx (by kernel_rfl) (by kernel_rfl) ?_
    simp only [List.take_succ_cons, List.take_zero, List.drop_succ_cons, List.drop_zero, Nat.reduceAdd]
    repeat (go_big_quiet_step (fail))
    (first | refine wpQuiet_nil ?_ | (go_big_quiet_want; (try go_big_quiet_op); trace_state; fail))
    refine walkW_mk (fun _ => M13) [] M13 ([]) facts0 (by kernel_rfl) (by kernel_rfl) (by kernel_rfl) rfl rfl (fun w' hb' hg' => ?_) (fun v13 h13 => ?_)
    · unfold madeAtW
      go_simp
      ((exact (row_mk (b := w'.heap.size) H13 ((Below.refl _ _).alloc (Nat.le_refl _) _) hb'.size hb'.size (bk_alloc_at _ _ _ rfl) :)))
    obtain ⟨b13, m13, rfl⟩ := row_T H13 h13
    simp only [Act.put, List.setIfInBounds_toArray, List.set_cons_succ, List.set_cons_zero, Nat.reduceAdd]
    refine walkW_mk (MadeW.storeAt _ 29) [.pointer (some ⟨b13, 0, none⟩), .agg (dgc f t A9 l.length l.length)] (MadeW.store _ b13 (dgc f t A9 l.length l.length) 29) ([(13, M13.R (.pointer (some ⟨b13, 0, none⟩)))]) (facts1 fun w h => h.1 rfl) (by kernel_rfl) (by kernel_rfl) (by kernel_rfl) rfl rfl (fun w' hb' hg' => ?_) (fun v hT => ?_)
    · exact storeRow_mk (n := 3) (by kernel_rfl) (Lib.hid rfl) (row_R H13 ptr_inj (hg' _ (.head _))) m13 rfl rfl dgc_size dgc_size dgc_ones
    clear hT
    simp only [Act.put]
    refine walkW_segn 1 [] facts0 noneHx (by kernel_rfl) (by kernel_rfl) ?_
    simp only [List.take_succ_cons, List.take_zero, List.drop_succ_cons, List.drop_zero, Nat.reduceAdd]
    repeat (go_big_quiet_step (fail))
    (first | refine wpQuiet_nil ?_ | (go_big_quiet_want; (try go_big_quiet_op); trace_state; fail))
    refine walkW_nil ?_
    intro w2 b2 hf
    have G9 := Lib.hid (gots_R H9 (fun A A' h => by simpa [dgc] using h) ((hf 9 (by kernel_rfl)).2.2.1 rfl))
    have KC := Lib.hid (store_R (Lib.hid rfl) ((hf 14 (by kernel_rfl)).1 rfl))
    clear vKE wKE
    replace KE := Lib.hid (bk_keep b2 (bk_lt KE.out) KE.out)
    replace KD := Lib.hid (bk_keep b2 (bk_lt KD.out) KD.out)
    replace KS := Lib.hid (bk_keep b2 (bk_lt KS.out) KS.out)
    replace KG := Lib.hid (bk_keep b2 (bk_lt KG.out) KG.out)
    replace F := Lib.hid (F.out.trans (b2.mono F.out.size))
    replace RI := Lib.hid ((RI.out.below b2 (Nat.le_refl _)).mono b2.size)
    have s2 := b2.size
    clear b2 hf H5 H8 H9 H13 h5 h8 h9 h13 EQ cs0 lS
    have vKE := KE.out; have wKE := bk_lt vKE
    go_wp2_with fail
    have hD0 : 0 < D.length := by rw [HDL.out]; omega
    have hDm : D.length ≤ 3008 := by rw [HDL.out]; omega
    obtain ⟨k, hk⟩ : ∃ k, k = at' % D.length := ⟨_, rfl⟩
    have hkl : k < D.length := by rw [hk]; exact Nat.mod_lt _ hD0
    have mk1 : (at' : Int).tmod (D.length : Int) = (k : Int) := by rw [hk, Int.tmod_eq_emod_of_nonneg (by omega)]; simp
    have mk2 : (at' : Int) % (D.length : Int) = (k : Int) := by rw [hk]; simp
    have nz : ((D.length : Int) == 0) = false := by rw [beq_eq_false_iff_ne]; omega
    have hkc : k ≤ c1 := by omega
    have ekc : decide (k ≤ c1) = true := by simp; omega
    have cs1 := (bk_cell KS.out 1).trans spc_a
    have lS := bk_lt KS.out
    have RB : Hid (Rd w2 w2.heap.size (some ⟨g, 0, none⟩) D) := Lib.hid (Rd.of_take KG.out HTK.out (bk_lt KG.out))
    have tkl : (D.take k).length = k := by rw [List.length_take]; omega
    have TKL := Lib.hid tkl
    clear hk tkl
    obtain ⟨M12, hM12⟩ : ∃ M : MadeW w2.heap.size, M = MadeW.gots _ (fun A => .tuple #[.agg (dgc (gF src dst (D.take k)) (gT src dst (D.take k)) A (gD src dst (D.take k)).length (gD src dst (D.take k)).length), .int .i64 (gE src dst (D.take k))]) (gD src dst (D.take k)) := ⟨_, rfl⟩
    obtain ⟨M16, hM16⟩ : ∃ M : MadeW w2.heap.size, M = MadeW.row _ (fun b => .pointer (some ⟨b, 0, none⟩)) (dgc 0 0 none 0 0) 29 := ⟨_, rfl⟩
    have H12 := Lib.hid hM12; have H16 := Lib.hid hM16
    clear hM12 hM16
    obtain ⟨gf, hgf⟩ : ∃ x, x = gF src dst (D.take k) := ⟨_, rfl⟩
    obtain ⟨gt, hgt⟩ : ∃ x, x = gT src dst (D.take k) := ⟨_, rfl⟩
    obtain ⟨gd, hgd⟩ : ∃ x, x = gD src dst (D.take k) := ⟨_, rfl⟩
    obtain ⟨ge, hge⟩ : ∃ x, x = gE src dst (D.take k) := ⟨_, rfl⟩
    rw [← hgf, ← hgt, ← hgd, ← hge] at H12
    have HGG := Lib.hid (And.intro hgf (And.intro hgt (And.intro hgd hge)))
    have hge54 : ge = 5 ∨ ge = 4 := by rw [hge, HD.out]; exact gE_cut (by omega) k (by have := HDL.out; omega)
    clear hgf hgt hgd hge
    refine wp_region_e (w2.heap.size) ([.val w2.heap.size 9 (.int .i64 D.length), .gots 12 H12, .row 16 H16, .store w2.heap.size 17 29 [11, 89]]) (fun k => (([(17, [16])] : List (Nat × List Nat)).lookup k).getD []) (Fs.nil) (by first | omega | (simp <;> omega)) (by kernel_rfl) (by kernel_rfl) (by kernel_rfl) (by kernel_rfl) EnvW.Ini.nil ?_
    refine walkW_segn 9 [] facts0 noneHx (by kernel_rfl) (by kernel_rfl) ?_
    simp only [List.take_succ_cons, List.take_zero, List.drop_succ_cons, List.drop_zero, Nat.reduceAdd]
    repeat (go_big_quiet_step (fail))
    (first | refine wpQuiet_nil ?_ | (go_big_quiet_want; (try go_big_quiet_op); trace_state; fail))
    refine walkW_val (.int .i64 D.length) (fun _ => .val (.int .i64 D.length)) [] ([]) facts0 (by kernel_rfl) (by kernel_rfl) (by kernel_rfl) rfl rfl (fun w' hb' hg' => ?_) ?_
    · unfold madeAtW
      go_simp
      ((exact ⟨Kept.refl _ _ _, rfl, trivial⟩))
    simp only [Act.put, List.setIfInBounds_toArray, List.set_cons_succ, List.set_cons_zero, Nat.reduceAdd]
    refine walkW_segn 2 [] facts0 noneHx (by kernel_rfl) (by kernel_rfl) ?_
    simp only [List.take_succ_cons, List.take_zero, List.drop_succ_cons, List.drop_zero, Nat.reduceAdd]
    repeat (go_big_quiet_step (fail))
    (first | refine wpQuiet_nil ?_ | (go_big_quiet_want; (try go_big_quiet_op); trace_state; fail))
    refine walkW_mk (fun _ => M12) [] M12 ([]) facts0 (by kernel_rfl) (by kernel_rfl) (by kernel_rfl) rfl rfl (fun w' hb' hg' => ?_) (fun v12 h12 => ?_)
    · unfold madeAtW
      go_simp
      ((have C := dget_any src dst (some ⟨g, 0, none⟩) (D.take k) c1 w' h1 h2 ((RB.out.below hb' (Nat.le_refl _)).mono hb'.size).take (fun h => by cases h) (by rw [TKL.out]; omega) (by rw [TKL.out]; omega); rw [TKL.out] at C; refine C.mono ?_; rintro e w3 ⟨A', rfl, hG, hb⟩; rw [← HGG.out.1, ← HGG.out.2.1, ← HGG.out.2.2.1, ← HGG.out.2.2.2] at *; exact gots_end H12 hb hb'.size (hG.lower hb'.size)))
    obtain ⟨A12, rfl⟩ := gots_T H12 h12
    simp only [Act.put, List.setIfInBounds_toArray, List.set_cons_succ, List.set_cons_zero, Nat.reduceAdd]
    refine walkW_segn 3 [] facts0 noneHx (by kernel_rfl) (by kernel_rfl) ?_
    simp only [List.take_succ_cons, List.take_zero, List.drop_succ_cons, List.drop_zero, Nat.reduceAdd]
    repeat (go_big_quiet_step (fail))
    (first | refine wpQuiet_nil ?_ | (go_big_quiet_want; (try go_big_quiet_op); trace_state; fail))
    refine walkW_mk (fun _ => M16) [] M16 ([]) facts0 (by kernel_rfl) (by kernel_rfl) (by kernel_rfl) rfl rfl (fun w' hb' hg' => ?_) (fun v16 h16 => ?_)
    · unfold madeAtW
      go_simp
      ((exact (row_mk (b := w'.heap.size) H16 ((Below.refl _ _).alloc (Nat.le_refl _) _) hb'.size hb'.size (bk_alloc_at _ _ _ rfl) :)))
    obtain ⟨b16, m16, rfl⟩ := row_T H16 h16
    simp only [Act.put, List.setIfInBounds_toArray, List.set_cons_succ, List.set_cons_zero, Nat.reduceAdd]
    refine walkW_mk (MadeW.storeAt _ 29) [.pointer (some ⟨b16, 0, none⟩), .agg (dgc gf gt A12 gd.length gd.length)] (MadeW.store _ b16 (dgc gf gt A12 gd.length gd.length) 29) ([(16, M16.R (.pointer (some ⟨b16, 0, none⟩)))]) (facts1 fun w h => h.1 rfl) (by kernel_rfl) (by kernel_rfl) (by kernel_rfl) rfl rfl (fun w' hb' hg' => ?_) (fun v hT => ?_)
    · exact storeRow_mk (n := 3) (by kernel_rfl) (Lib.hid rfl) (row_R H16 ptr_inj (hg' _ (.head _))) m16 rfl rfl dgc_size dgc_size dgc_ones
    clear hT
    simp only [Act.put]
    refine walkW_segn 1 [] facts0 noneHx (by kernel_rfl) (by kernel_rfl) ?_
    simp only [List.take_succ_cons, List.take_zero, List.drop_succ_cons, List.drop_zero, Nat.reduceAdd]
    repeat (go_big_quiet_step (fail))
    (first | refine wpQuiet_nil ?_ | (go_big_quiet_want; (try go_big_quiet_op); trace_state; fail))
    refine walkW_nil ?_
    intro w3 b3 _
    clear vKE wKE
    replace G9 := Lib.hid (G9.out.below b3)
    replace KE := Lib.hid (bk_keep b3 (bk_lt KE.out) KE.out)
    replace KD := Lib.hid (bk_keep b3 (bk_lt KD.out) KD.out)
    replace KS := Lib.hid (bk_keep b3 (bk_lt KS.out) KS.out)
    replace KG := Lib.hid (bk_keep b3 (bk_lt KG.out) KG.out)
    replace KC := Lib.hid (bk_keep b3 (bk_lt KC.out) KC.out)
    replace F := Lib.hid (F.out.trans (b3.mono F.out.size))
    replace RI := Lib.hid ((RI.out.below b3 (Nat.le_refl _)).mono b3.size)
    have s3 := b3.size
    clear b3 cs1 lS RB
    have vKC := KC.out; have wKC := bk_lt vKC
    have vKD := KD.out; have wKD := bk_lt vKD
    go_upto_region 8 with fail
    go_cut [106] (fun s106 wx => s106 = .bool false ∧ Hid (Below w3.heap.size w3 wx))
    case first =>
      have CS := sameDatagram_any f t f t A9 A l l l.length c w3 G9.out.rd RI.out (by omega) (by omega)
      simp only [beq_self_eq_true, decide_true, Bool.and_true] at CS
      rcases hge54 with rfl | rfl
      · go_wp2_with fail
        refine CS.mono ?_
        rintro e w4 ⟨rfl, b4⟩
        have B4 := Lib.hid b4
        clear CS b4
        go_wp2_with fail
        go_meet
        exact ⟨rfl, B4⟩
      · go_wp2_with fail
        refine CS.mono ?_
        rintro e w4 ⟨rfl, b4⟩
        have B4 := Lib.hid b4
        clear CS b4
        go_wp2_with fail
        go_meet
        exact ⟨rfl, B4⟩
    case rest =>
      clear vKC wKC
      clear vKD wKD
      obtain ⟨rfl, B4⟩ := hcut
      have b4 := B4.out
      replace KE := Lib.hid (bk_keep b4 (bk_lt KE.out) KE.out)
      replace KD := Lib.hid (bk_keep b4 (bk_lt KD.out) KD.out)
      replace KS := Lib.hid (bk_keep b4 (bk_lt KS.out) KS.out)
      replace KG := Lib.hid (bk_keep b4 (bk_lt KG.out) KG.out)
      replace F := Lib.hid (F.out.trans (b4.mono F.out.size))
      replace RI := Lib.hid ((RI.out.below b4 (Nat.le_refl _)).mono b4.size)
      have s4 := b4.size
      clear b4 B4
      have cs1 := (bk_cell KS.out 1).trans spc_a
      obtain ⟨q, hq⟩ : ∃ q, q = at' % (8 * D.length) := ⟨_, rfl⟩
      have hql : q < 8 * D.length := by rw [hq]; exact Nat.mod_lt _ (by omega)
      have e8 : IntKind.i64.wrap (8 * (D.length : Int)) = 8 * (D.length : Int) := by rw [IntKind.wrap_i64]; omega
      have mq1 : (at' : Int).tmod (8 * (D.length : Int)) = (q : Int) := by rw [hq, Int.tmod_eq_emod_of_nonneg (by omega)]; simp
      have mq2 : (at' : Int) % (8 * (D.length : Int)) = (q : Int) := by rw [hq]; simp
      have nz8 : ((8 * (D.length : Int)) == 0) = false := by rw [beq_eq_false_iff_ne]; omega
      obtain ⟨i, hi⟩ : ∃ i, i = q / 8 := ⟨_, rfl⟩
      obtain ⟨r, hr⟩ : ∃ r, r = q % 8 := ⟨_, rfl⟩
      have hil : i < D.length := by omega
      have hr8 : r < 8 := by omega
      have mi1 : (q : Int).tdiv 8 = (i : Int) := by rw [hi, Int.tdiv_eq_ediv_of_nonneg (by omega)]; simp
      have mi2 : (q : Int) / 8 = (i : Int) := by rw [hi]; simp
      have mr1 : (q : Int).tmod 8 = (r : Int) := by rw [hr, Int.tmod_eq_emod_of_nonneg (by omega)]; simp
      have mr2 : (q : Int) % 8 = (r : Int) := by rw [hr]; simp
      have HQR := Lib.hid (show q = 8 * i + r by omega)
      clear hq hi hr
      obtain ⟨x, hx⟩ : ∃ x, x = D[i] := ⟨_, rfl⟩
      have HXI := Lib.hid hx
      have ui : wc.cell? ⟨g, i, none⟩ = some (B x) := own_cell KG.out HTK.out (by rw [List.getElem?_eq_getElem hil, hx])
      have hil' : (i : Int) < (D.length : Int) := by omega
      have lgc := bk_lt KG.out
      clear hx
      obtain ⟨y, hy⟩ : ∃ y, y = flipB x r := ⟨_, rfl⟩
      have hbx : bits BinOp.xor IntKind.u8 (x.toNat : Int) (2 ^ r % 256) = (y.toNat : Int) := by rw [hy]; exact bits_flip x r hr8
      have hby : bits BinOp.xor IntKind.u8 (y.toNat : Int) (2 ^ r % 256) = (x.toNat : Int) := by rw [bits_flip y r hr8, hy, flipB_flipB]
      have hyx : y ≠ x := by rw [hy]; exact flipB_ne x r hr8
      have HYX := Lib.hid hyx
      obtain ⟨D', hD'⟩ : ∃ D', D' = D.set i y := ⟨_, rfl⟩
      have hDl' : D'.length = D.length := by rw [hD', List.length_set]
      have hge2 : i ≠ 4 → i ≠ 5 → gE src dst D' = 6 := fun h4 h5 => by
        rw [hD']
        have e := HXI.out
        have hd := HD.out
        subst hd
        exact gE_turn h1 h2 (by omega) i hil h4 h5 y (by rw [← e]; exact hyx)
      have hDD : D'.set i x = D := by rw [hD', List.set_set, HXI.out, List.set_getElem_self]
      have HDl' := Lib.hid hDl'; have HGE2 := Lib.hid hge2; have HDD := Lib.hid hDD; have HD' := Lib.hid hD'
      clear hy hyx hD' hDl' hge2 hDD
      go_wp2_with fail
      refine wp_region_later_tail (wc.heap.size) 13 (by kernel_rfl) (by kernel_rfl) ?_
      simp only [List.take_succ_cons, List.take_zero, List.drop_succ_cons, List.drop_zero]
      repeat (go_big_quiet_step ((fail)))
      (first | refine wpQuiet_nil ?_ | (go_big_quiet_want; (try go_big_quiet_op); trace_state; fail))
      intro w5 hw'
      have q5 := later_elim hw'
      clear hw'
      replace F := Lib.hid (F.out.trans (q5.mono F.out.size))
      replace RI := Lib.hid ((RI.out.below q5 (Nat.le_refl _)).mono q5.size)
      replace KE := Lib.hid (bk_keep q5 (bk_lt KE.out) KE.out); replace KD := Lib.hid (bk_keep q5 (bk_lt KD.out) KD.out); replace KS := Lib.hid (bk_keep q5 (bk_lt KS.out) KS.out); replace KG := Lib.hid (bk_keep q5 lgc KG.out)
      have ui5 : w5.cell? ⟨g, i, none⟩ = some (B x) := (q5.cell (p := ⟨g, i, none⟩) lgc).trans ui
      have fz5 := bk_frozen KG.out i
      have hwg : w.heap.size + 1 + 1 < g := by omega
      clear q5 ui cs1
      have vKE := KE.out; have wKE := bk_lt vKE
      have hneg : ¬ w.heap.size = g := by omega
      go_wp2_with fail
      have F6 : Hid (Below w.heap.size w (w5.setCell ⟨g, i, none⟩ (B y))) := Lib.hid (F.out.setCell (p := ⟨g, i, none⟩) (show w.heap.size ≤ g by omega) _)
      have KG6 : Hid (bk (w5.setCell ⟨g, i, none⟩ (B y)) g = some (.cells (cur.setIfInBounds i (B y)) 5 (0, 0))) := Lib.hid (by rw [bk_setCell_same, KG.out]; rfl)
      have KE6 := Lib.hid ((bk_setCell_other w5 g i w.heap.size (B y) hneg).trans KE.out)
      have KD6 := Lib.hid ((bk_setCell_other w5 g i (w.heap.size + 1) (B y) (by omega)).trans KD.out)
      have KS6 := Lib.hid ((bk_setCell_other w5 g i (w.heap.size + 1 + 1) (B y) (by omega)).trans KS.out)
      have HTK6 := Lib.hid (take_put (i := i) HTK.out y)
      rw [← HD'.out] at HTK6
      clear vKE wKE
      clear KE KD KS KG F ui5 fz5 RI
      generalize w5.setCell ⟨g, i, none⟩ (B y) = w6 at *
      have RD6 : Rd w6 w6.heap.size (some ⟨g, 0, none⟩) D' := Rd.of_take KG6.out HTK6.out (bk_lt KG6.out)
      have C := dget_any src dst (some ⟨g, 0, none⟩) D' c1 w6 h1 h2 RD6 (fun h => by cases h) (by rw [HDl'.out]; exact hcu) (by rw [HDl'.out]; omega)
      rw [HDl'.out] at C
      refine C.mono ?_
      clear C
      rintro e w7 ⟨A7, rfl, hG7, b7⟩
      have lg7 := bk_lt KG6.out
      replace KG6 := Lib.hid (bk_keep b7 (bk_lt KG6.out) KG6.out)
      replace KE6 := Lib.hid (bk_keep b7 (bk_lt KE6.out) KE6.out)
      replace KD6 := Lib.hid (bk_keep b7 (bk_lt KD6.out) KD6.out)
      replace KS6 := Lib.hid (bk_keep b7 (bk_lt KS6.out) KS6.out)
      replace F6 := Lib.hid (F6.out.trans (b7.mono F6.out.size))
      have s7 := b7.size
      clear hG7 b7 lg7
      obtain ⟨ge2, hge2⟩ : ∃ x, x = gE src dst D' := ⟨_, rfl⟩
      rw [← hge2] at HGE2 ⊢
      clear hge2
      generalize gF src dst D' = pf
      generalize gT src dst D' = pt
      generalize gD src dst D' = pd
      obtain ⟨lg, hlg⟩ : ∃ lg, lg = (decide (i = 4) || decide (i = 5)) := ⟨_, rfl⟩
      have HLG := Lib.hid hlg
      clear hlg
      go_upto_region 13 with fail
      go_cut [16] (fun s16 wx => s16 = .bool lg ∧ Hid (Below w7.heap.size w7 wx))
      case first =>
        have B8 : Hid (Below w7.heap.size w7 (w7.alloc (.cells (dgc pf pt A7 pd.length pd.length) 29 (0, 0)))) := Lib.hid ((Below.refl _ _).alloc (Nat.le_refl _) _)
        by_cases i4 : i = 4
        · have y4 : ((i : Int) == 4) = true := by simp; omega
          go_wp2_with fail
          go_meet
          exact ⟨by rw [HLG.out, i4]; rfl, B8⟩
        by_cases i5 : i = 5
        · have y4 : ((i : Int) == 4) = false := by simp; omega
          have y5 : ((i : Int) == 5) = true := by simp; omega
          go_wp2_with fail
          go_meet
          exact ⟨by rw [HLG.out, i5]; rfl, B8⟩
        · have y4 : ((i : Int) == 4) = false := by simp; omega
          have y5 : ((i : Int) == 5) = false := by simp; omega
          go_wp2_with fail
          go_meet
          exact ⟨by rw [HLG.out]; simp [i4, i5], B8⟩
      case rest =>
        obtain ⟨rfl, B8⟩ := hcut
        have b8 := B8.out
        replace KG6 := Lib.hid (bk_keep b8 (bk_lt KG6.out) KG6.out)
        replace KE6 := Lib.hid (bk_keep b8 (bk_lt KE6.out) KE6.out)
        replace KD6 := Lib.hid (bk_keep b8 (bk_lt KD6.out) KD6.out)
        replace KS6 := Lib.hid (bk_keep b8 (bk_lt KS6.out) KS6.out)
        replace F6 := Lib.hid (F6.out.trans (b8.mono F6.out.size))
        clear b8 B8
        go_upto_region 14 with fail
        go_cut [149] (fun s149 wx => s149 = .bool false ∧ wx = wc)
        case first =>
          cases lg with
          | true =>
            go_wp2_with fail
            go_meet
            exact ⟨rfl, rfl⟩
          | false =>
            have h45 := HLG.out
            simp at h45
            obtain rfl := HGE2.out h45.1 h45.2
            clear h45
            go_wp2_with fail
            go_meet
            exact ⟨rfl, rfl⟩
        case rest =>
          obtain ⟨rfl, hwc⟩ := hcut
          subst hwc
          have lgc := bk_lt KG6.out
          have hD'i : D'[i]? = some y := by rw [HD'.out, List.getElem?_set_self hil]
          have ui : wc.cell? ⟨g, i, none⟩ = some (B y) := own_cell KG6.out HTK6.out hD'i
          clear hD'i RD6
          go_wp2_with fail
          refine wp_region_later_tail (wc.heap.size) 13 (by kernel_rfl) (by kernel_rfl) ?_
          simp only [List.take_succ_cons, List.take_zero, List.drop_succ_cons, List.drop_zero]
          repeat (go_big_quiet_step ((fail)))
          (first | refine wpQuiet_nil ?_ | (go_big_quiet_want; (try go_big_quiet_op); trace_state; fail))
          intro w9 hw'
          have q9 := later_elim hw'
          clear hw'
          replace F6 := Lib.hid (F6.out.trans (q9.mono F6.out.size))
          replace KE6 := Lib.hid (bk_keep q9 (bk_lt KE6.out) KE6.out); replace KG6 := Lib.hid (bk_keep q9 lgc KG6.out)
          have ui5 : w9.cell? ⟨g, i, none⟩ = some (B y) := (q9.cell (p := ⟨g, i, none⟩) lgc).trans ui
          have fz5 := bk_frozen KG6.out i
          clear q9 ui KD6 KS6
          -- the end that is turned
          obtain ⟨j, hj⟩ : ∃ j, j = q % 16 := ⟨_, rfl⟩
          have hj16 : j < 16 := by omega
          have mj1 : (q : Int).tmod 16 = (j : Int) := by rw [hj, Int.tmod_eq_emod_of_nonneg (by omega)]; simp
          have mj2 : (q : Int) % 16 = (j : Int) := by rw [hj]; simp
          have hj16' : (j : Int) < 16 := by omega
          clear hj
          obtain ⟨s, hs⟩ : ∃ s, s = src[j] := ⟨_, rfl⟩
          obtain ⟨s', hs'⟩ : ∃ s', s' = flipB s 0 := ⟨_, rfl⟩
          have hbs : bits BinOp.xor IntKind.u8 (s.toNat : Int) 1 = (s'.toNat : Int) := by rw [hs']; exact bits_one s
          have hEj : E[j]? = some s := by
            have e := congrArg (fun l => l[j]?) q0
            simp only [sl, List.extract_eq_take_drop, Nat.zero_add, Nat.sub_zero, List.drop_zero] at e
            rw [List.getElem?_take_of_lt (by omega), List.getElem?_eq_getElem (show j < src.length by omega)] at e
            rw [e, hs]
          have hss : s' ≠ src[j] := by rw [hs', ← hs]; exact flipB_ne s 0 (by omega)
          have us : w9.cell? ⟨w.heap.size, j, none⟩ = some (B s) := by rw [bk_cell KE6.out]; simp [hEj]
          have fzs := bk_frozen KE6.out j
          have hgn : ¬ g = w.heap.size := by omega
          have HSS := Lib.hid hss
          clear hs hs' hEj hss
          go_upto_region 18 with fail
          have F10 : Hid (Below w.heap.size w ((w9.setCell ⟨g, i, none⟩ (B x)).setCell ⟨w.heap.size, j, none⟩ (B s'))) := Lib.hid ((F6.out.setCell (p := ⟨g, i, none⟩) (show w.heap.size ≤ g by omega) _).setCell (p := ⟨w.heap.size, j, none⟩) (Nat.le_refl _) _)
          have HTK10 := Lib.hid (take_put (i := i) HTK6.out x)
          rw [HDD.out] at HTK10
          have KG10 : Hid (bk ((w9.setCell ⟨g, i, none⟩ (B x)).setCell ⟨w.heap.size, j, none⟩ (B s')) g = some (.cells ((cur.setIfInBounds i (B y)).setIfInBounds i (B x)) 5 (0, 0))) := Lib.hid (by rw [bk_setCell_other _ _ _ _ _ hgn, bk_setCell_same, KG6.out]; rfl)
          obtain ⟨E', hE'⟩ : ∃ E', E' = E.set j s' := ⟨_, rfl⟩
          have KE10 : Hid (bk ((w9.setCell ⟨g, i, none⟩ (B x)).setCell ⟨w.heap.size, j, none⟩ (B s')) w.heap.size = some (.cells (List.map B E').toArray 25 (0, 0))) := Lib.hid (by rw [bk_setCell_same, bk_setCell_other _ _ _ _ _ hneg, KE6.out, hE', List.map_set]; simp [putObj])
          have q0' : sl E' 0 16 = src.set j s' := by rw [hE', ← q0]; simp only [sl, List.extract_eq_take_drop, List.drop_zero, List.take_set]
          have q1' : sl E' 16 16 = dst := by rw [hE', ← q1]; simp only [sl, List.extract_eq_take_drop]; rw [List.drop_set_of_lt (by omega)]
          have qn' : E'.length = 32 := by rw [hE', List.length_set]; exact qn
          clear hE' us fzs ui5 fz5 KE6 KG6 F6
          generalize (w9.setCell ⟨g, i, none⟩ (B x)).setCell ⟨w.heap.size, j, none⟩ (B s') = w10 at *
          have vKE10 := KE10.out; have wKE10 := bk_lt vKE10
          obtain ⟨sr, hsr⟩ : ∃ sr, sr = src.set j s' := ⟨_, rfl⟩
          rw [← hsr] at q0'
          have hsrl : sr.length = 16 := by rw [hsr, List.length_set]; exact h1
          have hE6 : gE sr dst D = 6 := by rw [hsr, HD.out]; exact gE_ends h1 h2 (by omega) j hj16 s' HSS.out
          have HE6 := Lib.hid hE6
          have RD10 : Rd w10 w10.heap.size (some ⟨g, 0, none⟩) D := Rd.of_take KG10.out HTK10.out (bk_lt KG10.out)
          clear hsr hE6 HTK10 KG10
          go_wp2_with fail
          refine (dget_any sr dst (some ⟨g, 0, none⟩) D c1 w10 hsrl h2 RD10 (fun h => by cases h) hcu (by omega)).mono ?_
          rintro e w11 ⟨A11, rfl, _, b11⟩
          replace F10 := Lib.hid (F10.out.trans (b11.mono F10.out.size))
          rw [HE6.out]
          clear b11 RD10
          go_wp2_with fail
          have b12 := (Below.refl w11.heap.size w11).alloc (Nat.le_refl _) (.cells (dgc (gF sr dst D) (gT sr dst D) A11 (gD sr dst D).length (gD sr dst D).length) 29 (0, 0))
          refine (lives16_any _).mono ?_
          rintro e w13 ⟨rfl, b13⟩
          replace F10 := Lib.hid (F10.out.trans ((b12.trans (b13.mono b12.size)).mono F10.out.size))
          clear b12 b13
          go_wp2_with fail
          go_ret
          exact ⟨rfl, F10.out⟩
theorem datagramsBack_long (src dst : List UInt8) (f t : Nat) (A : Option Addr) (n c : Nat) (Z : Option Addr) (zn zc at' : Nat) (w : World) (h1 : src.length = 16) (h2 : dst.length = 16) (hl : 3000 < n ∨ 500 < zn) :
    Calls Try.prog 5 #[av (src ++ dst), .agg (dgc f t A n c), .agg (spc Z zn zc at')] w fun e w' => e = .returned (.bool true) ∧ Below w.heap.size w w' := by
  obtain ⟨E, hE⟩ : ∃ E, E = src ++ dst := ⟨_, rfl⟩
  have q0 : sl E 0 16 = src := by rw [hE]; exact sl_src h1
  have q1 : sl E 16 16 = dst := by rw [hE]; exact sl_dst h1 h2
  have qn : E.length = 32 := by rw [hE, List.length_append]; omega
  rw [← hE]
  clear hE
  by_cases h3 : 3000 < n
  · have d1 : decide (3000 < (n : Int)) = true := by simp; omega
    have d2 : decide (3000 < n) = true := by simp; omega
    go_enter Try.func5, Try.ntmps5
    go_wp2_with fail
    have a0 : Below w.heap.size w (((w.alloc (.cells (List.map B E).toArray 25)).alloc (.cells (dgc f t A n c) 29)).alloc (.cells (spc Z zn zc at') 47)) := (by (repeat (first | exact Below.refl _ _ | assumption | refine Below.drew ?_ | refine bdrewN ?_ _ | refine Below.alloc ?_ (by first | omega | (simp <;> omega) | (simp only [World.size_alloc] <;> omega)) _ | refine below_setRow ?_ (by first | omega | (simp <;> omega)) _ | refine Below.setCell ?_ (by first | omega | (simp <;> omega)) _)))
    have KD := bk_alloc_at (w.alloc (.cells (List.map B E).toArray 25)) (.cells (dgc f t A n c) 29 (0, 0)) (w.heap.size + 1) (by simp)
    have KD' := (bk_alloc_past _ (.cells (spc Z zn zc at') 47 (0, 0)) _ (bk_lt KD)).trans KD
    have KS := bk_alloc_at ((w.alloc (.cells (List.map B E).toArray 25)).alloc (.cells (dgc f t A n c) 29 (0, 0))) (.cells (spc Z zn zc at') 47 (0, 0)) (w.heap.size + 1 + 1) (by simp)
    have cs0 := (bk_cell KS 0).trans spc_s
    have cd2 := (bk_cell KD' 2).trans dgc_data
    clear KD KD' KS
    go_wp2_with fail
    refine (lives16_any _).mono ?_
    rintro e w1 ⟨rfl, b1⟩
    go_wp2_with fail
    go_ret
    exact ⟨rfl, a0.trans (b1.mono a0.size)⟩
  · have d1 : decide (3000 < (n : Int)) = false := by simp; omega
    have d2 : decide (3000 < n) = false := by simp; omega
    have d3 : decide (500 < (zn : Int)) = true := by simp; omega
    have d4 : decide (500 < zn) = true := by simp; omega
    go_enter Try.func5, Try.ntmps5
    go_wp2_with fail
    have a0 : Below w.heap.size w (((w.alloc (.cells (List.map B E).toArray 25)).alloc (.cells (dgc f t A n c) 29)).alloc (.cells (spc Z zn zc at') 47)) := (by (repeat (first | exact Below.refl _ _ | assumption | refine Below.drew ?_ | refine bdrewN ?_ _ | refine Below.alloc ?_ (by first | omega | (simp <;> omega) | (simp only [World.size_alloc] <;> omega)) _ | refine below_setRow ?_ (by first | omega | (simp <;> omega)) _ | refine Below.setCell ?_ (by first | omega | (simp <;> omega)) _)))
    have KD := bk_alloc_at (w.alloc (.cells (List.map B E).toArray 25)) (.cells (dgc f t A n c) 29 (0, 0)) (w.heap.size + 1) (by simp)
    have KD' := (bk_alloc_past _ (.cells (spc Z zn zc at') 47 (0, 0)) _ (bk_lt KD)).trans KD
    have KS := bk_alloc_at ((w.alloc (.cells (List.map B E).toArray 25)).alloc (.cells (dgc f t A n c) 29 (0, 0))) (.cells (spc Z zn zc at') 47 (0, 0)) (w.heap.size + 1 + 1) (by simp)
    have cs0 := (bk_cell KS 0).trans spc_s
    have cd2 := (bk_cell KD' 2).trans dgc_data
    clear KD KD' KS
    go_wp2_with fail
    refine (lives16_any _).mono ?_
    rintro e w1 ⟨rfl, b1⟩
    go_wp2_with fail
    go_ret
    exact ⟨rfl, a0.trans (b1.mono a0.size)⟩
end Go.Proofs.Yteeiihfbnkgcaaa

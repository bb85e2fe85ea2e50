/- SegmentsForm, walked. -/
import Derived.Test.YtojddfbbeiobpaaQ17
namespace Go.Proofs.Ytojddfbbeiobpaa
open Go.RowKit
set_option maxRecDepth 100000
theorem segmentsForm_long (src dst : List UInt8) (s : Sg) (A : Option Addr) (n c : Nat) (zk zl : UInt8) (zm : Nat) (w : World) (h1 : src.length = 16) (h2 : dst.length = 16) (hl : 1000 < n) :
    Calls Try.prog 7 #[av (src ++ dst), .agg (sgc s A n c), .agg (otc zk zl zm)] w fun e w' => e = .returned (.bool true) ∧ Below w.heap.size w w' := by
  obtain ⟨E, hE⟩ : ∃ E, E = src ++ dst := ⟨_, rfl⟩
  have q0 : sl E 0 16 = src := by rw [hE]; exact sl_src h1
  have q1 : sl E 16 16 = dst := by rw [hE]; exact sl_dst h1 h2
  have qn : E.length = 32 := by rw [hE, List.length_append]; omega
  rw [← hE]
  clear hE
  go_enter Try.func7, Try.ntmps7
  have a0 : Below w.heap.size w (((w.alloc (.cells (List.map B E).toArray 25)).alloc (.cells (sgc s A n c) 30)).alloc (.cells (otc zk zl zm) 50)) := (by (repeat (first | exact Below.refl _ _ | assumption | refine Below.drew ?_ | refine bdrewN ?_ _ | refine Below.alloc ?_ (by first | omega | (simp <;> omega) | (simp only [World.size_alloc] <;> omega)) _ | refine below_setRow ?_ (by first | omega | (simp <;> omega)) _ | refine Below.setCell ?_ (by first | omega | (simp <;> omega)) _)))
  have KE : Hid (bk (((w.alloc (.cells (List.map B E).toArray 25)).alloc (.cells (sgc s A n c) 30)).alloc (.cells (otc zk zl zm) 50)) w.heap.size = some (.cells (List.map B E).toArray 25 (0, 0))) := Lib.hid (by rw [bk_alloc_past _ _ _ (by simp <;> omega), bk_alloc_past _ _ _ (by simp)]; exact bk_alloc_at _ _ _ rfl)
  have KD : Hid (bk (((w.alloc (.cells (List.map B E).toArray 25)).alloc (.cells (sgc s A n c) 30)).alloc (.cells (otc zk zl zm) 50)) (w.heap.size + 1) = some (.cells (sgc s A n c) 30 (0, 0))) := Lib.hid (by rw [bk_alloc_past _ _ _ (by simp)]; exact bk_alloc_at _ _ _ (by simp))
  have KO : Hid (bk (((w.alloc (.cells (List.map B E).toArray 25)).alloc (.cells (sgc s A n c) 30)).alloc (.cells (otc zk zl zm) 50)) (w.heap.size + 1 + 1) = some (.cells (otc zk zl zm) 50 (0, 0))) := Lib.hid (bk_alloc_at _ _ _ (by simp))
  have F := Lib.hid a0
  have cd6 := (bk_cell KD.out 6).trans sgc_6
  have fd6 := bk_frozen KD.out 6
  have cd7 := (bk_cell KD.out 7).trans sgc_7
  have lD := bk_lt KD.out
  clear a0
  go_upto_region 1 with fail
  generalize ((w.alloc (.cells (List.map B E).toArray 25)).alloc (.cells (sgc s A n c) 30)).alloc (.cells (otc zk zl zm) 50) = w0 at *
  have d1 : decide (1000 < (n : Int)) = true := by simp; omega
  have d2 : decide (1000 < n) = true := by simp; omega
  go_wp2_with fail
  refine (lives17_any _).mono ?_
  rintro e w1 ⟨rfl, b1⟩
  go_wp2_with fail
  go_ret
  exact ⟨rfl, F.out.trans (b1.mono F.out.size)⟩
/-- Options that may not be. -/
def badl (k : UInt8) : Nat → List UInt8
  | 0 => [k, 0, 0, 0]
  | 1 => [k, 1, 0, 0]
  | 2 => [k, 5, 0, 0]
  | 3 => [1, 1, 1, k]
  | _ => [1, k, 4, 0]
theorem badl_length (k : UInt8) (j : Nat) : (badl k j).length = 4 := by unfold badl; split <;> rfl
theorem badl_none (k : UInt8) (hk : 2 ≤ k.toNat) (j : Nat) : omss (badl k j) = none := by
  unfold badl
  split
  · exact bad1 k hk 0 0 0 (.inl (by decide))
  · exact bad1 k hk 1 0 0 (.inl (by decide))
  · exact bad1 k hk 5 0 0 (.inr (by decide))
  · exact bad4 k hk
  · exact bad5 k hk
set_option maxHeartbeats 2000000 in
theorem segmentsForm_walk (src dst : List UInt8) (s : Sg) (A : Option Addr) (l : List UInt8) (c : Nat) (zk zl : UInt8) (zm : Nat) (w : World) (h1 : src.length = 16) (h2 : dst.length = 16) (hs : s.Ok) (h : Rd w w.heap.size A l) (hA : A = none → l = [] ∧ c = 0) (hl : l.length ≤ 1000) :
    Calls Try.prog 7 #[av (src ++ dst), .agg (sgc s A l.length c), .agg (otc zk zl zm)] w fun e w' => e = .returned (.bool true) ∧ Below w.heap.size w w' := by
  have R0 := Lib.hid h; have HA := Lib.hid hA
  clear h hA
  obtain ⟨n, hn⟩ : ∃ n, n = l.length := ⟨_, rfl⟩
  have HN := Lib.hid hn
  have d1 : decide (1000 < (n : Int)) = false := by simp; omega
  have d2 : decide (1000 < n) = false := by simp; omega
  rw [← hn]
  have hn1 : n ≤ 1000 := by omega
  clear hn hl
  obtain ⟨E, hE⟩ : ∃ E, E = src ++ dst := ⟨_, rfl⟩
  have q0 : sl E 0 16 = src := by rw [hE]; exact sl_src h1
  have q1 : sl E 16 16 = dst := by rw [hE]; exact sl_dst h1 h2
  have qn : E.length = 32 := by rw [hE, List.length_append]; omega
  rw [← hE]
  clear hE
  have hEE : E = src ++ dst := by
    rw [← q0, ← q1]
    simp only [sl, List.extract_eq_take_drop, List.drop_zero]
    rw [show (16 : Nat) + 16 - 16 = 16 from rfl, List.take_of_length_le (l := List.drop 16 E) (by rw [List.length_drop]; omega)]
    exact (List.take_append_drop 16 E).symm
  have HEE := Lib.hid hEE
  clear hEE
  go_enter Try.func7, Try.ntmps7
  have a0 : Below w.heap.size w (((w.alloc (.cells (List.map B E).toArray 25)).alloc (.cells (sgc s A n c) 30)).alloc (.cells (otc zk zl zm) 50)) := (by (repeat (first | exact Below.refl _ _ | assumption | refine Below.drew ?_ | refine bdrewN ?_ _ | refine Below.alloc ?_ (by first | omega | (simp <;> omega) | (simp only [World.size_alloc] <;> omega)) _ | refine below_setRow ?_ (by first | omega | (simp <;> omega)) _ | refine Below.setCell ?_ (by first | omega | (simp <;> omega)) _)))
  have KE : Hid (bk (((w.alloc (.cells (List.map B E).toArray 25)).alloc (.cells (sgc s A n c) 30)).alloc (.cells (otc zk zl zm) 50)) w.heap.size = some (.cells (List.map B E).toArray 25 (0, 0))) := Lib.hid (by rw [bk_alloc_past _ _ _ (by simp <;> omega), bk_alloc_past _ _ _ (by simp)]; exact bk_alloc_at _ _ _ rfl)
  have KD : Hid (bk (((w.alloc (.cells (List.map B E).toArray 25)).alloc (.cells (sgc s A n c) 30)).alloc (.cells (otc zk zl zm) 50)) (w.heap.size + 1) = some (.cells (sgc s A n c) 30 (0, 0))) := Lib.hid (by rw [bk_alloc_past _ _ _ (by simp)]; exact bk_alloc_at _ _ _ (by simp))
  have KO : Hid (bk (((w.alloc (.cells (List.map B E).toArray 25)).alloc (.cells (sgc s A n c) 30)).alloc (.cells (otc zk zl zm) 50)) (w.heap.size + 1 + 1) = some (.cells (otc zk zl zm) 50 (0, 0))) := Lib.hid (bk_alloc_at _ _ _ (by simp))
  have F := Lib.hid a0
  have cd6 := (bk_cell KD.out 6).trans sgc_6
  have fd6 := bk_frozen KD.out 6
  have cd7 := (bk_cell KD.out 7).trans sgc_7
  have lD := bk_lt KD.out
  clear a0
  go_upto_region 1 with fail
  generalize ((w.alloc (.cells (List.map B E).toArray 25)).alloc (.cells (sgc s A n c) 30)).alloc (.cells (otc zk zl zm) 50) = w0 at *
  obtain ⟨s0, hs0e⟩ : ∃ s0 : Sg, s0 = { s with ms := 0 } := ⟨_, rfl⟩
  have hs0 : s0.Ok := by rw [hs0e]; exact ⟨hs.f, hs.t, hs.sq, hs.ak, hs.wi, show 0 < 65536 by decide⟩
  have n0 := bk_lt KO.out
  go_upto_region 4 with fail
  have hne : ¬ w.heap.size = w.heap.size + 1 := by omega
  have hne2 : ¬ w.heap.size + 1 + 1 = w.heap.size + 1 := by omega
  have KD1 : Hid (bk (w0.setCell ⟨w.heap.size + 1, 6, none⟩ (.int .u16 0)) (w.heap.size + 1) = some (.cells (sgc s0 A n c) 30 (0, 0))) := Lib.hid (by rw [bk_setCell_same, KD.out, hs0e]; rfl)
  replace KE := Lib.hid ((bk_setCell_other w0 (w.heap.size + 1) 6 w.heap.size (.int .u16 0) hne).trans KE.out)
  replace KO := Lib.hid ((bk_setCell_other w0 (w.heap.size + 1) 6 (w.heap.size + 1 + 1) (.int .u16 0) hne2).trans KO.out)
  replace F := Lib.hid (F.out.setCell (p := ⟨w.heap.size + 1, 6, none⟩) (Nat.le_succ _) (.int .u16 0))
  have HS0 := Lib.hid hs0e
  clear cd6 fd6 cd7 lD KD hne hne2 hs0e n0
  generalize w0.setCell ⟨w.heap.size + 1, 6, none⟩ (.int .u16 0) = w5 at *
  have ke := KE.out
  have le := bk_lt ke
  have kz := KD1.out
  have lz := bk_lt kz
  have e20 : sahd s0 = 20 := by rw [HS0.out]; rfl
  have C := sput_any src dst s0 hs0 A l c w5 h1 h2 ((R0.out.below F.out (Nat.le_refl _)).mono F.out.size) HA.out (by rw [e20, ← HN.out]; omega)
  rw [← HN.out] at C
  have HC := Lib.hid C
  clear C
  go_wp2_with fail
  refine HC.out.mono ?_
  rintro e w6 ⟨v6, rfl, ho6, b6⟩
  clear HC ke le kz lz
  obtain ⟨cs, hcs⟩ : ∃ cs, cs = ssum src dst s0 l := ⟨_, rfl⟩
  obtain ⟨D0, hD0⟩ : ∃ D, D = sgb src dst s0 l := ⟨_, rfl⟩
  have hD0e : D0 = shead s0 cs ++ l := by rw [hD0, hcs]; unfold sgb; rw [show sopt s0 = [] by unfold sopt; rw [HS0.out]; rfl]; rfl
  have hDl : D0.length = 20 + n := by rw [hD0e, List.length_append, shead_length, HN.out]
  rw [← hD0] at ho6
  obtain ⟨A6, c6, rfl, _⟩ := Rd.of_own ho6 rfl
  obtain ⟨g, cur, rfl, hg, hgs, hcu, hlc, htk⟩ := own_parts ho6 (by omega)
  have RD := Lib.hid (Rd.of_take hg htk (bk_lt hg))
  have HDe := Lib.hid hD0e
  have w56 := KD1.out
  have cd7 := (bk_cell (bk_keep b6 (bk_lt KD1.out) KD1.out) 7).trans sgc_7
  have lD := bk_lt (bk_keep b6 (bk_lt KD1.out) KD1.out)
  replace KE := Lib.hid (bk_keep b6 (bk_lt KE.out) KE.out); replace KO := Lib.hid (bk_keep b6 (bk_lt KO.out) KO.out)
  replace F := Lib.hid (F.out.trans (b6.mono F.out.size))
  rw [hDl]
  rw [hDl] at hcu
  have x2 : 20 ≤ c6 := by omega
  have x1 : 20 ≤ 20 + n := by omega
  have x3 : decide (20 ≤ 20 + n) = true := by simp
  have x4 : decide (20 ≤ c6) = true := by simp; omega
  have HCU := Lib.hid hcu; have HDl := Lib.hid hDl
  have w20 : IntKind.i64.wrap (20 + (n : Int)) = 20 + (n : Int) := by rw [IntKind.wrap_i64]; omega
  have y20 : ((20 + (n : Int)) != 20 + (n : Int)) = false := by simp
  clear b6 ho6 hg htk hcs hD0 hD0e hDl hgs hcu hlc w56 KD1
  have co0 := (bk_cell KO.out 0).trans otc_0
  have co1 := (bk_cell KO.out 1).trans otc_1
  have lO := bk_lt KO.out
  obtain ⟨m, hm⟩ : ∃ m, m = zl.toNat % 16 := ⟨_, rfl⟩
  have em : (zl.toNat : Int) % 16 = (m : Int) := by rw [hm]; push_cast; rfl
  have hm16 : m < 16 := by omega
  clear hm
  go_upto_region 8 with fail
  clear cd7 lD co1 em
  go_wp2_with (at_builtin; refine append_rd rfl _ _ rfl w6.heap.size (.slice none 0 0) 0 [] rfl (World.ownsRow_nil _ _ _ _) (some ⟨g, 0, none⟩) D0 c6 (by rw [HDl.out]; rfl) (fun h => by cases h) RD.out (by rw [HDl.out]; omega) (Nat.le_refl _) ?_)
  intro v7 w7 hown hgrow
  have b7 : Below w6.heap.size w6 w7 := (Below.refl _ _).grown hgrow (Nat.le_refl _) (fun k hk => by simp [Value.ownBlock] at hk)
  have ho7 : w7.ownsRow w6.heap.size 5 1 v7 D0.length (D0.map B) := by simpa using hown
  obtain ⟨A7, c7, rfl, _⟩ := Rd.of_own ho7 rfl
  rw [HDl.out] at ho7 ⊢
  obtain ⟨g7, cur7, rfl, hg7, hgs7, hcu7, hlc7, htk7⟩ := own_parts ho7 (by omega)
  have HO7 := Lib.hid ho7
  have lO6 := lO
  have n6 := F.out.size
  replace KE := Lib.hid (bk_keep b7 (bk_lt KE.out) KE.out); replace KO := Lib.hid (bk_keep b7 lO KO.out)
  replace F := Lib.hid (F.out.trans (b7.mono F.out.size))
  replace RD := Lib.hid ((RD.out.below b7 (Nat.le_refl _)))
  have u12 := bk_cell hg7 12
  rw [Array.getElem?_eq_getElem (by omega)] at u12
  have z12 := bk_frozen hg7 12
  generalize cur7[12]'(by omega) = cu12 at u12
  obtain ⟨y12, hy12⟩ : ∃ y, y = UInt8.ofNat (16 * m) := ⟨_, rfl⟩
  have ey12 : 16 * (m : Int) = (y12.toNat : Int) := by rw [hy12, UInt8.toNat_ofNat']; omega
  have i12 : (12 : Int) < 20 + (n : Int) := by omega
  have HY := Lib.hid hy12
  have hgw : w.heap.size + 1 + 1 < g7 := by omega
  clear hy12 hg7 htk7 b7 hown hgrow ho7 co0 lO hlc7
  go_upto_region 10 with fail
  obtain ⟨M, hM⟩ : ∃ M, M = (shead s0 cs ++ l).set 12 y12 := ⟨_, rfl⟩
  have hMl : M.length = 20 + n := by rw [hM, List.length_set, ← HDe.out, HDl.out]
  have HO8 : Hid ((w7.setCell ⟨g7, 12, none⟩ (B y12)).ownsRow w6.heap.size 5 1 (.slice (some ⟨g7, 0, none⟩) (20 + n) c7) (20 + n) (M.map B)) := Lib.hid (by
    have o := own_set (j := 12) HO7.out y12
    rw [hM, ← HDe.out]; exact o)
  have hne0 : ¬ w.heap.size = g7 := by omega
  have hne1 : ¬ w.heap.size + 1 + 1 = g7 := by omega
  replace KE := Lib.hid ((bk_setCell_other w7 g7 12 w.heap.size (B y12) hne0).trans KE.out)
  replace KO := Lib.hid ((bk_setCell_other w7 g7 12 (w.heap.size + 1 + 1) (B y12) hne1).trans KO.out)
  replace F := Lib.hid (F.out.setCell (p := ⟨g7, 12, none⟩) (show w.heap.size ≤ g7 by omega) (B y12))
  replace RD := Lib.hid ((RD.out.below ((Below.refl w6.heap.size w7).setCell (p := ⟨g7, 12, none⟩) hgs7 (B y12)) (Nat.le_refl _)).mono (show w6.heap.size ≤ (w7.setCell ⟨g7, 12, none⟩ (B y12)).heap.size by have := bk_lt KE.out; simp [World.setCell] at this ⊢; have := HO7.out.lt g7 rfl; omega))
  have RM : Hid (Rd (w7.setCell ⟨g7, 12, none⟩ (B y12)) (w7.setCell ⟨g7, 12, none⟩ (B y12)).heap.size (some ⟨g7, 0, none⟩) M) := Lib.hid (by
    have o := HO8.out
    rw [← hMl] at o
    obtain ⟨A', c', e, hr, _⟩ := Rd.of_own o rfl
    cases e
    exact hr)
  have HM := Lib.hid hM; have HML := Lib.hid hMl
  clear hM HO7 u12 z12 ey12 hne0 hne1 hMl HO8
  generalize w7.setCell ⟨g7, 12, none⟩ (B y12) = w8 at *
  obtain ⟨ge, hge⟩ : ∃ x, x = zE src dst (fixc src dst 6 16 M) := ⟨_, rfl⟩
  obtain ⟨sq, hsq⟩ : ∃ x, x = zS src dst (fixc src dst 6 16 M) := ⟨_, rfl⟩
  obtain ⟨pd, hpd⟩ : ∃ x, x = zD src dst (fixc src dst 6 16 M) := ⟨_, rfl⟩
  have GE : Hid (m < 5 ∨ 20 + n < 4 * m → ge = 4) := Lib.hid (fun h => by
    rw [hge, HM.out, HY.out]
    exact told_E h1 h2 hm16 (by rw [← HN.out]; exact h))
  obtain ⟨D8, hD8⟩ : ∃ D, D = fixc src dst 6 16 M := ⟨_, rfl⟩
  have hD8l : D8.length = 20 + n := by rw [hD8, fixc_length, HML.out]
  rw [← hD8] at hge hsq hpd
  have EQ := Lib.hid (And.intro hge.symm (And.intro hsq.symm hpd.symm))
  have HD8 := Lib.hid hD8; have HD8L := Lib.hid hD8l
  clear hD8 hD8l hge hsq hpd
  have ke := (KE).out
  have le := bk_lt ke
  obtain ⟨M6, hM6⟩ : ∃ M : MadeW (w8).heap.size, M = MadeW.own _ [] D8 := ⟨_, rfl⟩
  obtain ⟨M7, hM7⟩ : ∃ M : MadeW (w8).heap.size, M = MadeW.gots _ (fun A => .tuple #[.agg (sgc sq A (pd).length (pd).length), .int .i64 ge]) pd := ⟨_, rfl⟩
  obtain ⟨M11, hM11⟩ : ∃ M : MadeW (w8).heap.size, M = MadeW.row _ (fun b => .pointer (some ⟨b, 0, none⟩)) (sgc Sg.zero none 0 0) 30 := ⟨_, rfl⟩
  have H6 := Lib.hid hM6; have H7 := Lib.hid hM7; have H11 := Lib.hid hM11
  clear hM6 hM7 hM11
  refine wp_region_e ((w8).heap.size) ([.own 6 H6, .gots 7 H7, .row 11 H11, .store (w8).heap.size 12 30 [11, 65]]) (fun k => (([(7, [6]), (12, [11])] : List (Nat × List Nat)).lookup k).getD []) (Fs.nil) (by first | omega | (simp <;> omega)) (by kernel_rfl) (by kernel_rfl) (by kernel_rfl) (by kernel_rfl) EnvW.Ini.nil ?_
  refine walkW_segn 6 [] facts0 noneHx (by kernel_rfl) (by kernel_rfl) ?_
  simp only [List.take_succ_cons, List.take_zero, List.drop_succ_cons, List.drop_zero, Nat.reduceAdd]
  repeat (go_big_quiet_step (fail))
  (first | refine wpQuiet_nil ?_ | (go_big_quiet_want; (try go_big_quiet_op); trace_state; fail))
  refine walkW_mk (fun _ => M6) [] M6 ([]) facts0 (by kernel_rfl) (by kernel_rfl) (by kernel_rfl) rfl rfl (fun w' hb' hg' => ?_) (fun v6 h6 => ?_)
  · unfold madeAtW
    go_simp
    ((have C := right_any src dst (some ⟨g7, 0, none⟩) M c7 w' h1 h2 (((RM).out.below hb' (Nat.le_refl _)).mono hb'.size) (fun h => by cases h) (by rw [(HML).out]; omega) (by rw [(HML).out]; omega); rw [(HML).out, ← HEE.out, ← (HD8).out] at C; refine C.mono ?_; rintro e w2 ⟨v, rfl, ho, hb⟩; exact own_end H6 hb hb'.size (by rw [(HD8L).out]; exact ho)))
  obtain ⟨A9, c9, rfl, n9, _⟩ := own_T H6 h6
  simp only [Act.put, List.setIfInBounds_toArray, List.set_cons_succ, List.set_cons_zero, Nat.reduceAdd]
  refine walkW_mk (fun _ => M7) [] M7 ([(6, M6.R (.slice A9 (D8).length c9))]) (facts1 fun w h => h.1 rfl) (by kernel_rfl) (by kernel_rfl) (by kernel_rfl) rfl rfl (fun w' hb' hg' => ?_) (fun v7 h7 => ?_)
  · unfold madeAtW
    go_simp
    ((refine (sget_any src dst A9 D8 c9 w' h1 h2 (own_Rd H6 (hg' _ (.head _))) n9 (by rw [(HD8L).out]; omega)).mono ?_; rintro e w2 ⟨A', rfl, hG, hb⟩; rw [(EQ).out.1, (EQ).out.2.1, (EQ).out.2.2] at *; exact gots_end H7 hb hb'.size (hG.lower hb'.size)))
  obtain ⟨A10, rfl⟩ := gots_T H7 h7
  simp only [Act.put, List.setIfInBounds_toArray, List.set_cons_succ, List.set_cons_zero, Nat.reduceAdd]
  refine walkW_segn 3 [] facts0 noneHx (by kernel_rfl) (by kernel_rfl) ?_
  simp only [List.take_succ_cons, List.take_zero, List.drop_succ_cons, List.drop_zero, Nat.reduceAdd]
  repeat (go_big_quiet_step (fail))
  (first | refine wpQuiet_nil ?_ | (go_big_quiet_want; (try go_big_quiet_op); trace_state; fail))
  refine walkW_mk (fun _ => M11) [] M11 ([]) facts0 (by kernel_rfl) (by kernel_rfl) (by kernel_rfl) rfl rfl (fun w' hb' hg' => ?_) (fun v11 h11 => ?_)
  · unfold madeAtW
    go_simp
    ((exact (row_mk (b := w'.heap.size) H11 ((Below.refl _ _).alloc (Nat.le_refl _) _) hb'.size hb'.size (bk_alloc_at _ _ _ rfl) :)))
  obtain ⟨b11, m11, rfl⟩ := row_T H11 h11
  simp only [Act.put, List.setIfInBounds_toArray, List.set_cons_succ, List.set_cons_zero, Nat.reduceAdd]
  refine walkW_mk (MadeW.storeAt _ 30) [.pointer (some ⟨b11, 0, none⟩), .agg (sgc sq A10 (pd).length (pd).length)] (MadeW.store _ b11 (sgc sq A10 (pd).length (pd).length) 30) ([(11, M11.R (.pointer (some ⟨b11, 0, none⟩)))]) (facts1 fun w h => h.1 rfl) (by kernel_rfl) (by kernel_rfl) (by kernel_rfl) rfl rfl (fun w' hb' hg' => ?_) (fun v hT => ?_)
  · exact storeRow_mk (n := 8) (by kernel_rfl) (Lib.hid rfl) (row_R H11 ptr_inj (hg' _ (.head _))) m11 rfl rfl sgc_size sgc_size sgc_ones
  clear hT
  simp only [Act.put]
  refine walkW_segn 1 [] facts0 noneHx (by kernel_rfl) (by kernel_rfl) ?_
  simp only [List.take_succ_cons, List.take_zero, List.drop_succ_cons, List.drop_zero, Nat.reduceAdd]
  repeat (go_big_quiet_step (fail))
  (first | refine wpQuiet_nil ?_ | (go_big_quiet_want; (try go_big_quiet_op); trace_state; fail))
  refine walkW_nil ?_
  intro w9 b9 hf
  have G9 := Lib.hid (gots_R H7 (fun A A' h => by simpa [sgc] using h) ((hf 7 (by kernel_rfl)).2.2.1 rfl))
  have KC := Lib.hid (store_R (Lib.hid rfl) ((hf 12 (by kernel_rfl)).1 rfl))
  clear hf H6 H7 H11 h6 h7 h11 M6 M7 M11 ke le
  replace KE := Lib.hid (bk_keep b9 (bk_lt KE.out) KE.out); replace KO := Lib.hid (bk_keep b9 (bk_lt KO.out) KO.out)
  replace F := Lib.hid (F.out.trans (b9.mono F.out.size))
  replace RD := Lib.hid ((RD.out.below b9 (Nat.le_refl _)).mono b9.size)
  clear b9 G9 KC EQ RM HML HD8 HD8L HM m11
  have w4 : IntKind.i64.wrap (4 * (m : Int)) = 4 * (m : Int) := by rw [IntKind.wrap_i64]; omega
  go_upto_region 11 with fail
  go_cut [79] (fun v wx => v = .bool false ∧ wx = w9)
  case first =>
    by_cases c1 : m < 5
    · have y1 : decide ((m : Int) < 5) = true := by simp; omega
      obtain rfl := GE.out (.inl c1)
      go_wp2_with fail
      go_meet
      exact ⟨rfl, rfl⟩
    have y1 : decide ((m : Int) < 5) = false := by simp; omega
    by_cases c2 : 20 + n < 4 * m
    · have y2 : decide (20 + (n : Int) < 4 * (m : Int)) = true := by simp; omega
      obtain rfl := GE.out (.inr c2)
      go_wp2_with fail
      go_meet
      exact ⟨rfl, rfl⟩
    · have y2 : decide (20 + (n : Int) < 4 * (m : Int)) = false := by simp; omega
      go_wp2_with fail
      go_meet
      exact ⟨rfl, rfl⟩
  case rest =>
    obtain ⟨rfl, hwc⟩ := hcut
    obtain rfl : wc = w9 := hwc
    have co0 := (bk_cell KO.out 0).trans otc_0
    have lO := bk_lt KO.out
    obtain ⟨kd, hkd⟩ : ∃ kd : UInt8, kd = if zk.toNat < 2 then 2 else zk := ⟨_, rfl⟩
    have hk2 : 2 ≤ kd.toNat := by rw [hkd]; split; decide; omega
    have emx : (if (zk.toNat : Int) < 2 then (2 : Int) else (zk.toNat : Int)) = (kd.toNat : Int) := by
      rw [hkd]
      by_cases h : zk.toNat < 2
      · rw [if_pos (by omega), if_pos h]; rfl
      · rw [if_neg (by omega), if_neg h]
    clear hkd GE w4
    go_upto_region 14 with fail
    clear emx co0 lO KO
    go_upto_region 15 with fail
    obtain ⟨T, hT⟩ : ∃ T, T = wc.heap.size := ⟨_, rfl⟩
    obtain ⟨W, hW⟩ : ∃ W, W = ((((((wc.alloc (.cells #[.int .u8 kd.toNat, .int .u8 0, .int .u8 0, .int .u8 0] 5)).alloc (.cells #[.int .u8 kd.toNat, .int .u8 1, .int .u8 0, .int .u8 0] 5)).alloc (.cells #[.int .u8 kd.toNat, .int .u8 5, .int .u8 0, .int .u8 0] 5)).alloc (.cells #[.int .u8 1, .int .u8 1, .int .u8 1, .int .u8 kd.toNat] 5)).alloc (.cells #[.int .u8 1, .int .u8 kd.toNat, .int .u8 4, .int .u8 0] 5)).alloc (.cells #[.slice (some ⟨wc.heap.size, 0, none⟩) 4 4, .slice (some ⟨wc.heap.size + 1, 0, none⟩) 4 4, .slice (some ⟨wc.heap.size + 1 + 1, 0, none⟩) 4 4, .slice (some ⟨wc.heap.size + 1 + 1 + 1, 0, none⟩) 4 4, .slice (some ⟨wc.heap.size + 1 + 1 + 1 + 1, 0, none⟩) 4 4] 28)) := ⟨_, rfl⟩
    rw [← hW]
    have b14 : Below wc.heap.size wc W := by rw [hW]; exact (by (repeat (first | exact Below.refl _ _ | assumption | refine Below.drew ?_ | refine bdrewN ?_ _ | refine Below.alloc ?_ (by first | omega | (simp <;> omega) | (simp only [World.size_alloc] <;> omega)) _ | refine below_setRow ?_ (by first | omega | (simp <;> omega)) _ | refine Below.setCell ?_ (by first | omega | (simp <;> omega)) _)))
    have HB : Hid (∀ j, j < 5 → bk W (T + j) = some (.cells ((badl kd j).map B).toArray 5 (0, 0))) := Lib.hid (fun j hj => by
      rw [hW, hT]
      obtain rfl | rfl | rfl | rfl | rfl : j = 0 ∨ j = 1 ∨ j = 2 ∨ j = 3 ∨ j = 4 := by omega
      · iterate 5 rw [bk_alloc_past _ _ _ (by simp <;> omega)]
        exact bk_alloc_at _ _ _ (by simp)
      · iterate 4 rw [bk_alloc_past _ _ _ (by simp <;> omega)]
        exact bk_alloc_at _ _ _ (by simp)
      · iterate 3 rw [bk_alloc_past _ _ _ (by simp <;> omega)]
        exact bk_alloc_at _ _ _ (by simp)
      · iterate 2 rw [bk_alloc_past _ _ _ (by simp <;> omega)]
        exact bk_alloc_at _ _ _ (by simp)
      · rw [bk_alloc_past _ _ _ (by simp <;> omega)]
        exact bk_alloc_at _ _ _ (by simp))
    have HT : Hid (∃ cur, bk W (wc.heap.size + 1 + 1 + 1 + 1 + 1) = some (.cells cur 28 (0, 0)) ∧ ∀ j, j < 5 → cur[j]? = some (.slice (some ⟨T + j, 0, none⟩) 4 4)) := Lib.hid (by
      rw [hW, hT]
      refine ⟨_, bk_alloc_at _ _ _ (by simp), fun j hj => ?_⟩
      obtain rfl | rfl | rfl | rfl | rfl : j = 0 ∨ j = 1 ∨ j = 2 ∨ j = 3 ∨ j = 4 := by omega
      all_goals rfl)
    replace KE := Lib.hid (bk_keep b14 (bk_lt KE.out) KE.out)
    replace F := Lib.hid (F.out.trans (b14.mono F.out.size))
    replace RD := Lib.hid ((RD.out.below b14 (Nat.le_refl _)).mono b14.size)
    obtain ⟨Tb, hTb⟩ : ∃ Tb, Tb = wc.heap.size + 1 + 1 + 1 + 1 + 1 := ⟨_, rfl⟩
    rw [← hTb] at HT ⊢
    clear hW hT b14 hTb
    go_wp2_with fail
    go_loopw [15] (fun i wr => ∃ k : Nat, k ≤ 5 ∧ i = .int .i64 k ∧ Hid (Below W.heap.size W wr)) (fun i _ => 5 - (intOf i).toNat)
    case atStart => exact ⟨0, by omega, rfl, Lib.hid (Below.refl _ _)⟩
    case round =>
      obtain ⟨k, hk, rfl, hBr⟩ := hrel
      have br := hBr.out
      by_cases hk5 : k < 5
      · have y1 : decide ((k : Int) < 5) = true := by simp; omega
        have hk5' : (k : Int) < 5 := by omega
        obtain ⟨curT, hcT, hcj⟩ := HT.out
        have hcTr := bk_keep br (bk_lt hcT) hcT
        have ck : wr.cell? ⟨Tb, k, none⟩ = some (.slice (some ⟨T + k, 0, none⟩) 4 4) := (bk_cell hcTr k).trans (hcj k hk5)
        have lTb := bk_lt hcTr
        have hbk := HB.out k hk5
        have hbkr := bk_keep br (bk_lt hbk) hbk
        have RK : Hid (Rd wr wr.heap.size (some ⟨T + k, 0, none⟩) (badl kd k)) := Lib.hid (Rd.of_bk hbkr (bk_lt hbkr) (fun j h => by simp [List.getElem?_eq_getElem h]))
        have KEr := Lib.hid (bk_keep br (bk_lt KE.out) KE.out)
        have Fr := Lib.hid (F.out.trans (br.mono F.out.size))
        have RDr := Lib.hid ((RD.out.below br (Nat.le_refl _)).mono br.size)
        have nw := F.out.size
        have nr := br.size
        clear br hcT hcj hcTr hbk hbkr
        go_upto_region 18 with fail
        go_cut [16] (fun v wx => ∃ A7 c7, v = .slice A7 (24 + n) c7 ∧ Hid (wx.ownsRow wr.heap.size 5 1 (.slice A7 (24 + n) c7) (24 + n) ((shead s0 cs ++ (badl kd k ++ l)).map B)) ∧ Hid (Below wr.heap.size wr wx))
        case first =>
          have hh20 := shead_length s0 cs
          have RH : Hid (Rd wr wr.heap.size (some ⟨g, 0, none⟩) (shead s0 cs)) := Lib.hid (by
            have h := RDr.out.take (m := 20)
            rwa [HDe.out, List.take_left' (by exact hh20)] at h)
          obtain ⟨H, hH⟩ : ∃ H, H = shead s0 cs := ⟨_, rfl⟩
          rw [← hH] at hh20 RH
          obtain ⟨X4, hX4⟩ : ∃ X, X = H ++ badl kd k := ⟨_, rfl⟩
          obtain ⟨X7, hX7⟩ : ∃ X, X = X4 ++ l := ⟨_, rfl⟩
          have lX4 : X4.length = 24 := by rw [hX4, List.length_append, hh20, badl_length]
          have lX7 : X7.length = 24 + n := by rw [hX7, List.length_append, lX4, HN.out]
          have HH := Lib.hid hh20; have HX4 := Lib.hid hX4; have HX7 := Lib.hid hX7; have LX4 := Lib.hid lX4; have LX7 := Lib.hid lX7; have HHe := Lib.hid hH
          clear hh20 hH hX4 hX7 lX4 lX7
          by_cases hc6 : c6 = 20
          · have RL : Hid (Rd wr wr.heap.size (some ⟨g, 0, none⟩) l) := Lib.hid (by
              have : l = [] := List.eq_nil_of_length_eq_zero (by have := HCU.out; have := HN.out; omega)
              rw [this]; exact Rd.nil)
            subst hc6
            obtain ⟨M2, hM2⟩ : ∃ M : MadeW wr.heap.size, M = MadeW.own _ [] H := ⟨_, rfl⟩
            obtain ⟨M4, hM4⟩ : ∃ M : MadeW wr.heap.size, M = MadeW.own _ [5] X4 := ⟨_, rfl⟩
            obtain ⟨M7, hM7⟩ : ∃ M : MadeW wr.heap.size, M = MadeW.own _ [5] X7 := ⟨_, rfl⟩
            have H2 := Lib.hid hM2; have H4 := Lib.hid hM4; have H7 := Lib.hid hM7
            clear hM2 hM4 hM7
            refine wp_region_e (wr.heap.size) ([.own 2 H2, .own 7 H4, .own 10 H7]) (fun k => (([(7, [2]), (10, [7])] : List (Nat × List Nat)).lookup k).getD []) (Fs.nil) (by first | omega | (simp <;> omega)) (by kernel_rfl) (by kernel_rfl) (by kernel_rfl) (by kernel_rfl) EnvW.Ini.nil ?_
            refine walkW_segn 2 [] facts0 noneHx (by kernel_rfl) (by kernel_rfl) ?_
            simp only [List.take_succ_cons, List.take_zero, List.drop_succ_cons, List.drop_zero, Nat.reduceAdd]
            repeat (go_big_quiet_step (fail))
            (first | refine wpQuiet_nil ?_ | (go_big_quiet_want; (try go_big_quiet_op); trace_state; fail))
            refine walkW_mk (fun _ => M2) [] M2 ([]) facts0 (by kernel_rfl) (by kernel_rfl) (by kernel_rfl) rfl rfl (fun w' hb' hg' => ?_) (fun v2 h2 => ?_)
            · ((exact append_mk rfl H2 (l1 := []) (l2 := H) rfl rfl (World.ownsRow_nil _ _ _ _) rfl HH.out.symm (fun h => by cases h) ((RH.out.below hb' (Nat.le_refl _)).mono hb'.size) (by rw [HH.out]; decide) hb'.size (.inl rfl)))
            obtain ⟨A2, c2, rfl, n2, _⟩ := own_T H2 h2
            simp only [Act.put, List.setIfInBounds_toArray, List.set_cons_succ, List.set_cons_zero, Nat.reduceAdd]
            refine walkW_segn 4 [] facts0 noneHx (by kernel_rfl) (by kernel_rfl) ?_
            simp only [List.take_succ_cons, List.take_zero, List.drop_succ_cons, List.drop_zero, Nat.reduceAdd]
            repeat (go_big_quiet_step (fail))
            (first | refine wpQuiet_nil ?_ | (go_big_quiet_want; (try go_big_quiet_op); trace_state; fail))
            refine walkW_mk (fun _ => M4) [] M4 ([(2, M2.R (.slice A2 H.length c2))]) (facts1 fun w h => h.1 rfl) (by kernel_rfl) (by kernel_rfl) (by kernel_rfl) rfl rfl (fun w' hb' hg' => ?_) (fun v4 h4 => ?_)
            · ((exact append_mk rfl H4 (l1 := H) (l2 := badl kd k) HX4.out rfl (own_R H2 (hg' _ (.head _))) rfl (badl_length kd k).symm (fun h => by cases h) ((RK.out.below hb' (Nat.le_refl _)).mono hb'.size) (by have e1 := HH.out; have e2 := badl_length kd k; omega) hb'.size (.inr (by simp))))
            obtain ⟨A4, c4, rfl, n4, _⟩ := own_T H4 h4
            simp only [Act.put, List.setIfInBounds_toArray, List.set_cons_succ, List.set_cons_zero, Nat.reduceAdd]
            refine walkW_segn 2 [] facts0 noneHx (by kernel_rfl) (by kernel_rfl) ?_
            simp only [List.take_succ_cons, List.take_zero, List.drop_succ_cons, List.drop_zero, Nat.reduceAdd]
            repeat (go_big_quiet_step (fail))
            (first | refine wpQuiet_nil ?_ | (go_big_quiet_want; (try go_big_quiet_op); trace_state; fail))
            refine walkW_mk (fun _ => M7) [] M7 ([(7, M4.R (.slice A4 X4.length c4))]) (facts1 fun w h => h.1 rfl) (by kernel_rfl) (by kernel_rfl) (by kernel_rfl) rfl rfl (fun w' hb' hg' => ?_) (fun v7 h7 => ?_)
            · ((exact append_mk rfl H7 (l1 := X4) (l2 := l) HX7.out rfl (own_R H4 (hg' _ (.head _))) rfl HN.out (fun h => by cases h) ((RL.out.below hb' (Nat.le_refl _)).mono hb'.size) (by rw [LX4.out, ← HN.out]; omega) hb'.size (.inr (by simp))))
            obtain ⟨A7, c7, rfl, n7, _⟩ := own_T H7 h7
            simp only [Act.put, List.setIfInBounds_toArray, List.set_cons_succ, List.set_cons_zero, Nat.reduceAdd]
            refine walkW_segn 1 [] facts0 noneHx (by kernel_rfl) (by kernel_rfl) ?_
            simp only [List.take_succ_cons, List.take_zero, List.drop_succ_cons, List.drop_zero, Nat.reduceAdd]
            repeat (go_big_quiet_step (fail))
            (first | refine wpQuiet_nil ?_ | (go_big_quiet_want; (try go_big_quiet_op); trace_state; fail))
            refine walkW_nil ?_
            intro wx bx hf
            have hO7 := own_R H7 ((hf 10 (by kernel_rfl)).1 rfl)
            have HO7 := Lib.hid hO7
            have BX := Lib.hid bx
            clear hf hO7 bx
            go_wp2_with fail
            go_meet
            exact ⟨A7, c7, by rw [LX7.out], by rw [LX7.out, HX7.out, HX4.out, HHe.out, List.append_assoc] at HO7; exact HO7, BX⟩
          · have RL : Hid (Rd wr wr.heap.size (some ⟨g, 20, none⟩) l) := Lib.hid (fun h0 => by
              obtain ⟨b', o', e', hlt', hj'⟩ := RDr.out (by have := HDl.out; omega)
              cases e'
              refine ⟨g, 20, rfl, hlt', fun j hj => ?_⟩
              have hj2 := hj' (20 + j) (by have := HDl.out; have := HN.out; omega)
              rw [Nat.zero_add] at hj2
              rw [hj2]
              have : D0[20 + j]? = l[j]? := by rw [HDe.out, List.getElem?_append_right (by rw [shead_length]; omega), shead_length]; congr 1; omega
              rw [List.getElem?_eq_getElem (by have := HDl.out; have := HN.out; omega), List.getElem?_eq_getElem hj] at this
              rw [Option.some.inj this])
            obtain ⟨M2, hM2⟩ : ∃ M : MadeW wr.heap.size, M = MadeW.own _ [] H := ⟨_, rfl⟩
            obtain ⟨M4, hM4⟩ : ∃ M : MadeW wr.heap.size, M = MadeW.own _ [5] X4 := ⟨_, rfl⟩
            obtain ⟨M7, hM7⟩ : ∃ M : MadeW wr.heap.size, M = MadeW.own _ [5] X7 := ⟨_, rfl⟩
            have H2 := Lib.hid hM2; have H4 := Lib.hid hM4; have H7 := Lib.hid hM7
            clear hM2 hM4 hM7
            refine wp_region_e (wr.heap.size) ([.own 2 H2, .own 7 H4, .own 10 H7]) (fun k => (([(7, [2]), (10, [7])] : List (Nat × List Nat)).lookup k).getD []) (Fs.nil) (by first | omega | (simp <;> omega)) (by kernel_rfl) (by kernel_rfl) (by kernel_rfl) (by kernel_rfl) EnvW.Ini.nil ?_
            refine walkW_segn 2 [] facts0 noneHx (by kernel_rfl) (by kernel_rfl) ?_
            simp only [List.take_succ_cons, List.take_zero, List.drop_succ_cons, List.drop_zero, Nat.reduceAdd]
            repeat (go_big_quiet_step (fail))
            (first | refine wpQuiet_nil ?_ | (go_big_quiet_want; (try go_big_quiet_op); trace_state; fail))
            refine walkW_mk (fun _ => M2) [] M2 ([]) facts0 (by kernel_rfl) (by kernel_rfl) (by kernel_rfl) rfl rfl (fun w' hb' hg' => ?_) (fun v2 h2 => ?_)
            · ((exact append_mk rfl H2 (l1 := []) (l2 := H) rfl rfl (World.ownsRow_nil _ _ _ _) rfl HH.out.symm (fun h => by cases h) ((RH.out.below hb' (Nat.le_refl _)).mono hb'.size) (by rw [HH.out]; decide) hb'.size (.inl rfl)))
            obtain ⟨A2, c2, rfl, n2, _⟩ := own_T H2 h2
            simp only [Act.put, List.setIfInBounds_toArray, List.set_cons_succ, List.set_cons_zero, Nat.reduceAdd]
            refine walkW_segn 4 [] facts0 noneHx (by kernel_rfl) (by kernel_rfl) ?_
            simp only [List.take_succ_cons, List.take_zero, List.drop_succ_cons, List.drop_zero, Nat.reduceAdd]
            repeat (go_big_quiet_step (fail))
            (first | refine wpQuiet_nil ?_ | (go_big_quiet_want; (try go_big_quiet_op); trace_state; fail))
            refine walkW_mk (fun _ => M4) [] M4 ([(2, M2.R (.slice A2 H.length c2))]) (facts1 fun w h => h.1 rfl) (by kernel_rfl) (by kernel_rfl) (by kernel_rfl) rfl rfl (fun w' hb' hg' => ?_) (fun v4 h4 => ?_)
            · ((exact append_mk rfl H4 (l1 := H) (l2 := badl kd k) HX4.out rfl (own_R H2 (hg' _ (.head _))) rfl (badl_length kd k).symm (fun h => by cases h) ((RK.out.below hb' (Nat.le_refl _)).mono hb'.size) (by have e1 := HH.out; have e2 := badl_length kd k; omega) hb'.size (.inr (by simp))))
            obtain ⟨A4, c4, rfl, n4, _⟩ := own_T H4 h4
            simp only [Act.put, List.setIfInBounds_toArray, List.set_cons_succ, List.set_cons_zero, Nat.reduceAdd]
            refine walkW_segn 2 [] facts0 noneHx (by kernel_rfl) (by kernel_rfl) ?_
            simp only [List.take_succ_cons, List.take_zero, List.drop_succ_cons, List.drop_zero, Nat.reduceAdd]
            repeat (go_big_quiet_step (fail))
            (first | refine wpQuiet_nil ?_ | (go_big_quiet_want; (try go_big_quiet_op); trace_state; fail))
            refine walkW_mk (fun _ => M7) [] M7 ([(7, M4.R (.slice A4 X4.length c4))]) (facts1 fun w h => h.1 rfl) (by kernel_rfl) (by kernel_rfl) (by kernel_rfl) rfl rfl (fun w' hb' hg' => ?_) (fun v7 h7 => ?_)
            · ((exact append_mk rfl H7 (l1 := X4) (l2 := l) HX7.out rfl (own_R H4 (hg' _ (.head _))) rfl HN.out (fun h => by cases h) ((RL.out.below hb' (Nat.le_refl _)).mono hb'.size) (by rw [LX4.out, ← HN.out]; omega) hb'.size (.inr (by simp))))
            obtain ⟨A7, c7, rfl, n7, _⟩ := own_T H7 h7
            simp only [Act.put, List.setIfInBounds_toArray, List.set_cons_succ, List.set_cons_zero, Nat.reduceAdd]
            refine walkW_segn 1 [] facts0 noneHx (by kernel_rfl) (by kernel_rfl) ?_
            simp only [List.take_succ_cons, List.take_zero, List.drop_succ_cons, List.drop_zero, Nat.reduceAdd]
            repeat (go_big_quiet_step (fail))
            (first | refine wpQuiet_nil ?_ | (go_big_quiet_want; (try go_big_quiet_op); trace_state; fail))
            refine walkW_nil ?_
            intro wx bx hf
            have hO7 := own_R H7 ((hf 10 (by kernel_rfl)).1 rfl)
            have HO7 := Lib.hid hO7
            have BX := Lib.hid bx
            clear hf hO7 bx
            go_wp2_with fail
            go_meet
            exact ⟨A7, c7, by rw [LX7.out], by rw [LX7.out, HX7.out, HX4.out, HHe.out, List.append_assoc] at HO7; exact HO7, BX⟩
        case rest =>
          obtain ⟨A7, c7', rfl, HO7, B7⟩ := hcut
          have n6 := bk_lt KEr.out
          replace Fr := Lib.hid (Fr.out.trans (B7.out.mono Fr.out.size))
          replace KEr := Lib.hid (bk_keep B7.out (bk_lt KEr.out) KEr.out)
          obtain ⟨h7, cur7, rfl, hg7, hgs7, hcu7, hlc7, htk7⟩ := own_parts HO7.out (by omega)
          have u12 := bk_cell hg7 12
          rw [Array.getElem?_eq_getElem (by omega)] at u12
          have z12 := bk_frozen hg7 12
          generalize cur7[12]'(by omega) = cu12 at u12
          have hgw2 : w.heap.size < h7 := by omega
          have i12 : (12 : Int) < 24 + (n : Int) := by omega
          have hBc := Lib.hid (hBr.out.trans (B7.out.mono hBr.out.size))
          clear hg7 htk7 ck lTb RK
          go_upto_region 20 with fail
          obtain ⟨M, hM⟩ : ∃ M, M = mid s0 cs (badl kd k) l := ⟨_, rfl⟩
          have hMl : M.length = 24 + n := by rw [hM, mid_length, badl_length, HN.out]
          have HO8 : Hid ((wc.setCell ⟨h7, 12, none⟩ (.int .u8 96)).ownsRow wr.heap.size 5 1 (.slice (some ⟨h7, 0, none⟩) (24 + n) c7') (24 + n) (M.map B)) := Lib.hid (by
            have o := own_set (j := 12) HO7.out 96
            rw [hM]; unfold mid; rw [badl_length]; exact o)
          have hne0 : ¬ w.heap.size = h7 := by omega
          have KE8 := Lib.hid ((bk_setCell_other wc h7 12 w.heap.size (.int .u8 96) hne0).trans KEr.out)
          have F8 := Lib.hid (Fr.out.setCell (p := ⟨h7, 12, none⟩) (show w.heap.size ≤ h7 by omega) (.int .u8 96))
          have B8 := Lib.hid (hBc.out.setCell (p := ⟨h7, 12, none⟩) (show W.heap.size ≤ h7 by omega) (.int .u8 96))
          have RM : Hid (Rd (wc.setCell ⟨h7, 12, none⟩ (.int .u8 96)) (wc.setCell ⟨h7, 12, none⟩ (.int .u8 96)).heap.size (some ⟨h7, 0, none⟩) M) := Lib.hid (by
            have o := HO8.out
            rw [← hMl] at o
            obtain ⟨A', c', e, hr, _⟩ := Rd.of_own o rfl
            cases e
            exact hr)
          have HM := Lib.hid hM; have HML := Lib.hid hMl
          clear hM HO7 u12 z12 hne0 hMl HO8 Fr KEr B7 hBc
          generalize wc.setCell ⟨h7, 12, none⟩ (.int .u8 96) = w8 at *
          obtain ⟨D8, hD8⟩ : ∃ D, D = fixc src dst 6 16 M := ⟨_, rfl⟩
          have hD8l : D8.length = 24 + n := by rw [hD8, fixc_length, HML.out]
          obtain ⟨pd, hpd⟩ : ∃ pd : List UInt8, pd = [] := ⟨_, rfl⟩
          have EQ : Hid (zE src dst D8 = 4 ∧ zS src dst D8 = Sg.zero ∧ zD src dst D8 = pd) := Lib.hid (by
            have e4 : zE src dst D8 = 4 := by
              rw [hD8, HM.out]
              exact mid_none h1 h2 (by rw [badl_length]) (by rw [badl_length]; omega) (badl_none kd hk2 k)
            exact ⟨e4, zS_bad (by rw [e4]; decide), by rw [hpd]; exact zD_bad (by rw [e4]; decide)⟩)
          have HD8 := Lib.hid hD8; have HD8L := Lib.hid hD8l
          have HPD := Lib.hid hpd
          clear hD8 hD8l hpd
          have ke := (KE8).out
          have le := bk_lt ke
          obtain ⟨M6, hM6⟩ : ∃ M : MadeW (w8).heap.size, M = MadeW.own _ [] D8 := ⟨_, rfl⟩
          obtain ⟨M7, hM7⟩ : ∃ M : MadeW (w8).heap.size, M = MadeW.gots _ (fun A => .tuple #[.agg (sgc Sg.zero A (pd).length (pd).length), .int .i64 4]) pd := ⟨_, rfl⟩
          obtain ⟨M11, hM11⟩ : ∃ M : MadeW (w8).heap.size, M = MadeW.row _ (fun b => .pointer (some ⟨b, 0, none⟩)) (sgc Sg.zero none 0 0) 30 := ⟨_, rfl⟩
          have H6 := Lib.hid hM6; have H7 := Lib.hid hM7; have H11 := Lib.hid hM11
          clear hM6 hM7 hM11
          refine wp_region_e ((w8).heap.size) ([.own 6 H6, .gots 7 H7, .row 11 H11, .store (w8).heap.size 12 30 [17, 122]]) (fun k => (([(7, [6]), (12, [11])] : List (Nat × List Nat)).lookup k).getD []) (Fs.nil) (by first | omega | (simp <;> omega)) (by kernel_rfl) (by kernel_rfl) (by kernel_rfl) (by kernel_rfl) EnvW.Ini.nil ?_
          refine walkW_segn 6 [] facts0 noneHx (by kernel_rfl) (by kernel_rfl) ?_
          simp only [List.take_succ_cons, List.take_zero, List.drop_succ_cons, List.drop_zero, Nat.reduceAdd]
          repeat (go_big_quiet_step (fail))
          (first | refine wpQuiet_nil ?_ | (go_big_quiet_want; (try go_big_quiet_op); trace_state; fail))
          refine walkW_mk (fun _ => M6) [] M6 ([]) facts0 (by kernel_rfl) (by kernel_rfl) (by kernel_rfl) rfl rfl (fun w' hb' hg' => ?_) (fun v6 h6 => ?_)
          · unfold madeAtW
            go_simp
            ((have C := right_any src dst (some ⟨h7, 0, none⟩) M c7' w' h1 h2 (((RM).out.below hb' (Nat.le_refl _)).mono hb'.size) (fun h => by cases h) (by rw [(HML).out]; omega) (by rw [(HML).out]; omega); rw [(HML).out, ← HEE.out, ← (HD8).out] at C; refine C.mono ?_; rintro e w2 ⟨v, rfl, ho, hb⟩; exact own_end H6 hb hb'.size (by rw [(HD8L).out]; exact ho)))
          obtain ⟨A9, c9, rfl, n9, _⟩ := own_T H6 h6
          simp only [Act.put, List.setIfInBounds_toArray, List.set_cons_succ, List.set_cons_zero, Nat.reduceAdd]
          refine walkW_mk (fun _ => M7) [] M7 ([(6, M6.R (.slice A9 (D8).length c9))]) (facts1 fun w h => h.1 rfl) (by kernel_rfl) (by kernel_rfl) (by kernel_rfl) rfl rfl (fun w' hb' hg' => ?_) (fun v7 h7 => ?_)
          · unfold madeAtW
            go_simp
            ((refine (sget_any src dst A9 D8 c9 w' h1 h2 (own_Rd H6 (hg' _ (.head _))) n9 (by rw [(HD8L).out]; omega)).mono ?_; rintro e w2 ⟨A', rfl, hG, hb⟩; rw [(EQ).out.1, (EQ).out.2.1, (EQ).out.2.2] at *; exact gots_end H7 hb hb'.size (hG.lower hb'.size)))
          obtain ⟨A10, rfl⟩ := gots_T H7 h7
          simp only [Act.put, List.setIfInBounds_toArray, List.set_cons_succ, List.set_cons_zero, Nat.reduceAdd]
          refine walkW_segn 3 [] facts0 noneHx (by kernel_rfl) (by kernel_rfl) ?_
          simp only [List.take_succ_cons, List.take_zero, List.drop_succ_cons, List.drop_zero, Nat.reduceAdd]
          repeat (go_big_quiet_step (fail))
          (first | refine wpQuiet_nil ?_ | (go_big_quiet_want; (try go_big_quiet_op); trace_state; fail))
          refine walkW_mk (fun _ => M11) [] M11 ([]) facts0 (by kernel_rfl) (by kernel_rfl) (by kernel_rfl) rfl rfl (fun w' hb' hg' => ?_) (fun v11 h11 => ?_)
          · unfold madeAtW
            go_simp
            ((exact (row_mk (b := w'.heap.size) H11 ((Below.refl _ _).alloc (Nat.le_refl _) _) hb'.size hb'.size (bk_alloc_at _ _ _ rfl) :)))
          obtain ⟨b11, m11, rfl⟩ := row_T H11 h11
          simp only [Act.put, List.setIfInBounds_toArray, List.set_cons_succ, List.set_cons_zero, Nat.reduceAdd]
          refine walkW_mk (MadeW.storeAt _ 30) [.pointer (some ⟨b11, 0, none⟩), .agg (sgc Sg.zero A10 (pd).length (pd).length)] (MadeW.store _ b11 (sgc Sg.zero A10 (pd).length (pd).length) 30) ([(11, M11.R (.pointer (some ⟨b11, 0, none⟩)))]) (facts1 fun w h => h.1 rfl) (by kernel_rfl) (by kernel_rfl) (by kernel_rfl) rfl rfl (fun w' hb' hg' => ?_) (fun v hT => ?_)
          · exact storeRow_mk (n := 8) (by kernel_rfl) (Lib.hid rfl) (row_R H11 ptr_inj (hg' _ (.head _))) m11 rfl rfl sgc_size sgc_size sgc_ones
          clear hT
          simp only [Act.put]
          refine walkW_segn 1 [] facts0 noneHx (by kernel_rfl) (by kernel_rfl) ?_
          simp only [List.take_succ_cons, List.take_zero, List.drop_succ_cons, List.drop_zero, Nat.reduceAdd]
          repeat (go_big_quiet_step (fail))
          (first | refine wpQuiet_nil ?_ | (go_big_quiet_want; (try go_big_quiet_op); trace_state; fail))
          refine walkW_nil ?_
          intro w9 b9 hf
          have G9 := Lib.hid (gots_R H7 (fun A A' h => by simpa [sgc] using h) ((hf 7 (by kernel_rfl)).2.2.1 rfl))
          have KC := Lib.hid (store_R (Lib.hid rfl) ((hf 12 (by kernel_rfl)).1 rfl))
          clear hf H6 H7 H11 h6 h7 h11 M6 M7 M11 ke le
          replace F8 := Lib.hid (F8.out.trans (b9.mono F8.out.size))
          replace B8 := Lib.hid (B8.out.trans (b9.mono B8.out.size))
          have kc := KC.out
          have lc' := bk_lt kc
          have ep : pd.length = 0 := by rw [HPD.out]; rfl
          have rg : Rd w9 w9.heap.size A10 [] := Rd.nil
          rw [ep] at kc
          have CS := sameSegment_any Sg.zero A10 none [] 0 0 w9 rg Rd.nil (by decide)
          have HCS := Lib.hid CS
          clear CS rg ep b9 G9 KC m11 EQ HD8 HD8L HPD RM HM HML
          go_wp2_with fail
          refine HCS.out.mono ?_
          rintro e w11 ⟨rfl, b11'⟩
          have B11 := Lib.hid (B8.out.trans (b11'.mono B8.out.size))
          clear HCS b11' kc lc' B8
          go_wp2_with fail
          go_roundw
          case rel => exact ⟨k + 1, by omega, by go_num, B11⟩
          case measure => simp [intOf]; omega
      · have y1 : decide ((k : Int) < 5) = false := by simp; omega
        go_wp2_with fail
        refine (lives17_any _).mono ?_
        rintro e w12 ⟨rfl, b12⟩
        have F10 := F.out.trans ((br.mono F.out.size).trans (b12.mono (Nat.le_trans F.out.size br.size)))
        clear b12
        go_wp2_with fail
        go_ret
        exact ⟨rfl, F10⟩
end Go.Proofs.Ytojddfbbeiobpaa

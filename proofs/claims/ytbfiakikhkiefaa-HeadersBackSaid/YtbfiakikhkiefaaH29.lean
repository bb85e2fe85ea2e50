/- HeadersBack, walked. -/
import Derived.Test.YtbfiakikhkiefaaH28
import Derived.Test.YtbfiakikhkiefaaH27
import Derived.Test.YtbfiakikhkiefaaMgI
import Derived.Test.YtbfiakikhkiefaaMgG
namespace Go.Proofs.Ytbfiakikhkiefaa
open Go.RowKit
set_option maxRecDepth 100000
set_option maxHeartbeats 2000000
@[go_sem] theorem builtFr0 : Try.prog.built 27 [] = some (fragC false 0 0 false) := by kernel_rfl
/-- A packet whose mark tells nothing where it is no part. -/
def nrm (p : Pk) : Pk := if p.fi then p else { p with fid := 0, fo := 0, fm := false, hid := by decide, ho := by decide }
theorem nrm_norm (p : Pk) : norm (nrm p) := by
  unfold norm nrm
  cases h : p.fi
  · exact fun _ => ⟨rfl, rfl, rfl⟩
  · intro hh; rw [if_pos rfl] at hh; rw [h] at hh; cases hh
theorem nrm_nx (p : Pk) : (nrm p).nx = p.nx := by unfold nrm; split <;> rfl
theorem nrm_fi (p : Pk) : (nrm p).fi = p.fi := by unfold nrm; split <;> rfl
theorem Rd.setRow9 {w : World} {m n : Nat} {A : Option Addr} {l : List UInt8} {c : Array Value} (h : Rd w w.heap.size A l) (lo : ∀ b j, rg A 0 l.length b j → n ≤ b) (hm : m < n) : Rd (w.setRow m c) (w.setRow m c).heap.size A l := fun h0 => by
  obtain ⟨b, o, e, hlt, hc⟩ := h h0
  have hb : n ≤ b := lo b o ⟨o, e, by omega, by omega⟩
  refine ⟨b, o, e, by simpa using hlt, fun j hj => ?_⟩
  rw [← hc j hj]
  have h' : (w.setRow m c).heap[b]? = w.heap[b]? := bk_setRow_other _ _ _ _ (by omega)
  simp only [World.cell?, h']
theorem headersBack_long (p : Pk) (A : Option Addr) (n c : Nat) (Ab : Option Addr) (nb' cb : Nat) (cut : Nat) (w : World) (hl : 2000 < n) (h63 : n < 2 ^ 63) :
    Calls Try.prog 8 #[.agg (pkC p A n c), .slice Ab nb' cb, .int .u16 (cut : Int)] w fun e w' => e = .returned (.bool true) ∧ Below w.heap.size w w' := by
  have d1 : decide (2000 < (n : Int)) = true := by simp; omega
  have d2 : decide (2000 < n) = true := by simp; omega
  go_enter Try.func8, Try.ntmps8
  go_wp2_with fail
  have a0 : Below w.heap.size w (w.alloc (.cells (pkC p A n c) 30)) := (by (repeat (first | exact Below.refl _ _ | assumption | refine Below.drew ?_ | refine bdrewN ?_ _ | refine Below.alloc ?_ (by first | omega | (simp <;> omega) | (simp only [World.size_alloc] <;> omega)) _ | refine below_setRow ?_ (by first | omega | (simp <;> omega)) _ | refine Below.setCell ?_ (by first | omega | (simp <;> omega)) _)))
  refine (lives9_any _).mono ?_
  rintro e w1 ⟨rfl, b1⟩
  go_wp2_with fail
  go_ret
  exact ⟨rfl, a0.trans (b1.mono a0.size)⟩
theorem headersBack_behind (p : Pk) (A : Option Addr) (n c : Nat) (Ab : Option Addr) (nb' cb : Nat) (cut : Nat) (w : World) (hl : n ≤ 2000) (hb : 1000 < nb') (h63 : nb' < 2 ^ 63) :
    Calls Try.prog 8 #[.agg (pkC p A n c), .slice Ab nb' cb, .int .u16 (cut : Int)] w fun e w' => e = .returned (.bool true) ∧ Below w.heap.size w w' := by
  have d1 : decide (2000 < (n : Int)) = false := by simp; omega
  have d2 : decide (2000 < n) = false := by simp; omega
  have d3 : decide (1000 < (nb' : Int)) = true := by simp; omega
  have d4 : decide (1000 < nb') = true := by simp; omega
  go_enter Try.func8, Try.ntmps8
  go_wp2_with fail
  have a0 : Below w.heap.size w (w.alloc (.cells (pkC p A n c) 30)) := (by (repeat (first | exact Below.refl _ _ | assumption | refine Below.drew ?_ | refine bdrewN ?_ _ | refine Below.alloc ?_ (by first | omega | (simp <;> omega) | (simp only [World.size_alloc] <;> omega)) _ | refine below_setRow ?_ (by first | omega | (simp <;> omega)) _ | refine Below.setCell ?_ (by first | omega | (simp <;> omega)) _)))
  refine (lives9_any _).mono ?_
  rintro e w1 ⟨rfl, b1⟩
  go_wp2_with fail
  go_ret
  exact ⟨rfl, a0.trans (b1.mono a0.size)⟩
theorem headersBack_number (p : Pk) (A : Option Addr) (n c : Nat) (Ab : Option Addr) (nb' cb : Nat) (cut : Nat) (w : World) (hl : n ≤ 2000) (hb : nb' ≤ 1000) (hn : numO p.nx = true) :
    Calls Try.prog 8 #[.agg (pkC p A n c), .slice Ab nb' cb, .int .u16 (cut : Int)] w fun e w' => e = .returned (.bool true) ∧ Below w.heap.size w w' := by
  have d1 : decide (2000 < (n : Int)) = false := by simp; omega
  have d2 : decide (2000 < n) = false := by simp; omega
  have d3 : decide (1000 < (nb' : Int)) = false := by simp; omega
  have d4 : decide (1000 < nb') = false := by simp; omega
  have NM := number_any p.nx (w.alloc (.cells (pkC p A n c) 30))
  rw [hn] at NM
  have NM' := Lib.hid NM
  clear NM hn
  go_enter Try.func8, Try.ntmps8
  go_wp2_with fail
  refine NM'.out.mono ?_
  rintro e wn ⟨rfl, rfl⟩
  go_wp2_with fail
  have a0 : Below w.heap.size w (w.alloc (.cells (pkC p A n c) 30)) := (by (repeat (first | exact Below.refl _ _ | assumption | refine Below.drew ?_ | refine bdrewN ?_ _ | refine Below.alloc ?_ (by first | omega | (simp <;> omega) | (simp only [World.size_alloc] <;> omega)) _ | refine below_setRow ?_ (by first | omega | (simp <;> omega)) _ | refine Below.setCell ?_ (by first | omega | (simp <;> omega)) _)))
  refine (lives9_any _).mono ?_
  rintro e w1 ⟨rfl, b1⟩
  go_wp2_with fail
  go_ret
  exact ⟨rfl, a0.trans (b1.mono a0.size)⟩
theorem headersBack_walkF (p : Pk) (A : Option Addr) (l : List UInt8) (c : Nat) (Ab : Option Addr) (bh : List UInt8) (cb cut : Nat) (w : World) (h : Rd w w.heap.size A l) (hA : A = none → l = [] ∧ c = 0)
    (hB : Rd w w.heap.size Ab bh) (hAB : Ab = none → bh = [] ∧ cb = 0) (hl : l.length ≤ 2000) (hb : bh.length ≤ 1000) (hcut : cut < 65536) (hn : numO p.nx = false) (hfi : p.fi = false) :
    Calls Try.prog 8 #[.agg (pkC p A l.length c), .slice Ab bh.length cb, .int .u16 (cut : Int)] w fun e w' => e = .returned (.bool true) ∧ Below w.heap.size w w' := by
  have RI := Lib.hid h; have HA := Lib.hid hA; have RB := Lib.hid hB; have HAB := Lib.hid hAB; have HN := Lib.hid hn
  clear h hA hB hAB
  have d1 : decide (2000 < (l.length : Int)) = false := by simp; omega
  have d2 : decide (2000 < l.length) = false := by simp; omega
  have d3 : decide (1000 < (bh.length : Int)) = false := by simp; omega
  have d4 : decide (1000 < bh.length) = false := by simp; omega
  have NM := number_any p.nx (w.alloc (.cells (pkC p A l.length c) 30))
  rw [hn] at NM
  have NM' := Lib.hid NM
  clear NM hn
  go_enter Try.func8, Try.ntmps8
  go_wp2_with fail
  refine NM'.out.mono ?_
  rintro e wn ⟨rfl, rfl⟩
  clear NM'
  go_upto_region 3 with fail
  have a0 : Below w.heap.size w (w.alloc (.cells (pkC p A l.length c) 30 (0, 0))) := (by (repeat (first | exact Below.refl _ _ | assumption | refine Below.drew ?_ | refine bdrewN ?_ _ | refine Below.alloc ?_ (by first | omega | (simp <;> omega) | (simp only [World.size_alloc] <;> omega)) _ | refine below_setRow ?_ (by first | omega | (simp <;> omega)) _ | refine Below.setCell ?_ (by first | omega | (simp <;> omega)) _)))
  have KD := Lib.hid (bk_alloc_at w (.cells (pkC p A l.length c) 30 (0, 0)) w.heap.size rfl)
  have F := Lib.hid a0
  clear a0
  change Code.wp _ _ _ _ (w.alloc (.cells (pkC p A l.length c) 30 (0, 0)))
  generalize w.alloc (.cells (pkC p A l.length c) 30 (0, 0)) = w0 at *
  have lp := bk_lt KD.out
  have c34 := (bk_cell KD.out 34).trans (pkC_fi _ _ _ _)
  have hnn := nrm_norm p
  have hnx : numO (nrm p).nx = false := by rw [nrm_nx]; exact HN.out
  rw [hfi] at c34
  have s34 := fun (P : Pk) (A : Option Addr) (n c : Nat) => pkC_spl34 (p := P) (A := A) (n := n) (c := c) false 0 0 false (by decide) (by decide)
  have kd := KD.out
  go_upto_region 5 with fail
  have eP : ({ p with fi := false, fid := 0, fo := 0, fm := false, hid := by decide, ho := by decide } : Pk) = nrm p := by
    refine pk_ext ?_ ?_ ?_ ?_ ?_ ?_ ?_ ?_ ?_ <;> simp [nrm, hfi]
  change Code.wp _ _ _ _ (w0.setRow w.heap.size (pkC { p with fi := false, fid := 0, fo := 0, fm := false, hid := by decide, ho := by decide } A l.length c))
  rw [eP]
  have KN : Hid (bk (w0.setRow w.heap.size (pkC (nrm p) A l.length c)) w.heap.size = some (.cells (pkC (nrm p) A l.length c) 30 (0, 0))) := Lib.hid (by rw [bk_setRow_same, kd]; rfl)
  have F1 : Hid (Below w.heap.size w (w0.setRow w.heap.size (pkC (nrm p) A l.length c))) := Lib.hid (below_setRow F.out (Nat.le_refl _) _)
  clear s34 kd c34 KD eP lp F
  generalize w0.setRow w.heap.size (pkC (nrm p) A l.length c) = w1 at *
  have RI1 := Lib.hid ((RI.out.below F1.out (Nat.le_refl _)).mono F1.out.size)
  obtain ⟨P, hP⟩ : ∃ P, P = nrm p := ⟨_, rfl⟩
  rw [← hP] at KN hnn hnx
  have HP := Lib.hid (And.intro hnn hnx)
  clear hP hnn hnx
  have vKN := KN.out; have wKN := bk_lt vKN
  go_wp2_with fail
  refine (hput_any P A l c w1 RI1.out HA.out (by omega)).mono ?_
  rintro e w2 ⟨hp, b2⟩
  clear vKN wKN
  have F2 := Lib.hid (F1.out.trans (b2.mono F1.out.size))
  have KM := Lib.hid (bk_keep b2 (bk_lt KN.out) KN.out)
  clear b2 KN F1 RI1
  unfold PutGot at hp
  by_cases hbad : pkBad P l = true
  · rw [if_pos hbad] at hp
    subst hp
    obtain ⟨f1, f2⟩ := pkBad_fi P l hl hbad
    have c34 := (bk_cell KM.out 34).trans (pkC_fi _ _ _ _)
    have c36 := (bk_cell KM.out 36).trans (pkC_fo _ _ _ _)
    rw [f1] at c34
    have e1 : decide (8191 < (P.fo : Int)) = true := by simp; omega
    have e2 : decide (8191 < P.fo) = true := by simp; omega
    have vl := bk_lt KM.out
    have LV := Lib.hid (lives9_any w2)
    have FZ := F2
    clear f2 hbad
    go_wp2_with fail
    refine LV.out.mono ?_
    rintro e wq ⟨rfl, bq⟩
    have F3 := Lib.hid (FZ.out.trans (bq.mono FZ.out.size))
    clear bq
    go_wp2_with fail
    go_ret
    exact ⟨rfl, F3.out⟩
  · rw [if_neg hbad] at hp
    obtain ⟨A', c', rfl, ho⟩ := hp
    have hbad' : pkBad P l = false := by simpa using hbad
    have HBD := Lib.hid hbad'
    have hLL := pkB_len P l
    have hml := more_len P
    unfold pln at hLL
    obtain ⟨L, hL⟩ : ∃ L, L = pkB P l := ⟨_, rfl⟩
    rw [← hL] at ho hLL ⊢
    have HL := Lib.hid hL
    obtain ⟨k, hk⟩ : ∃ k, k = cut % L.length := ⟨_, rfl⟩
    have hkL : k < L.length := by rw [hk]; exact Nat.mod_lt _ (by omega)
    have r3 : ((L.length : Int) == 0) = false := beq_eq_false_iff_ne.2 (by omega)
    have c39 := (bk_cell KM.out 39).trans (pkC_body _ _ _ _)
    have e1 : decide ((L.length : Int) < 40 + (l.length : Int)) = false := by simp; omega
    have e2 : decide (L.length < 40 + l.length) = false := by simp; omega
    have vl := bk_lt KM.out
    have HLL := Lib.hid (And.intro hLL hml)
    have RL := Rd.of_own ho rfl
    obtain ⟨A'', c'', eL, hRL, hNL, hCL⟩ := RL
    cases eL
    have HO := Lib.hid ho
    have hRk : Rd w2 w2.heap.size A' (L.take k) := fun h0 => by
      obtain ⟨b0, o0, e0, hlt0, hc0⟩ := hRL (by rw [List.length_take] at h0; omega)
      exact ⟨b0, o0, e0, hlt0, fun j hj => by rw [List.getElem_take]; exact hc0 j (by rw [List.length_take] at hj; omega)⟩
    have hlk : (L.take k).length = k := by rw [List.length_take]; omega
    have G := hget_any A' (L.take k) c' w2 hRk (by omega)
    rw [hlk] at G
    have hT1 : gT (L.take k) = tlE 5 := by rw [HL.out]; exact gT_cut P l hl k (by rw [← HL.out]; exact hkL)
    have HG1 : Hid (Calls Try.prog 22 #[.slice A' k c'] w2 fun e w' => ∃ (G1 : Pk) (A5 : Option Addr), e = .returned (.tuple #[.agg (pkC G1 A5 0 0), .agg (faultC 0 0), .int .i64 5]) ∧ Below w2.heap.size w2 w') := Lib.hid (G.mono fun e w' ⟨A5, he, _, hb'⟩ => ⟨gP (L.take k), A5, by rw [he, hT1]; rfl, hb'⟩)
    have HRL := Lib.hid (And.intro hRL (And.intro hNL hCL))
    have kc : k ≤ c' := by omega
    have r4 : wrap64 (cut : Int) = (cut : Int) := by unfold wrap64; omega
    have kn : (L.length : Int) ≠ 0 := by omega
    have knn : L.length ≠ 0 := by omega
    have HRK : Hid (cut % L.length = k) := Lib.hid hk.symm
    clear hL hk hbad hbad' hLL hml G hT1 hRk hlk ho hRL hNL
    obtain ⟨N, hN⟩ : ∃ N, N = L.length := ⟨_, rfl⟩
    have rk : cut % N = k := by rw [hN]; exact HRK.out
    have e3 : ¬ ((N : Int) < 40 + (l.length : Int)) := by rw [hN]; simpa using e1
    have e4 : ¬ (N < 40 + l.length) := by rw [hN]; simpa using e2
    rw [← hN]
    have HNN := Lib.hid hN
    have kn' : (N : Int) ≠ 0 := by rw [hN]; exact kn
    have knn' : N ≠ 0 := by rw [hN]; exact knn
    have r3' : ((N : Int) == 0) = false := by rw [hN]; exact r3
    clear hN kn knn r3 e1 e2
    go_upto_region 10 with fail
    clear c39
    go_wp2_with fail
    refine HG1.out.mono ?_
    rintro e w3 ⟨G1, A5, rfl, b3⟩
    have F3 := Lib.hid (F2.out.trans (b3.mono F2.out.size))
    have KM3 := Lib.hid (bk_keep b3 (bk_lt KM.out) KM.out)
    have HRL3 := Lib.hid ((HRL.out.1.below b3 (Nat.le_refl _)).mono b3.size)
    clear b3 F2 KM HG1
    go_upto_region 11 with fail
    have a4 : Below w3.heap.size w3 ((w3.alloc (.cells (pkC G1 A5 0 0) 30 (0, 0))).alloc (.cells (faultC 0 0) 47 (0, 0))) := (by (repeat (first | exact Below.refl _ _ | assumption | refine Below.drew ?_ | refine bdrewN ?_ _ | refine Below.alloc ?_ (by first | omega | (simp <;> omega) | (simp only [World.size_alloc] <;> omega)) _ | refine below_setRow ?_ (by first | omega | (simp <;> omega)) _ | refine Below.setCell ?_ (by first | omega | (simp <;> omega)) _)))
    have F4 := Lib.hid (F3.out.trans (a4.mono F3.out.size))
    have KM4 := Lib.hid (bk_keep a4 (bk_lt KM3.out) KM3.out)
    have HRL4 := Lib.hid ((HRL3.out.below a4 (Nat.le_refl _)).mono a4.size)
    change Code.wp _ _ _ _ ((w3.alloc (.cells (pkC G1 A5 0 0) 30 (0, 0))).alloc (.cells (faultC 0 0) 47 (0, 0)))
    clear a4 F3 KM3 HRL3
    generalize (w3.alloc (.cells (pkC G1 A5 0 0) 30 (0, 0))).alloc (.cells (faultC 0 0) 47 (0, 0)) = w4 at *
    have hN := HNN.out
    subst hN
    have HB4 := Lib.hid ((RB.out.below F4.out (Nat.le_refl _)).mono F4.out.size)
    have hL47 : L.length < 3000 := by have := HLL.out; omega
    refine wp_region_lit ?_
    refine wpList_step (fun K hK => ?_)
    go_simp
    refine hK _ _ ?_
    clear hK K
    refine append_rd rfl _ _ rfl w4.heap.size (.slice none 0 0) 0 [] rfl ⟨rfl, .inl ⟨rfl, rfl⟩⟩ A' L c' rfl HRL.out.2.1 HRL4.out (by omega) (Nat.le_refl _) ?_
    intro v5 w5 ho5 hg5
    have b5 : Hid (Below w4.heap.size w4 w5) := Lib.hid ((Below.refl _ _).grown hg5 (Nat.le_refl _) (fun x hx => by cases hx))
    have HO5 : Hid (w5.ownsRow w4.heap.size 5 1 v5 L.length (List.map B L)) := Lib.hid (by simpa using ho5)
    have HB5 := Lib.hid ((HB4.out.below b5.out (Nat.le_refl _)).mono b5.out.size)
    clear ho5 hg5 HB4 HO HRL4
    refine wpList_step (fun K hK => ?_)
    go_simp
    refine hK _ _ ?_
    clear hK K
    refine append_rd rfl _ _ rfl w4.heap.size v5 L.length (List.map B L) rfl HO5.out Ab bh cb rfl HAB.out HB5.out (by omega) b5.out.size ?_
    intro v6 w6 ho6 hg6
    have b6 : Below w4.heap.size w4 w6 := b5.out.grown hg6 b5.out.size (fun x hx => (HO5.out.lt x hx).1)
    have F6 := Lib.hid (F4.out.trans (b6.mono F4.out.size))
    have KM6 := Lib.hid (bk_keep b6 (bk_lt KM4.out) KM4.out)
    obtain ⟨M, hM⟩ : ∃ M, M = L ++ bh := ⟨_, rfl⟩
    have hMl : L.length + bh.length = M.length := by rw [hM, List.length_append]
    have ho6' : w6.ownsRow w4.heap.size 5 1 v6 M.length (List.map B M) := by rw [← hMl, hM, List.map_append]; exact ho6
    obtain ⟨A6, c6, rfl, hR6, hN6, hC6⟩ := Rd.of_own ho6' rfl
    have HE : gT M = tlB P l P.al ∧ gP M = clr P := by
      rw [hM, HL.out]
      exact ⟨gT_back P l bh hl HP.out.2 HBD.out, gP_back P l bh hl HP.out.2 HBD.out HP.out.1⟩
    have hE := tlB_e P l
    have hM47 : M.length < 2 ^ 30 := by omega
    have G := hget_any A6 M c6 w6 hR6 hM47
    unfold HGet at G
    rw [HE.1, HE.2, hE.1, hE.2.1, hE.2.2.1, hE.2.2.2] at G
    have HG6 := Lib.hid G
    clear ho6 ho6' hg6 b6 b5 HO5 HB5 KM4 F4 HE hE G hM47 hM hMl hR6 hN6 hC6
    go_wp2_with fail

    refine HG6.out.mono ?_
    rintro e w7 ⟨A7, rfl, hg7, b7⟩
    have F7 := Lib.hid (F6.out.trans (b7.mono F6.out.size))
    have KM7 := Lib.hid (bk_keep b7 (bk_lt KM6.out) KM6.out)
    have HI7 := Lib.hid ((RI.out.below F7.out (Nat.le_refl _)).mono F7.out.size)
    have HG7 := Lib.hid hg7.rd
    have HGL := Lib.hid (And.intro hg7.lo (bk_lt KM6.out))
    clear hg7 b7 F6 KM6 HG6 HP HBD HLL HL HRL HAB RB
    go_upto_region 12 with fail
    have a8 : Below w7.heap.size w7 ((w7.alloc (.cells (pkC (clr P) A7 l.length l.length) 30 (0, 0))).alloc (.cells (faultC 0 0) 47 (0, 0))) := (by (repeat (first | exact Below.refl _ _ | assumption | refine Below.drew ?_ | refine bdrewN ?_ _ | refine Below.alloc ?_ (by first | omega | (simp <;> omega) | (simp only [World.size_alloc] <;> omega)) _ | refine below_setRow ?_ (by first | omega | (simp <;> omega)) _ | refine Below.setCell ?_ (by first | omega | (simp <;> omega)) _)))
    have KX : Hid (bk ((w7.alloc (.cells (pkC (clr P) A7 l.length l.length) 30 (0, 0))).alloc (.cells (faultC 0 0) 47 (0, 0))) w7.heap.size = some (.cells (pkC (clr P) A7 l.length l.length) 30 (0, 0))) := Lib.hid (by
      rw [bk_alloc_past _ _ _ (by simp), bk_alloc_at _ _ _ rfl])
    have KY : Hid (bk ((w7.alloc (.cells (pkC (clr P) A7 l.length l.length) 30 (0, 0))).alloc (.cells (faultC 0 0) 47 (0, 0))) (w7.heap.size + 1) = some (.cells (faultC 0 0) 47 (0, 0))) := Lib.hid (bk_alloc_at _ _ _ (by simp))
    have F8 := Lib.hid (F7.out.trans (a8.mono F7.out.size))
    have KM8 := Lib.hid (bk_keep a8 (bk_lt KM7.out) KM7.out)
    have HI8 := Lib.hid ((HI7.out.below a8 (Nat.le_refl _)).mono a8.size)
    have HG8 := Lib.hid ((HG7.out.below a8 (Nat.le_refl _)).mono a8.size)
    have s7 := bk_lt KM7.out
    change Code.wp _ _ _ _ ((w7.alloc (.cells (pkC (clr P) A7 l.length l.length) 30 (0, 0))).alloc (.cells (faultC 0 0) 47 (0, 0)))
    clear a8 F7 KM7 HI7 HG7
    generalize (w7.alloc (.cells (pkC (clr P) A7 l.length l.length) 30 (0, 0))).alloc (.cells (faultC 0 0) 47 (0, 0)) = w8 at *
    have c34 := (bk_cell KM8.out 34).trans (pkC_fi _ _ _ _)
    have c36 := (bk_cell KM8.out 36).trans (pkC_fo _ _ _ _)
    have c37 := (bk_cell KM8.out 37).trans (pkC_fm _ _ _ _)
    have q1 := fun w => eqFault 0 0 w
    have lp := bk_lt KM8.out
    obtain ⟨x0, hx0⟩ : ∃ x, x = w7.heap.size := ⟨_, rfl⟩
    rw [← hx0] at KX KY s7 ⊢
    clear hx0
    cases hfi : P.fi with
    | false =>
      rw [hfi] at c34
      have eC : clr P = P := by unfold clr whole; rw [hfi]; rfl
      go_upto_region 14 with fail
      rw [eC] at KX
      clear c34 c36 c37
      have HI9 := Lib.hid ((RI.out.below F8.out (Nat.le_refl _)).mono F8.out.size)
      have vKM8 := KM8.out; have wKM8 := bk_lt vKM8
      have vKX := KX.out; have wKX := bk_lt vKX
      have vKY := KY.out; have wKY := bk_lt vKY
      go_wp2_with fail
      refine (samePacket_any (P) A A7 l c l.length w8 HI9.out HG8.out (by omega)).mono ?_
      rintro e w10 ⟨rfl, b10⟩
      clear vKM8 wKM8
      clear vKX wKX
      clear vKY wKY
      have F10 := Lib.hid (F8.out.trans (b10.mono F8.out.size))
      clear b10 F8 KM8 KX KY HG8
      go_wp2_with fail
      refine (lives9_any _).mono ?_
      rintro e w11 ⟨rfl, b11⟩
      have F11 := Lib.hid (F10.out.trans (b11.mono F10.out.size))
      clear b11
      go_wp2_with fail
      go_ret
      exact ⟨rfl, F11.out⟩
    | true =>
      rw [hfi] at c34
      by_cases hfo : P.fo = 0
      · rw [hfo] at c36
        cases hfm : P.fm with
        | true =>
          rw [hfm] at c37
          have eC : clr P = P := by unfold clr whole; rw [hfi, hfo, hfm]; rfl
          go_upto_region 14 with fail
          rw [eC] at KX
          clear c34 c36 c37
          have HI9 := Lib.hid ((RI.out.below F8.out (Nat.le_refl _)).mono F8.out.size)
          have vKM8 := KM8.out; have wKM8 := bk_lt vKM8
          have vKX := KX.out; have wKX := bk_lt vKX
          have vKY := KY.out; have wKY := bk_lt vKY
          go_wp2_with fail
          refine (samePacket_any (P) A A7 l c l.length w8 HI9.out HG8.out (by omega)).mono ?_
          rintro e w10 ⟨rfl, b10⟩
          clear vKM8 wKM8
          clear vKX wKX
          clear vKY wKY
          have F10 := Lib.hid (F8.out.trans (b10.mono F8.out.size))
          clear b10 F8 KM8 KX KY HG8
          go_wp2_with fail
          refine (lives9_any _).mono ?_
          rintro e w11 ⟨rfl, b11⟩
          have F11 := Lib.hid (F10.out.trans (b11.mono F10.out.size))
          clear b11
          go_wp2_with fail
          go_ret
          exact ⟨rfl, F11.out⟩
        | false =>
          rw [hfm] at c37
          have s34 := fun (P : Pk) (A : Option Addr) (n c : Nat) => pkC_spl34 (p := P) (A := A) (n := n) (c := c) false 0 0 false (by decide) (by decide)
          have kd := KM8.out
          go_upto_region 14 with fail
          have eP : ({ P with fi := false, fid := 0, fo := 0, fm := false, hid := by decide, ho := by decide } : Pk) = clr P := by
            have hw : whole P = true := by unfold whole; rw [hfi, hfo, hfm]; rfl
            unfold clr; rw [if_pos hw]
          change Code.wp _ _ _ _ (w8.setRow w.heap.size (pkC { P with fi := false, fid := 0, fo := 0, fm := false, hid := by decide, ho := by decide } A l.length c))
          rw [eP]
          have KM9 : Hid (bk (w8.setRow w.heap.size (pkC (clr P) A l.length c)) w.heap.size = some (.cells (pkC (clr P) A l.length c) 30 (0, 0))) := Lib.hid (by rw [bk_setRow_same, kd]; rfl)
          have F9 : Hid (Below w.heap.size w (w8.setRow w.heap.size (pkC (clr P) A l.length c))) := Lib.hid (below_setRow F8.out (Nat.le_refl _) _)
          have KX9 : Hid (bk (w8.setRow w.heap.size (pkC (clr P) A l.length c)) x0 = _) := Lib.hid ((bk_setRow_other _ _ _ _ (by omega)).trans KX.out)
          have KY9 : Hid (bk (w8.setRow w.heap.size (pkC (clr P) A l.length c)) (x0 + 1) = _) := Lib.hid ((bk_setRow_other _ _ _ _ (by omega)).trans KY.out)
          have HG9 : Hid (Rd (w8.setRow w.heap.size (pkC (clr P) A l.length c)) (w8.setRow w.heap.size (pkC (clr P) A l.length c)).heap.size A7 l) := Lib.hid (HG8.out.setRow9 HGL.out.1 HGL.out.2)
          clear s34 kd c34 c36 c37 eP F8 KM8 KX KY HG8 lp
          generalize w8.setRow w.heap.size (pkC (clr P) A l.length c) = w9 at *
          have lp := bk_lt KM9.out
          have HI9 := Lib.hid ((RI.out.below F9.out (Nat.le_refl _)).mono F9.out.size)
          have vKM9 := KM9.out; have wKM9 := bk_lt vKM9
          have vKX9 := KX9.out; have wKX9 := bk_lt vKX9
          have vKY9 := KY9.out; have wKY9 := bk_lt vKY9
          go_wp2_with fail
          refine (samePacket_any ((clr P)) A A7 l c l.length w9 HI9.out HG9.out (by omega)).mono ?_
          rintro e w10 ⟨rfl, b10⟩
          clear vKM9 wKM9
          clear vKX9 wKX9
          clear vKY9 wKY9
          have F10 := Lib.hid (F9.out.trans (b10.mono F9.out.size))
          clear b10 F9 KM9 KX9 KY9 HG9
          go_wp2_with fail
          refine (lives9_any _).mono ?_
          rintro e w11 ⟨rfl, b11⟩
          have F11 := Lib.hid (F10.out.trans (b11.mono F10.out.size))
          clear b11
          go_wp2_with fail
          go_ret
          exact ⟨rfl, F11.out⟩
      · have e6 : ((P.fo : Int) == 0) = false := beq_eq_false_iff_ne.2 (by omega)
        have eC : clr P = P := by unfold clr whole; rw [hfi, show (P.fo == 0) = false from beq_eq_false_iff_ne.2 hfo]; rfl
        go_upto_region 14 with fail
        rw [eC] at KX
        clear c34 c36 c37
        have HI9 := Lib.hid ((RI.out.below F8.out (Nat.le_refl _)).mono F8.out.size)
        have vKM8 := KM8.out; have wKM8 := bk_lt vKM8
        have vKX := KX.out; have wKX := bk_lt vKX
        have vKY := KY.out; have wKY := bk_lt vKY
        go_wp2_with fail
        refine (samePacket_any (P) A A7 l c l.length w8 HI9.out HG8.out (by omega)).mono ?_
        rintro e w10 ⟨rfl, b10⟩
        clear vKM8 wKM8
        clear vKX wKX
        clear vKY wKY
        have F10 := Lib.hid (F8.out.trans (b10.mono F8.out.size))
        clear b10 F8 KM8 KX KY HG8
        go_wp2_with fail
        refine (lives9_any _).mono ?_
        rintro e w11 ⟨rfl, b11⟩
        have F11 := Lib.hid (F10.out.trans (b11.mono F10.out.size))
        clear b11
        go_wp2_with fail
        go_ret
        exact ⟨rfl, F11.out⟩
theorem headersBack_walkT (p : Pk) (A : Option Addr) (l : List UInt8) (c : Nat) (Ab : Option Addr) (bh : List UInt8) (cb cut : Nat) (w : World) (h : Rd w w.heap.size A l) (hA : A = none → l = [] ∧ c = 0)
    (hB : Rd w w.heap.size Ab bh) (hAB : Ab = none → bh = [] ∧ cb = 0) (hl : l.length ≤ 2000) (hb : bh.length ≤ 1000) (hcut : cut < 65536) (hn : numO p.nx = false) (hfi : p.fi = true) :
    Calls Try.prog 8 #[.agg (pkC p A l.length c), .slice Ab bh.length cb, .int .u16 (cut : Int)] w fun e w' => e = .returned (.bool true) ∧ Below w.heap.size w w' := by
  have RI := Lib.hid h; have HA := Lib.hid hA; have RB := Lib.hid hB; have HAB := Lib.hid hAB; have HN := Lib.hid hn
  clear h hA hB hAB
  have d1 : decide (2000 < (l.length : Int)) = false := by simp; omega
  have d2 : decide (2000 < l.length) = false := by simp; omega
  have d3 : decide (1000 < (bh.length : Int)) = false := by simp; omega
  have d4 : decide (1000 < bh.length) = false := by simp; omega
  have NM := number_any p.nx (w.alloc (.cells (pkC p A l.length c) 30))
  rw [hn] at NM
  have NM' := Lib.hid NM
  clear NM hn
  go_enter Try.func8, Try.ntmps8
  go_wp2_with fail
  refine NM'.out.mono ?_
  rintro e wn ⟨rfl, rfl⟩
  clear NM'
  go_upto_region 3 with fail
  have a0 : Below w.heap.size w (w.alloc (.cells (pkC p A l.length c) 30 (0, 0))) := (by (repeat (first | exact Below.refl _ _ | assumption | refine Below.drew ?_ | refine bdrewN ?_ _ | refine Below.alloc ?_ (by first | omega | (simp <;> omega) | (simp only [World.size_alloc] <;> omega)) _ | refine below_setRow ?_ (by first | omega | (simp <;> omega)) _ | refine Below.setCell ?_ (by first | omega | (simp <;> omega)) _)))
  have KD := Lib.hid (bk_alloc_at w (.cells (pkC p A l.length c) 30 (0, 0)) w.heap.size rfl)
  have F := Lib.hid a0
  clear a0
  change Code.wp _ _ _ _ (w.alloc (.cells (pkC p A l.length c) 30 (0, 0)))
  generalize w.alloc (.cells (pkC p A l.length c) 30 (0, 0)) = w0 at *
  have lp := bk_lt KD.out
  have c34 := (bk_cell KD.out 34).trans (pkC_fi _ _ _ _)
  have hnn := nrm_norm p
  have hnx : numO (nrm p).nx = false := by rw [nrm_nx]; exact HN.out
  rw [hfi] at c34
  go_upto_region 5 with fail
  have eP : p = nrm p := by unfold nrm; rw [if_pos hfi]
  have KN : Hid (bk w0 w.heap.size = some (.cells (pkC (nrm p) A l.length c) 30 (0, 0))) := by rw [← eP]; exact KD
  have F1 := F
  clear c34 KD eP lp F
  generalize hw01 : w0 = w1 at *
  clear hw01
  have RI1 := Lib.hid ((RI.out.below F1.out (Nat.le_refl _)).mono F1.out.size)
  obtain ⟨P, hP⟩ : ∃ P, P = nrm p := ⟨_, rfl⟩
  rw [← hP] at KN hnn hnx
  have HP := Lib.hid (And.intro hnn hnx)
  clear hP hnn hnx
  have vKN := KN.out; have wKN := bk_lt vKN
  go_wp2_with fail
  refine (hput_any P A l c w1 RI1.out HA.out (by omega)).mono ?_
  rintro e w2 ⟨hp, b2⟩
  clear vKN wKN
  have F2 := Lib.hid (F1.out.trans (b2.mono F1.out.size))
  have KM := Lib.hid (bk_keep b2 (bk_lt KN.out) KN.out)
  clear b2 KN F1 RI1
  unfold PutGot at hp
  by_cases hbad : pkBad P l = true
  · rw [if_pos hbad] at hp
    subst hp
    obtain ⟨f1, f2⟩ := pkBad_fi P l hl hbad
    have c34 := (bk_cell KM.out 34).trans (pkC_fi _ _ _ _)
    have c36 := (bk_cell KM.out 36).trans (pkC_fo _ _ _ _)
    rw [f1] at c34
    have e1 : decide (8191 < (P.fo : Int)) = true := by simp; omega
    have e2 : decide (8191 < P.fo) = true := by simp; omega
    have vl := bk_lt KM.out
    have LV := Lib.hid (lives9_any w2)
    have FZ := F2
    clear f2 hbad
    go_wp2_with fail
    refine LV.out.mono ?_
    rintro e wq ⟨rfl, bq⟩
    have F3 := Lib.hid (FZ.out.trans (bq.mono FZ.out.size))
    clear bq
    go_wp2_with fail
    go_ret
    exact ⟨rfl, F3.out⟩
  · rw [if_neg hbad] at hp
    obtain ⟨A', c', rfl, ho⟩ := hp
    have hbad' : pkBad P l = false := by simpa using hbad
    have HBD := Lib.hid hbad'
    have hLL := pkB_len P l
    have hml := more_len P
    unfold pln at hLL
    obtain ⟨L, hL⟩ : ∃ L, L = pkB P l := ⟨_, rfl⟩
    rw [← hL] at ho hLL ⊢
    have HL := Lib.hid hL
    obtain ⟨k, hk⟩ : ∃ k, k = cut % L.length := ⟨_, rfl⟩
    have hkL : k < L.length := by rw [hk]; exact Nat.mod_lt _ (by omega)
    have r3 : ((L.length : Int) == 0) = false := beq_eq_false_iff_ne.2 (by omega)
    have c39 := (bk_cell KM.out 39).trans (pkC_body _ _ _ _)
    have e1 : decide ((L.length : Int) < 40 + (l.length : Int)) = false := by simp; omega
    have e2 : decide (L.length < 40 + l.length) = false := by simp; omega
    have vl := bk_lt KM.out
    have HLL := Lib.hid (And.intro hLL hml)
    have RL := Rd.of_own ho rfl
    obtain ⟨A'', c'', eL, hRL, hNL, hCL⟩ := RL
    cases eL
    have HO := Lib.hid ho
    have hRk : Rd w2 w2.heap.size A' (L.take k) := fun h0 => by
      obtain ⟨b0, o0, e0, hlt0, hc0⟩ := hRL (by rw [List.length_take] at h0; omega)
      exact ⟨b0, o0, e0, hlt0, fun j hj => by rw [List.getElem_take]; exact hc0 j (by rw [List.length_take] at hj; omega)⟩
    have hlk : (L.take k).length = k := by rw [List.length_take]; omega
    have G := hget_any A' (L.take k) c' w2 hRk (by omega)
    rw [hlk] at G
    have hT1 : gT (L.take k) = tlE 5 := by rw [HL.out]; exact gT_cut P l hl k (by rw [← HL.out]; exact hkL)
    have HG1 : Hid (Calls Try.prog 22 #[.slice A' k c'] w2 fun e w' => ∃ (G1 : Pk) (A5 : Option Addr), e = .returned (.tuple #[.agg (pkC G1 A5 0 0), .agg (faultC 0 0), .int .i64 5]) ∧ Below w2.heap.size w2 w') := Lib.hid (G.mono fun e w' ⟨A5, he, _, hb'⟩ => ⟨gP (L.take k), A5, by rw [he, hT1]; rfl, hb'⟩)
    have HRL := Lib.hid (And.intro hRL (And.intro hNL hCL))
    have kc : k ≤ c' := by omega
    have r4 : wrap64 (cut : Int) = (cut : Int) := by unfold wrap64; omega
    have kn : (L.length : Int) ≠ 0 := by omega
    have knn : L.length ≠ 0 := by omega
    have HRK : Hid (cut % L.length = k) := Lib.hid hk.symm
    clear hL hk hbad hbad' hLL hml G hT1 hRk hlk ho hRL hNL
    obtain ⟨N, hN⟩ : ∃ N, N = L.length := ⟨_, rfl⟩
    have rk : cut % N = k := by rw [hN]; exact HRK.out
    have e3 : ¬ ((N : Int) < 40 + (l.length : Int)) := by rw [hN]; simpa using e1
    have e4 : ¬ (N < 40 + l.length) := by rw [hN]; simpa using e2
    rw [← hN]
    have HNN := Lib.hid hN
    have kn' : (N : Int) ≠ 0 := by rw [hN]; exact kn
    have knn' : N ≠ 0 := by rw [hN]; exact knn
    have r3' : ((N : Int) == 0) = false := by rw [hN]; exact r3
    clear hN kn knn r3 e1 e2
    go_upto_region 10 with fail
    clear c39
    go_wp2_with fail
    refine HG1.out.mono ?_
    rintro e w3 ⟨G1, A5, rfl, b3⟩
    have F3 := Lib.hid (F2.out.trans (b3.mono F2.out.size))
    have KM3 := Lib.hid (bk_keep b3 (bk_lt KM.out) KM.out)
    have HRL3 := Lib.hid ((HRL.out.1.below b3 (Nat.le_refl _)).mono b3.size)
    clear b3 F2 KM HG1
    go_upto_region 11 with fail
    have a4 : Below w3.heap.size w3 ((w3.alloc (.cells (pkC G1 A5 0 0) 30 (0, 0))).alloc (.cells (faultC 0 0) 47 (0, 0))) := (by (repeat (first | exact Below.refl _ _ | assumption | refine Below.drew ?_ | refine bdrewN ?_ _ | refine Below.alloc ?_ (by first | omega | (simp <;> omega) | (simp only [World.size_alloc] <;> omega)) _ | refine below_setRow ?_ (by first | omega | (simp <;> omega)) _ | refine Below.setCell ?_ (by first | omega | (simp <;> omega)) _)))
    have F4 := Lib.hid (F3.out.trans (a4.mono F3.out.size))
    have KM4 := Lib.hid (bk_keep a4 (bk_lt KM3.out) KM3.out)
    have HRL4 := Lib.hid ((HRL3.out.below a4 (Nat.le_refl _)).mono a4.size)
    change Code.wp _ _ _ _ ((w3.alloc (.cells (pkC G1 A5 0 0) 30 (0, 0))).alloc (.cells (faultC 0 0) 47 (0, 0)))
    clear a4 F3 KM3 HRL3
    generalize (w3.alloc (.cells (pkC G1 A5 0 0) 30 (0, 0))).alloc (.cells (faultC 0 0) 47 (0, 0)) = w4 at *
    have hN := HNN.out
    subst hN
    have HB4 := Lib.hid ((RB.out.below F4.out (Nat.le_refl _)).mono F4.out.size)
    have hL47 : L.length < 3000 := by have := HLL.out; omega
    refine wp_region_lit ?_
    refine wpList_step (fun K hK => ?_)
    go_simp
    refine hK _ _ ?_
    clear hK K
    refine append_rd rfl _ _ rfl w4.heap.size (.slice none 0 0) 0 [] rfl ⟨rfl, .inl ⟨rfl, rfl⟩⟩ A' L c' rfl HRL.out.2.1 HRL4.out (by omega) (Nat.le_refl _) ?_
    intro v5 w5 ho5 hg5
    have b5 : Hid (Below w4.heap.size w4 w5) := Lib.hid ((Below.refl _ _).grown hg5 (Nat.le_refl _) (fun x hx => by cases hx))
    have HO5 : Hid (w5.ownsRow w4.heap.size 5 1 v5 L.length (List.map B L)) := Lib.hid (by simpa using ho5)
    have HB5 := Lib.hid ((HB4.out.below b5.out (Nat.le_refl _)).mono b5.out.size)
    clear ho5 hg5 HB4 HO HRL4
    refine wpList_step (fun K hK => ?_)
    go_simp
    refine hK _ _ ?_
    clear hK K
    refine append_rd rfl _ _ rfl w4.heap.size v5 L.length (List.map B L) rfl HO5.out Ab bh cb rfl HAB.out HB5.out (by omega) b5.out.size ?_
    intro v6 w6 ho6 hg6
    have b6 : Below w4.heap.size w4 w6 := b5.out.grown hg6 b5.out.size (fun x hx => (HO5.out.lt x hx).1)
    have F6 := Lib.hid (F4.out.trans (b6.mono F4.out.size))
    have KM6 := Lib.hid (bk_keep b6 (bk_lt KM4.out) KM4.out)
    obtain ⟨M, hM⟩ : ∃ M, M = L ++ bh := ⟨_, rfl⟩
    have hMl : L.length + bh.length = M.length := by rw [hM, List.length_append]
    have ho6' : w6.ownsRow w4.heap.size 5 1 v6 M.length (List.map B M) := by rw [← hMl, hM, List.map_append]; exact ho6
    obtain ⟨A6, c6, rfl, hR6, hN6, hC6⟩ := Rd.of_own ho6' rfl
    have HE : gT M = tlB P l P.al ∧ gP M = clr P := by
      rw [hM, HL.out]
      exact ⟨gT_back P l bh hl HP.out.2 HBD.out, gP_back P l bh hl HP.out.2 HBD.out HP.out.1⟩
    have hE := tlB_e P l
    have hM47 : M.length < 2 ^ 30 := by omega
    have G := hget_any A6 M c6 w6 hR6 hM47
    unfold HGet at G
    rw [HE.1, HE.2, hE.1, hE.2.1, hE.2.2.1, hE.2.2.2] at G
    have HG6 := Lib.hid G
    clear ho6 ho6' hg6 b6 b5 HO5 HB5 KM4 F4 HE hE G hM47 hM hMl hR6 hN6 hC6
    go_wp2_with fail

    refine HG6.out.mono ?_
    rintro e w7 ⟨A7, rfl, hg7, b7⟩
    have F7 := Lib.hid (F6.out.trans (b7.mono F6.out.size))
    have KM7 := Lib.hid (bk_keep b7 (bk_lt KM6.out) KM6.out)
    have HI7 := Lib.hid ((RI.out.below F7.out (Nat.le_refl _)).mono F7.out.size)
    have HG7 := Lib.hid hg7.rd
    have HGL := Lib.hid (And.intro hg7.lo (bk_lt KM6.out))
    clear hg7 b7 F6 KM6 HG6 HP HBD HLL HL HRL HAB RB
    go_upto_region 12 with fail
    have a8 : Below w7.heap.size w7 ((w7.alloc (.cells (pkC (clr P) A7 l.length l.length) 30 (0, 0))).alloc (.cells (faultC 0 0) 47 (0, 0))) := (by (repeat (first | exact Below.refl _ _ | assumption | refine Below.drew ?_ | refine bdrewN ?_ _ | refine Below.alloc ?_ (by first | omega | (simp <;> omega) | (simp only [World.size_alloc] <;> omega)) _ | refine below_setRow ?_ (by first | omega | (simp <;> omega)) _ | refine Below.setCell ?_ (by first | omega | (simp <;> omega)) _)))
    have KX : Hid (bk ((w7.alloc (.cells (pkC (clr P) A7 l.length l.length) 30 (0, 0))).alloc (.cells (faultC 0 0) 47 (0, 0))) w7.heap.size = some (.cells (pkC (clr P) A7 l.length l.length) 30 (0, 0))) := Lib.hid (by
      rw [bk_alloc_past _ _ _ (by simp), bk_alloc_at _ _ _ rfl])
    have KY : Hid (bk ((w7.alloc (.cells (pkC (clr P) A7 l.length l.length) 30 (0, 0))).alloc (.cells (faultC 0 0) 47 (0, 0))) (w7.heap.size + 1) = some (.cells (faultC 0 0) 47 (0, 0))) := Lib.hid (bk_alloc_at _ _ _ (by simp))
    have F8 := Lib.hid (F7.out.trans (a8.mono F7.out.size))
    have KM8 := Lib.hid (bk_keep a8 (bk_lt KM7.out) KM7.out)
    have HI8 := Lib.hid ((HI7.out.below a8 (Nat.le_refl _)).mono a8.size)
    have HG8 := Lib.hid ((HG7.out.below a8 (Nat.le_refl _)).mono a8.size)
    have s7 := bk_lt KM7.out
    change Code.wp _ _ _ _ ((w7.alloc (.cells (pkC (clr P) A7 l.length l.length) 30 (0, 0))).alloc (.cells (faultC 0 0) 47 (0, 0)))
    clear a8 F7 KM7 HI7 HG7
    generalize (w7.alloc (.cells (pkC (clr P) A7 l.length l.length) 30 (0, 0))).alloc (.cells (faultC 0 0) 47 (0, 0)) = w8 at *
    have c34 := (bk_cell KM8.out 34).trans (pkC_fi _ _ _ _)
    have c36 := (bk_cell KM8.out 36).trans (pkC_fo _ _ _ _)
    have c37 := (bk_cell KM8.out 37).trans (pkC_fm _ _ _ _)
    have q1 := fun w => eqFault 0 0 w
    have lp := bk_lt KM8.out
    obtain ⟨x0, hx0⟩ : ∃ x, x = w7.heap.size := ⟨_, rfl⟩
    rw [← hx0] at KX KY s7 ⊢
    clear hx0
    cases hfi : P.fi with
    | false =>
      rw [hfi] at c34
      have eC : clr P = P := by unfold clr whole; rw [hfi]; rfl
      go_upto_region 14 with fail
      rw [eC] at KX
      clear c34 c36 c37
      have HI9 := Lib.hid ((RI.out.below F8.out (Nat.le_refl _)).mono F8.out.size)
      have vKM8 := KM8.out; have wKM8 := bk_lt vKM8
      have vKX := KX.out; have wKX := bk_lt vKX
      have vKY := KY.out; have wKY := bk_lt vKY
      go_wp2_with fail
      refine (samePacket_any (P) A A7 l c l.length w8 HI9.out HG8.out (by omega)).mono ?_
      rintro e w10 ⟨rfl, b10⟩
      clear vKM8 wKM8
      clear vKX wKX
      clear vKY wKY
      have F10 := Lib.hid (F8.out.trans (b10.mono F8.out.size))
      clear b10 F8 KM8 KX KY HG8
      go_wp2_with fail
      refine (lives9_any _).mono ?_
      rintro e w11 ⟨rfl, b11⟩
      have F11 := Lib.hid (F10.out.trans (b11.mono F10.out.size))
      clear b11
      go_wp2_with fail
      go_ret
      exact ⟨rfl, F11.out⟩
    | true =>
      rw [hfi] at c34
      by_cases hfo : P.fo = 0
      · rw [hfo] at c36
        cases hfm : P.fm with
        | true =>
          rw [hfm] at c37
          have eC : clr P = P := by unfold clr whole; rw [hfi, hfo, hfm]; rfl
          go_upto_region 14 with fail
          rw [eC] at KX
          clear c34 c36 c37
          have HI9 := Lib.hid ((RI.out.below F8.out (Nat.le_refl _)).mono F8.out.size)
          have vKM8 := KM8.out; have wKM8 := bk_lt vKM8
          have vKX := KX.out; have wKX := bk_lt vKX
          have vKY := KY.out; have wKY := bk_lt vKY
          go_wp2_with fail
          refine (samePacket_any (P) A A7 l c l.length w8 HI9.out HG8.out (by omega)).mono ?_
          rintro e w10 ⟨rfl, b10⟩
          clear vKM8 wKM8
          clear vKX wKX
          clear vKY wKY
          have F10 := Lib.hid (F8.out.trans (b10.mono F8.out.size))
          clear b10 F8 KM8 KX KY HG8
          go_wp2_with fail
          refine (lives9_any _).mono ?_
          rintro e w11 ⟨rfl, b11⟩
          have F11 := Lib.hid (F10.out.trans (b11.mono F10.out.size))
          clear b11
          go_wp2_with fail
          go_ret
          exact ⟨rfl, F11.out⟩
        | false =>
          rw [hfm] at c37
          have s34 := fun (P : Pk) (A : Option Addr) (n c : Nat) => pkC_spl34 (p := P) (A := A) (n := n) (c := c) false 0 0 false (by decide) (by decide)
          have kd := KM8.out
          go_upto_region 14 with fail
          have eP : ({ P with fi := false, fid := 0, fo := 0, fm := false, hid := by decide, ho := by decide } : Pk) = clr P := by
            have hw : whole P = true := by unfold whole; rw [hfi, hfo, hfm]; rfl
            unfold clr; rw [if_pos hw]
          change Code.wp _ _ _ _ (w8.setRow w.heap.size (pkC { P with fi := false, fid := 0, fo := 0, fm := false, hid := by decide, ho := by decide } A l.length c))
          rw [eP]
          have KM9 : Hid (bk (w8.setRow w.heap.size (pkC (clr P) A l.length c)) w.heap.size = some (.cells (pkC (clr P) A l.length c) 30 (0, 0))) := Lib.hid (by rw [bk_setRow_same, kd]; rfl)
          have F9 : Hid (Below w.heap.size w (w8.setRow w.heap.size (pkC (clr P) A l.length c))) := Lib.hid (below_setRow F8.out (Nat.le_refl _) _)
          have KX9 : Hid (bk (w8.setRow w.heap.size (pkC (clr P) A l.length c)) x0 = _) := Lib.hid ((bk_setRow_other _ _ _ _ (by omega)).trans KX.out)
          have KY9 : Hid (bk (w8.setRow w.heap.size (pkC (clr P) A l.length c)) (x0 + 1) = _) := Lib.hid ((bk_setRow_other _ _ _ _ (by omega)).trans KY.out)
          have HG9 : Hid (Rd (w8.setRow w.heap.size (pkC (clr P) A l.length c)) (w8.setRow w.heap.size (pkC (clr P) A l.length c)).heap.size A7 l) := Lib.hid (HG8.out.setRow9 HGL.out.1 HGL.out.2)
          clear s34 kd c34 c36 c37 eP F8 KM8 KX KY HG8 lp
          generalize w8.setRow w.heap.size (pkC (clr P) A l.length c) = w9 at *
          have lp := bk_lt KM9.out
          have HI9 := Lib.hid ((RI.out.below F9.out (Nat.le_refl _)).mono F9.out.size)
          have vKM9 := KM9.out; have wKM9 := bk_lt vKM9
          have vKX9 := KX9.out; have wKX9 := bk_lt vKX9
          have vKY9 := KY9.out; have wKY9 := bk_lt vKY9
          go_wp2_with fail
          refine (samePacket_any ((clr P)) A A7 l c l.length w9 HI9.out HG9.out (by omega)).mono ?_
          rintro e w10 ⟨rfl, b10⟩
          clear vKM9 wKM9
          clear vKX9 wKX9
          clear vKY9 wKY9
          have F10 := Lib.hid (F9.out.trans (b10.mono F9.out.size))
          clear b10 F9 KM9 KX9 KY9 HG9
          go_wp2_with fail
          refine (lives9_any _).mono ?_
          rintro e w11 ⟨rfl, b11⟩
          have F11 := Lib.hid (F10.out.trans (b11.mono F10.out.size))
          clear b11
          go_wp2_with fail
          go_ret
          exact ⟨rfl, F11.out⟩
      · have e6 : ((P.fo : Int) == 0) = false := beq_eq_false_iff_ne.2 (by omega)
        have eC : clr P = P := by unfold clr whole; rw [hfi, show (P.fo == 0) = false from beq_eq_false_iff_ne.2 hfo]; rfl
        go_upto_region 14 with fail
        rw [eC] at KX
        clear c34 c36 c37
        have HI9 := Lib.hid ((RI.out.below F8.out (Nat.le_refl _)).mono F8.out.size)
        have vKM8 := KM8.out; have wKM8 := bk_lt vKM8
        have vKX := KX.out; have wKX := bk_lt vKX
        have vKY := KY.out; have wKY := bk_lt vKY
        go_wp2_with fail
        refine (samePacket_any (P) A A7 l c l.length w8 HI9.out HG8.out (by omega)).mono ?_
        rintro e w10 ⟨rfl, b10⟩
        clear vKM8 wKM8
        clear vKX wKX
        clear vKY wKY
        have F10 := Lib.hid (F8.out.trans (b10.mono F8.out.size))
        clear b10 F8 KM8 KX KY HG8
        go_wp2_with fail
        refine (lives9_any _).mono ?_
        rintro e w11 ⟨rfl, b11⟩
        have F11 := Lib.hid (F10.out.trans (b11.mono F10.out.size))
        clear b11
        go_wp2_with fail
        go_ret
        exact ⟨rfl, F11.out⟩
theorem headersBack_any (p : Pk) (A : Option Addr) (l : List UInt8) (c : Nat) (Ab : Option Addr) (bh : List UInt8) (cb cut : Nat) (w : World) (h : Rd w w.heap.size A l) (hA : A = none → l = [] ∧ c = 0) (hL : l.length < 2 ^ 63)
    (hB : Rd w w.heap.size Ab bh) (hAB : Ab = none → bh = [] ∧ cb = 0) (hLB : bh.length < 2 ^ 63) (hcut : cut < 65536) :
    Calls Try.prog 8 #[.agg (pkC p A l.length c), .slice Ab bh.length cb, .int .u16 (cut : Int)] w fun e w' => e = .returned (.bool true) ∧ Below w.heap.size w w' := by
  by_cases h1 : 2000 < l.length
  · exact headersBack_long p A l.length c Ab bh.length cb cut w h1 hL
  by_cases h2 : 1000 < bh.length
  · exact headersBack_behind p A l.length c Ab bh.length cb cut w (by omega) h2 hLB
  cases hn : numO p.nx with
  | true => exact headersBack_number p A l.length c Ab bh.length cb cut w (by omega) (by omega) hn
  | false =>
    cases hfi : p.fi with
    | false => exact headersBack_walkF p A l c Ab bh cb cut w h hA hB hAB (by omega) (by omega) hcut hn hfi
    | true => exact headersBack_walkT p A l c Ab bh cb cut w h hA hB hAB (by omega) (by omega) hcut hn hfi
end Go.Proofs.Ytbfiakikhkiefaa

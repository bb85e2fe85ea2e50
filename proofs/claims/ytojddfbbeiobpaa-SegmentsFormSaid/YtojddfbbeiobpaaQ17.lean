/- SegmentsOptions, walked. -/
import Derived.Test.YtojddfbbeiobpaaMgB
import Derived.Deep.DeepCutAuto
namespace Go.Proofs.Ytojddfbbeiobpaa
open Go.RowKit
set_option maxRecDepth 100000
/-- Another option. -/
def otc (k l : UInt8) (m : Nat) : Array Value := #[B k, B l, .int .u16 (m : Int)]
@[go_sem] theorem otc_0 {k l : UInt8} {m : Nat} : (otc k l m)[0]? = some (B k) := by simp [otc]
@[go_sem] theorem otc_1 {k l : UInt8} {m : Nat} : (otc k l m)[1]? = some (B l) := by simp [otc]
@[go_sem] theorem otc_2 {k l : UInt8} {m : Nat} : (otc k l m)[2]? = some (.int .u16 m) := by simp [otc]
def slen : Value → Nat
  | .slice _ n _ => n
  | _ => 0
theorem slen_slice (A : Option Addr) (n c : Nat) : slen (.slice A n c) = n := rfl
theorem segmentsOptions_long (src dst : List UInt8) (s : Sg) (A : Option Addr) (n c : Nat) (zk zl : UInt8) (zm : Nat) (w : World) (h1 : src.length = 16) (h2 : dst.length = 16) (hl : 1000 < n ∨ s.ms = 0) :
    Calls Try.prog 6 #[av (src ++ dst), .agg (sgc s A n c), .agg (otc zk zl zm)] w fun e w' => e = .returned (.bool true) ∧ Below w.heap.size w w' := by
  obtain ⟨E, hE⟩ : ∃ E, E = src ++ dst := ⟨_, rfl⟩
  have q0 : sl E 0 16 = src := by rw [hE]; exact sl_src h1
  have q1 : sl E 16 16 = dst := by rw [hE]; exact sl_dst h1 h2
  have qn : E.length = 32 := by rw [hE, List.length_append]; omega
  rw [← hE]
  clear hE
  go_enter Try.func6, Try.ntmps6
  have a0 : Below w.heap.size w (((w.alloc (.cells (List.map B E).toArray 25)).alloc (.cells (sgc s A n c) 30)).alloc (.cells (otc zk zl zm) 50)) := (by (repeat (first | exact Below.refl _ _ | assumption | refine Below.drew ?_ | refine bdrewN ?_ _ | refine Below.alloc ?_ (by first | omega | (simp <;> omega) | (simp only [World.size_alloc] <;> omega)) _ | refine below_setRow ?_ (by first | omega | (simp <;> omega)) _ | refine Below.setCell ?_ (by first | omega | (simp <;> omega)) _)))
  have KE : Hid (bk (((w.alloc (.cells (List.map B E).toArray 25)).alloc (.cells (sgc s A n c) 30)).alloc (.cells (otc zk zl zm) 50)) w.heap.size = some (.cells (List.map B E).toArray 25 (0, 0))) := Lib.hid (by rw [bk_alloc_past _ _ _ (by simp <;> omega), bk_alloc_past _ _ _ (by simp)]; exact bk_alloc_at _ _ _ rfl)
  have KD : Hid (bk (((w.alloc (.cells (List.map B E).toArray 25)).alloc (.cells (sgc s A n c) 30)).alloc (.cells (otc zk zl zm) 50)) (w.heap.size + 1) = some (.cells (sgc s A n c) 30 (0, 0))) := Lib.hid (by rw [bk_alloc_past _ _ _ (by simp)]; exact bk_alloc_at _ _ _ (by simp))
  have KO : Hid (bk (((w.alloc (.cells (List.map B E).toArray 25)).alloc (.cells (sgc s A n c) 30)).alloc (.cells (otc zk zl zm) 50)) (w.heap.size + 1 + 1) = some (.cells (otc zk zl zm) 50 (0, 0))) := Lib.hid (bk_alloc_at _ _ _ (by simp))
  have F := Lib.hid a0
  have cd6 := (bk_cell KD.out 6).trans sgc_6
  have cd7 := (bk_cell KD.out 7).trans sgc_7
  have lD := bk_lt KD.out
  clear a0
  go_upto_region 1 with fail
  generalize ((w.alloc (.cells (List.map B E).toArray 25)).alloc (.cells (sgc s A n c) 30)).alloc (.cells (otc zk zl zm) 50) = w0 at *
  by_cases h3 : 1000 < n
  · have d1 : decide (1000 < (n : Int)) = true := by simp; omega
    have d2 : decide (1000 < n) = true := by simp; omega
    go_wp2_with fail
    refine (lives17_any _).mono ?_
    rintro e w1 ⟨rfl, b1⟩
    go_wp2_with fail
    go_ret
    exact ⟨rfl, F.out.trans (b1.mono F.out.size)⟩
  · have d1 : decide (1000 < (n : Int)) = false := by simp; omega
    have d2 : decide (1000 < n) = false := by simp; omega
    have d3 : ((s.ms : Int) == 0) = true := by simp; omega
    go_wp2_with fail
    refine (lives17_any _).mono ?_
    rintro e w1 ⟨rfl, b1⟩
    go_wp2_with fail
    go_ret
    exact ⟨rfl, F.out.trans (b1.mono F.out.size)⟩
set_option maxHeartbeats 2000000 in
theorem segmentsOptions_walk (src dst : List UInt8) (s : Sg) (A : Option Addr) (l : List UInt8) (c : Nat) (zk zl : UInt8) (zm : Nat) (w : World) (h1 : src.length = 16) (h2 : dst.length = 16) (hs : s.Ok) (h : Rd w w.heap.size A l) (hA : A = none → l = [] ∧ c = 0) (hl : l.length ≤ 1000) (hms : s.ms ≠ 0) (hzm : zm < 65536) :
    Calls Try.prog 6 #[av (src ++ dst), .agg (sgc s A l.length c), .agg (otc zk zl zm)] w fun e w' => e = .returned (.bool true) ∧ Below w.heap.size w w' := by
  have R0 := Lib.hid h; have HA := Lib.hid hA
  clear h hA
  obtain ⟨n, hn⟩ : ∃ n, n = l.length := ⟨_, rfl⟩
  have HN := Lib.hid hn
  have d1 : decide (1000 < (n : Int)) = false := by simp; omega
  have d2 : decide (1000 < n) = false := by simp; omega
  have d3 : ((s.ms : Int) == 0) = false := by simp; omega
  rw [← hn]
  have hn1 : n ≤ 1000 := by omega
  clear hn hl
  obtain ⟨E, hE⟩ : ∃ E, E = src ++ dst := ⟨_, rfl⟩
  have q0 : sl E 0 16 = src := by rw [hE]; exact sl_src h1
  have q1 : sl E 16 16 = dst := by rw [hE]; exact sl_dst h1 h2
  have qn : E.length = 32 := by rw [hE, List.length_append]; omega
  rw [← hE]
  clear hE
  go_enter Try.func6, Try.ntmps6
  have a0 : Below w.heap.size w (((w.alloc (.cells (List.map B E).toArray 25)).alloc (.cells (sgc s A n c) 30)).alloc (.cells (otc zk zl zm) 50)) := (by (repeat (first | exact Below.refl _ _ | assumption | refine Below.drew ?_ | refine bdrewN ?_ _ | refine Below.alloc ?_ (by first | omega | (simp <;> omega) | (simp only [World.size_alloc] <;> omega)) _ | refine below_setRow ?_ (by first | omega | (simp <;> omega)) _ | refine Below.setCell ?_ (by first | omega | (simp <;> omega)) _)))
  have KE : Hid (bk (((w.alloc (.cells (List.map B E).toArray 25)).alloc (.cells (sgc s A n c) 30)).alloc (.cells (otc zk zl zm) 50)) w.heap.size = some (.cells (List.map B E).toArray 25 (0, 0))) := Lib.hid (by rw [bk_alloc_past _ _ _ (by simp <;> omega), bk_alloc_past _ _ _ (by simp)]; exact bk_alloc_at _ _ _ rfl)
  have KD : Hid (bk (((w.alloc (.cells (List.map B E).toArray 25)).alloc (.cells (sgc s A n c) 30)).alloc (.cells (otc zk zl zm) 50)) (w.heap.size + 1) = some (.cells (sgc s A n c) 30 (0, 0))) := Lib.hid (by rw [bk_alloc_past _ _ _ (by simp)]; exact bk_alloc_at _ _ _ (by simp))
  have KO : Hid (bk (((w.alloc (.cells (List.map B E).toArray 25)).alloc (.cells (sgc s A n c) 30)).alloc (.cells (otc zk zl zm) 50)) (w.heap.size + 1 + 1) = some (.cells (otc zk zl zm) 50 (0, 0))) := Lib.hid (bk_alloc_at _ _ _ (by simp))
  have F := Lib.hid a0
  have cd6 := (bk_cell KD.out 6).trans sgc_6
  have cd7 := (bk_cell KD.out 7).trans sgc_7
  have lD := bk_lt KD.out
  clear a0
  go_upto_region 1 with fail
  generalize ((w.alloc (.cells (List.map B E).toArray 25)).alloc (.cells (sgc s A n c) 30)).alloc (.cells (otc zk zl zm) 50) = w0 at *
  have co0 := (bk_cell KO.out 0).trans otc_0
  have co1 := (bk_cell KO.out 1).trans otc_1
  have co2 := (bk_cell KO.out 2).trans otc_2
  have lO := bk_lt KO.out
  go_upto_if 29 with fail
  go_cut [7] (fun v wx => ∃ kd : UInt8, 3 ≤ kd.toNat ∧ v = B kd ∧ wx = w0)
  case first =>
    by_cases hk : zk.toNat < 3
    · have y1 : decide ((zk.toNat : Int) < 3) = true := by simp; omega
      go_wp2_with fail
      go_meet
      exact ⟨3, by decide, rfl, rfl⟩
    · have y1 : decide ((zk.toNat : Int) < 3) = false := by simp; omega
      go_wp2_with fail
      go_meet
      exact ⟨zk, by omega, rfl, rfl⟩
  case rest =>
    obtain ⟨kd, hk3, rfl, hwc⟩ := hcut
    obtain rfl : wc = w0 := hwc
    obtain ⟨lg, hlg⟩ : ∃ lg, lg = 2 + zl.toNat % 6 := ⟨_, rfl⟩
    have elg : 2 + (zl.toNat : Int) % 6 = (lg : Int) := by rw [hlg]; push_cast; rfl
    have hlg2 : 2 ≤ lg ∧ lg < 8 := by omega
    obtain ⟨lb, hlb⟩ : ∃ lb, lb = UInt8.ofNat lg := ⟨_, rfl⟩
    have elb : IntKind.u8.wrap (lg : Int) = (lb.toNat : Int) := by rw [IntKind.wrap_u8, hlb, UInt8.toNat_ofNat']; omega
    have esb : IntKind.i64.wrap ((lg : Int) - 2) = ((lg - 2 : Nat) : Int) := by rw [IntKind.wrap_i64]; omega
    have HLB := Lib.hid hlb
    clear hlg hlb
    go_wp2_with (at_builtin; refine append_zeros rfl _ _ rfl wc.heap.size ⟨wc.heap.size, 0, none⟩ [1, kd, lb] 3 3 rfl rfl rfl (Rd.lit wc [1, kd, lb] 5) (own_lit [1, kd, lb] (by simp)) (lg - 2) rfl (by simp; omega) (by simp) ?_)
    intro v1 w1 ho b1
    have a1 : Below wc.heap.size wc w1 := ((Below.refl _ _).alloc (Nat.le_refl _) _).trans (b1.mono (by simp))
    obtain ⟨P, hP⟩ : ∃ P, P = [1, kd, lb] ++ List.replicate (lg - 2) (0 : UInt8) := ⟨_, rfl⟩
    have pl : P.length = 1 + lg := by rw [hP]; simp; omega
    have ho' : w1.ownsRow wc.heap.size 5 1 v1 P.length (P.map B) := by
      rw [show P.map B = B 1 :: B kd :: B lb :: List.replicate (lg - 2) (B 0) by rw [hP]; simp, pl, show 1 + lg = 3 + (lg - 2) by omega]; exact ho
    obtain ⟨A1, c1, rfl, _, _, _⟩ := Rd.of_own ho' rfl
    have HO1 := Lib.hid ho'; have HP := Lib.hid hP; have PL := Lib.hid pl
    have nc := F.out.size
    have lc : wc.heap.size ≤ w1.heap.size := a1.size
    replace KE := Lib.hid (bk_keep a1 (by omega) KE.out); replace KD := Lib.hid (bk_keep a1 lD KD.out); replace KO := Lib.hid (bk_keep a1 lO KO.out)
    replace F := Lib.hid (F.out.trans (a1.mono F.out.size))
    clear co0 co1 co2 cd6 cd7 ho ho' hP pl b1 elg elb esb
    have cd6 := (bk_cell KD.out 6).trans sgc_6
    have co2 := (bk_cell KO.out 2).trans otc_2
    have lD1 := bk_lt KD.out
    have lO1 := bk_lt KO.out
    have bms := hs.ms
    obtain ⟨ma, hma⟩ : ∃ x, x = UInt8.ofNat (s.ms / 256) := ⟨_, rfl⟩
    obtain ⟨mb, hmb⟩ : ∃ x, x = UInt8.ofNat s.ms := ⟨_, rfl⟩
    obtain ⟨za, hza⟩ : ∃ x, x = UInt8.ofNat (zm / 256) := ⟨_, rfl⟩
    obtain ⟨zb, hzb⟩ : ∃ x, x = UInt8.ofNat zm := ⟨_, rfl⟩
    have ema : (s.ms : Int) / 256 = (ma.toNat : Int) := by rw [hma, UInt8.toNat_ofNat']; omega
    have emb : (s.ms : Int) % 256 = (mb.toNat : Int) := by rw [hmb, UInt8.toNat_ofNat']; omega
    have eza : (zm : Int) / 256 = (za.toNat : Int) := by rw [hza, UInt8.toNat_ofNat']; omega
    have ezb : (zm : Int) % 256 = (zb.toNat : Int) := by rw [hzb, UInt8.toNat_ofNat']; omega
    have EMS : Hid (256 * ma.toNat + mb.toNat = s.ms) := Lib.hid (by rw [hma, hmb, UInt8.toNat_ofNat', UInt8.toNat_ofNat']; omega)
    clear hma hmb hza hzb
    go_wp2_with (at_builtin; refine append_rd rfl _ _ rfl wc.heap.size (.slice A1 P.length c1) P.length (P.map B) rfl (HO1.out.alloc _) (some ⟨w1.heap.size, 0, none⟩) [2, 4, ma, mb, 2, 4, za, zb, 1, 0] 10 rfl (fun h => by cases h) (Rd.lit w1 [2, 4, ma, mb, 2, 4, za, zb, 1, 0] 5) (by rw [PL.out]; simp; omega) (by simp; omega) ?_)
    intro v2 w2 hown hgrow
    have b2a : Below w1.heap.size w1 (w1.alloc (.cells ([2, 4, ma, mb, 2, 4, za, zb, 1, 0].map B).toArray 5 (0, 0))) := (Below.refl _ _).alloc (Nat.le_refl _) _
    have lw1 := b2a.size
    have b2 : Below wc.heap.size w1 w2 := (b2a.mono lc).trans ((Below.refl wc.heap.size _).grown hgrow (by omega) (fun k hk => (HO1.out.lt k hk).1))
    obtain ⟨Q0, hQ0⟩ : ∃ Q, Q = P ++ [2, 4, ma, mb, 2, 4, za, zb, 1, 0] := ⟨_, rfl⟩
    have ql : Q0.length = 11 + lg := by rw [hQ0, List.length_append, PL.out]; simp; omega
    have ho2 : w2.ownsRow wc.heap.size 5 1 v2 Q0.length (Q0.map B) := by rw [hQ0, List.length_append, List.map_append]; exact hown
    obtain ⟨A2, c2, rfl, _, _, _⟩ := Rd.of_own ho2 rfl
    have HO2 := Lib.hid ho2; have HQ0 := Lib.hid hQ0
    replace KE := Lib.hid (bk_keep b2 (by omega) KE.out); replace KD := Lib.hid (bk_keep b2 (by omega) KD.out); replace KO := Lib.hid (bk_keep b2 (by omega) KO.out)
    replace F := Lib.hid (F.out.trans (b2.mono nc))
    have s2 := b2.size
    clear hown hgrow ho2 hQ0 b2a lw1 cd6 co2 ema emb eza ezb HO1
    obtain ⟨KK, hKK⟩ : ∃ K, K = Q0.length + (4 - Q0.length % 4) % 4 := ⟨_, rfl⟩
    have hKK24 : KK ≤ 24 := by omega
    clear ql
    go_wp2_with fail
    go_loopw [9] (fun v wr => ∃ (X : List UInt8) (A' : Option Addr) (c' : Nat), v = .slice A' (Q0 ++ X).length c' ∧ (Q0 ++ X).length + (4 - (Q0 ++ X).length % 4) % 4 = KK ∧ Hid (wr.ownsRow wc.heap.size 5 1 (.slice A' (Q0 ++ X).length c') (Q0 ++ X).length ((Q0 ++ X).map B)) ∧ Hid (Below wc.heap.size w2 wr)) (fun v _ => (4 - slen v % 4) % 4)
    case atStart => exact ⟨[], A2, c2, by simp, by simp [hKK], Lib.hid (by simpa using HO2.out), Lib.hid (Below.refl _ _)⟩
    case round =>
      obtain ⟨X, A', c', rfl, hK, HOX, HB⟩ := hrel
      obtain ⟨N, hN⟩ : ∃ N, N = (Q0 ++ X).length := ⟨_, rfl⟩
      rw [← hN] at hK HOX ⊢
      have HNX := Lib.hid hN
      clear hN
      have b3 := HB.out
      by_cases hm : N % 4 = 0
      · have y1 : ((N : Int) % 4 != 0) = false := by simp; omega
        have y2 : ((N : Int).tmod 4 != 0) = false := by rw [Int.tmod_eq_emod_of_nonneg (by omega)]; exact y1
        have hN24 : N ≤ 24 := by omega
        obtain ⟨O, hO⟩ : ∃ O, O = Q0 ++ X := ⟨_, rfl⟩
        have hOl : O.length = N := by rw [hO, HNX.out]
        rw [← hO] at HOX
        obtain ⟨Ax, cx, ex, hRx, hNx, hCx⟩ := Rd.of_own HOX.out hOl.symm
        cases ex
        have RX := Lib.hid hRx; have NX := Lib.hid hNx
        clear hRx hNx HOX
        have EO : Hid (omss O = some s.ms) := Lib.hid (by
          rw [hO, HQ0.out, HP.out, HLB.out, List.append_assoc _ _ X, omss_mix kd lg hk3 hlg2 ma mb za zb X, EMS.out])
        have HOl := Lib.hid hOl
        clear hOl hO HNX hK HQ0 HP EMS
        replace KE := Lib.hid (bk_keep b3 (by omega) KE.out); replace KD := Lib.hid (bk_keep b3 (by omega) KD.out)
        replace F := Lib.hid (F.out.trans (b3.mono nc))
        have s3 := b3.size
        clear b3 HB KO lO1
        have kd4 := KD.out
        have ld4 := bk_lt kd4
        go_upto_region 12 with fail
        obtain ⟨s0, hs0e⟩ : ∃ s0 : Sg, s0 = { s with ms := 0 } := ⟨_, rfl⟩
        have hs0 : s0.Ok := by rw [hs0e]; exact ⟨hs.f, hs.t, hs.sq, hs.ak, hs.wi, show 0 < 65536 by decide⟩
        have a4 : Below wr.heap.size wr (wr.alloc (.cells (sgc s A n c) 30 (0, 0))) := (Below.refl _ _).alloc (Nat.le_refl _) _
        obtain ⟨z, hz⟩ : ∃ z, z = wr.heap.size := ⟨_, rfl⟩
        have KZ : Hid (bk (wr.alloc (.cells (sgc s A n c) 30 (0, 0))) z = some (.cells (sgc s A n c) 30 (0, 0))) := Lib.hid (bk_alloc_at _ _ _ hz)
        replace KE := Lib.hid (bk_keep a4 (by omega) KE.out); replace KD := Lib.hid (bk_keep a4 ld4 KD.out)
        replace F := Lib.hid (F.out.trans (a4.mono F.out.size))
        have RX4 := Lib.hid (RX.out.below a4 (Nat.le_refl _))
        have hwz : w.heap.size + 1 < z := by omega
        rw [← hz] at RX4 ⊢
        clear hz a4 kd4 ld4 RX
        generalize wr.alloc (.cells (sgc s A n c) 30 (0, 0)) = w4 at *
        have z6 := (bk_cell KZ.out 6).trans sgc_6
        have f6 := bk_frozen KZ.out 6
        have lz := bk_lt KZ.out
        go_upto_region 13 with fail
        have a5 : Below z w4 (w4.setCell ⟨z, 6, none⟩ (.int .u16 0)) := (Below.refl _ _).setCell (p := ⟨z, 6, none⟩) (Nat.le_refl _) _
        have KZ5 : Hid (bk (w4.setCell ⟨z, 6, none⟩ (.int .u16 0)) z = some (.cells (sgc s0 A n c) 30 (0, 0))) := Lib.hid (by rw [bk_setCell_same, KZ.out, hs0e]; rfl)
        replace KE := Lib.hid (bk_keep a5 (by omega) KE.out); replace KD := Lib.hid (bk_keep a5 (by omega) KD.out)
        replace F := Lib.hid (F.out.trans (a5.mono (by omega)))
        have RX5 := Lib.hid ((RX4.out.below a5 (Nat.le_refl _)).mono (show z ≤ (w4.setCell ⟨z, 6, none⟩ (.int .u16 0)).heap.size by simp [World.setCell]; omega))
        have HS0 := Lib.hid hs0e
        clear a5 KZ RX4 z6 f6 lz hs0e
        generalize w4.setCell ⟨z, 6, none⟩ (.int .u16 0) = w5 at *
        have ke := KE.out
        have le := bk_lt ke
        have kz := KZ5.out
        have lz := bk_lt kz
        have e20 : sahd s0 = 20 := by rw [HS0.out]; rfl
        have C := sput_any src dst s0 hs0 A l c w5 h1 h2 ((R0.out.below F.out (Nat.le_refl _)).mono F.out.size) HA.out (by rw [e20, ← HN.out]; omega)
        rw [← HN.out] at C
        have HC := Lib.hid C
        clear C
        go_wp2_with fail
        refine HC.out.mono ?_
        rintro e w6 ⟨v6, rfl, ho6, b6⟩
        clear HC ke le kz lz KZ5
        obtain ⟨cs, hcs⟩ : ∃ cs, cs = ssum src dst s0 l := ⟨_, rfl⟩
        obtain ⟨D0, hD0⟩ : ∃ D, D = sgb src dst s0 l := ⟨_, rfl⟩
        have hD0e : D0 = shead s0 cs ++ l := by rw [hD0, hcs]; unfold sgb; rw [show sopt s0 = [] by unfold sopt; rw [HS0.out]; rfl]; rfl
        have hDl : D0.length = 20 + n := by rw [hD0e, List.length_append, shead_length, HN.out]
        rw [← hD0] at ho6
        obtain ⟨A6, c6, rfl, _⟩ := Rd.of_own ho6 rfl
        obtain ⟨g, cur, rfl, hg, hgs, hcu, hlc, htk⟩ := own_parts ho6 (by omega)
        have RD := Lib.hid (Rd.of_take hg htk (bk_lt hg))
        have HDe := Lib.hid hD0e; have HDl := Lib.hid hDl
        replace KE := Lib.hid (bk_keep b6 (bk_lt KE.out) KE.out); replace KD := Lib.hid (bk_keep b6 (bk_lt KD.out) KD.out)
        replace F := Lib.hid (F.out.trans (b6.mono F.out.size))
        replace RX5 := Lib.hid ((RX5.out.below b6 (Nat.le_refl _)).mono b6.size)
        have iD20 : decide ((D0.length : Int) < 20) = false := by simp; omega
        have x1 : 20 ≤ D0.length := by omega
        have x2 : 20 ≤ c6 := by omega
        have x3 : decide (20 ≤ D0.length) = true := by simp; omega
        have x4 : decide (20 ≤ c6) = true := by simp; omega
        have HCU := Lib.hid hcu
        clear b6 ho6 hg htk hcs hD0 hD0e hDl hgs hcu hlc
        go_upto_region 16 with fail
        go_cut [13] (fun v wx => ∃ A7 c7, v = .slice A7 (20 + O.length + n) c7 ∧ Hid (wx.ownsRow w6.heap.size 5 1 (.slice A7 (20 + O.length + n) c7) (20 + O.length + n) ((shead s0 cs ++ (O ++ l)).map B)) ∧ Hid (Below w6.heap.size w6 wx))
        case first =>
          have hh20 := shead_length s0 cs
          have RH : Hid (Rd w6 w6.heap.size (some ⟨g, 0, none⟩) (shead s0 cs)) := Lib.hid (by
            have h := RD.out.take (m := 20)
            rwa [HDe.out, List.take_left' (by exact hh20)] at h)
          obtain ⟨H, hH⟩ : ∃ H, H = shead s0 cs := ⟨_, rfl⟩
          rw [← hH] at hh20 RH
          obtain ⟨X4, hX4⟩ : ∃ X, X = H ++ O := ⟨_, rfl⟩
          obtain ⟨X7, hX7⟩ : ∃ X, X = X4 ++ l := ⟨_, rfl⟩
          have lX4 : X4.length = 20 + O.length := by rw [hX4, List.length_append, hh20]
          have lX7 : X7.length = 20 + O.length + n := by rw [hX7, List.length_append, lX4, HN.out]
          have HH := Lib.hid hh20; have HX4 := Lib.hid hX4; have HX7 := Lib.hid hX7; have LX4 := Lib.hid lX4; have LX7 := Lib.hid lX7; have HHe := Lib.hid hH
          clear hh20 hH hX4 hX7 lX4 lX7
          by_cases hc6 : c6 = 20
          · have RL : Hid (Rd w6 w6.heap.size (some ⟨g, 0, none⟩) l) := Lib.hid (by
              have : l = [] := List.eq_nil_of_length_eq_zero (by have := HCU.out; have := HDl.out; have := HN.out; omega)
              rw [this]; exact Rd.nil)
            subst hc6
            obtain ⟨M2, hM2⟩ : ∃ M : MadeW w6.heap.size, M = MadeW.own _ [] H := ⟨_, rfl⟩
            obtain ⟨M4, hM4⟩ : ∃ M : MadeW w6.heap.size, M = MadeW.own _ [5] X4 := ⟨_, rfl⟩
            obtain ⟨M7, hM7⟩ : ∃ M : MadeW w6.heap.size, M = MadeW.own _ [5] X7 := ⟨_, rfl⟩
            have H2 := Lib.hid hM2; have H4 := Lib.hid hM4; have H7 := Lib.hid hM7
            clear hM2 hM4 hM7
            refine wp_region_e (w6.heap.size) ([.own 2 H2, .own 4 H4, .own 7 H7]) (fun k => (([(4, [2]), (7, [4])] : List (Nat × List Nat)).lookup k).getD []) (Fs.nil) (by first | omega | (simp <;> omega)) (by kernel_rfl) (by kernel_rfl) (by kernel_rfl) (by kernel_rfl) EnvW.Ini.nil ?_
            refine walkW_segn 2 [] facts0 noneHx (by kernel_rfl) (by kernel_rfl) ?_
            simp only [List.take_succ_cons, List.take_zero, List.drop_succ_cons, List.drop_zero, Nat.reduceAdd]
            repeat (go_big_quiet_step (fail))
            (first | refine wpQuiet_nil ?_ | (go_big_quiet_want; (try go_big_quiet_op); trace_state; fail))
            refine walkW_mk (fun _ => M2) [] M2 ([]) facts0 (by kernel_rfl) (by kernel_rfl) (by kernel_rfl) rfl rfl (fun w' hb' hg' => ?_) (fun v2 h2 => ?_)
            · ((exact append_mk rfl H2 (l1 := []) (l2 := H) rfl rfl (World.ownsRow_nil _ _ _ _) rfl HH.out.symm (fun h => by cases h) ((RH.out.below hb' (Nat.le_refl _)).mono hb'.size) (by rw [HH.out]; decide) hb'.size (.inl rfl)))
            obtain ⟨A2, c2, rfl, n2, _⟩ := own_T H2 h2
            simp only [Act.put, List.setIfInBounds_toArray, List.set_cons_succ, List.set_cons_zero, Nat.reduceAdd]
            refine walkW_segn 1 [] facts0 noneHx (by kernel_rfl) (by kernel_rfl) ?_
            simp only [List.take_succ_cons, List.take_zero, List.drop_succ_cons, List.drop_zero, Nat.reduceAdd]
            repeat (go_big_quiet_step (fail))
            (first | refine wpQuiet_nil ?_ | (go_big_quiet_want; (try go_big_quiet_op); trace_state; fail))
            refine walkW_mk (fun _ => M4) [] M4 ([(2, M2.R (.slice A2 H.length c2))]) (facts1 fun w h => h.1 rfl) (by kernel_rfl) (by kernel_rfl) (by kernel_rfl) rfl rfl (fun w' hb' hg' => ?_) (fun v4 h4 => ?_)
            · ((exact append_mk rfl H4 (l1 := H) (l2 := O) HX4.out rfl (own_R H2 (hg' _ (.head _))) rfl rfl NX.out ((RX5.out.below hb' (Nat.le_refl _)).mono hb'.size) (by rw [HH.out]; omega) hb'.size (.inr (by simp))))
            obtain ⟨A4, c4, rfl, n4, _⟩ := own_T H4 h4
            simp only [Act.put, List.setIfInBounds_toArray, List.set_cons_succ, List.set_cons_zero, Nat.reduceAdd]
            refine walkW_segn 2 [] facts0 noneHx (by kernel_rfl) (by kernel_rfl) ?_
            simp only [List.take_succ_cons, List.take_zero, List.drop_succ_cons, List.drop_zero, Nat.reduceAdd]
            repeat (go_big_quiet_step (fail))
            (first | refine wpQuiet_nil ?_ | (go_big_quiet_want; (try go_big_quiet_op); trace_state; fail))
            refine walkW_mk (fun _ => M7) [] M7 ([(4, M4.R (.slice A4 X4.length c4))]) (facts1 fun w h => h.1 rfl) (by kernel_rfl) (by kernel_rfl) (by kernel_rfl) rfl rfl (fun w' hb' hg' => ?_) (fun v7 h7 => ?_)
            · ((exact append_mk rfl H7 (l1 := X4) (l2 := l) HX7.out rfl (own_R H4 (hg' _ (.head _))) rfl (by rw [← HN.out]; first | rfl | (have hd := HDl.out; have hc := HCU.out; omega)) (fun h => by cases h) ((RL.out.below hb' (Nat.le_refl _)).mono hb'.size) (by rw [LX4.out, ← HN.out]; omega) hb'.size (.inr (by simp))))
            obtain ⟨A7, c7, rfl, n7, _⟩ := own_T H7 h7
            simp only [Act.put, List.setIfInBounds_toArray, List.set_cons_succ, List.set_cons_zero, Nat.reduceAdd]
            refine walkW_segn 1 [] facts0 noneHx (by kernel_rfl) (by kernel_rfl) ?_
            simp only [List.take_succ_cons, List.take_zero, List.drop_succ_cons, List.drop_zero, Nat.reduceAdd]
            repeat (go_big_quiet_step (fail))
            (first | refine wpQuiet_nil ?_ | (go_big_quiet_want; (try go_big_quiet_op); trace_state; fail))
            refine walkW_nil ?_
            intro wx bx hf
            have hO7 := own_R H7 ((hf 7 (by kernel_rfl)).1 rfl)
            have HO7 := Lib.hid hO7
            have BX := Lib.hid bx
            clear hf hO7 bx
            go_wp2_with fail
            go_meet
            exact ⟨A7, c7, by rw [LX7.out], by rw [LX7.out, HX7.out, HX4.out, HHe.out, List.append_assoc] at HO7; exact HO7, BX⟩
          · have RL : Hid (Rd w6 w6.heap.size (some ⟨g, 20, none⟩) l) := Lib.hid (fun h0 => by
              obtain ⟨b', o', e', hlt', hj'⟩ := RD.out (by have := HDl.out; omega)
              cases e'
              refine ⟨g, 20, rfl, hlt', fun j hj => ?_⟩
              have hj2 := hj' (20 + j) (by have := HDl.out; have := HN.out; omega)
              rw [Nat.zero_add] at hj2
              rw [hj2]
              have : D0[20 + j]? = l[j]? := by rw [HDe.out, List.getElem?_append_right (by rw [shead_length]; omega), shead_length]; congr 1; omega
              rw [List.getElem?_eq_getElem (by have := HDl.out; have := HN.out; omega), List.getElem?_eq_getElem hj] at this
              rw [Option.some.inj this])
            obtain ⟨M2, hM2⟩ : ∃ M : MadeW w6.heap.size, M = MadeW.own _ [] H := ⟨_, rfl⟩
            obtain ⟨M4, hM4⟩ : ∃ M : MadeW w6.heap.size, M = MadeW.own _ [5] X4 := ⟨_, rfl⟩
            obtain ⟨M7, hM7⟩ : ∃ M : MadeW w6.heap.size, M = MadeW.own _ [5] X7 := ⟨_, rfl⟩
            have H2 := Lib.hid hM2; have H4 := Lib.hid hM4; have H7 := Lib.hid hM7
            clear hM2 hM4 hM7
            refine wp_region_e (w6.heap.size) ([.own 2 H2, .own 4 H4, .own 7 H7]) (fun k => (([(4, [2]), (7, [4])] : List (Nat × List Nat)).lookup k).getD []) (Fs.nil) (by first | omega | (simp <;> omega)) (by kernel_rfl) (by kernel_rfl) (by kernel_rfl) (by kernel_rfl) EnvW.Ini.nil ?_
            refine walkW_segn 2 [] facts0 noneHx (by kernel_rfl) (by kernel_rfl) ?_
            simp only [List.take_succ_cons, List.take_zero, List.drop_succ_cons, List.drop_zero, Nat.reduceAdd]
            repeat (go_big_quiet_step (fail))
            (first | refine wpQuiet_nil ?_ | (go_big_quiet_want; (try go_big_quiet_op); trace_state; fail))
            refine walkW_mk (fun _ => M2) [] M2 ([]) facts0 (by kernel_rfl) (by kernel_rfl) (by kernel_rfl) rfl rfl (fun w' hb' hg' => ?_) (fun v2 h2 => ?_)
            · ((exact append_mk rfl H2 (l1 := []) (l2 := H) rfl rfl (World.ownsRow_nil _ _ _ _) rfl HH.out.symm (fun h => by cases h) ((RH.out.below hb' (Nat.le_refl _)).mono hb'.size) (by rw [HH.out]; decide) hb'.size (.inl rfl)))
            obtain ⟨A2, c2, rfl, n2, _⟩ := own_T H2 h2
            simp only [Act.put, List.setIfInBounds_toArray, List.set_cons_succ, List.set_cons_zero, Nat.reduceAdd]
            refine walkW_segn 1 [] facts0 noneHx (by kernel_rfl) (by kernel_rfl) ?_
            simp only [List.take_succ_cons, List.take_zero, List.drop_succ_cons, List.drop_zero, Nat.reduceAdd]
            repeat (go_big_quiet_step (fail))
            (first | refine wpQuiet_nil ?_ | (go_big_quiet_want; (try go_big_quiet_op); trace_state; fail))
            refine walkW_mk (fun _ => M4) [] M4 ([(2, M2.R (.slice A2 H.length c2))]) (facts1 fun w h => h.1 rfl) (by kernel_rfl) (by kernel_rfl) (by kernel_rfl) rfl rfl (fun w' hb' hg' => ?_) (fun v4 h4 => ?_)
            · ((exact append_mk rfl H4 (l1 := H) (l2 := O) HX4.out rfl (own_R H2 (hg' _ (.head _))) rfl rfl NX.out ((RX5.out.below hb' (Nat.le_refl _)).mono hb'.size) (by rw [HH.out]; omega) hb'.size (.inr (by simp))))
            obtain ⟨A4, c4, rfl, n4, _⟩ := own_T H4 h4
            simp only [Act.put, List.setIfInBounds_toArray, List.set_cons_succ, List.set_cons_zero, Nat.reduceAdd]
            refine walkW_segn 2 [] facts0 noneHx (by kernel_rfl) (by kernel_rfl) ?_
            simp only [List.take_succ_cons, List.take_zero, List.drop_succ_cons, List.drop_zero, Nat.reduceAdd]
            repeat (go_big_quiet_step (fail))
            (first | refine wpQuiet_nil ?_ | (go_big_quiet_want; (try go_big_quiet_op); trace_state; fail))
            refine walkW_mk (fun _ => M7) [] M7 ([(4, M4.R (.slice A4 X4.length c4))]) (facts1 fun w h => h.1 rfl) (by kernel_rfl) (by kernel_rfl) (by kernel_rfl) rfl rfl (fun w' hb' hg' => ?_) (fun v7 h7 => ?_)
            · ((exact append_mk rfl H7 (l1 := X4) (l2 := l) HX7.out rfl (own_R H4 (hg' _ (.head _))) rfl (by rw [← HN.out]; first | rfl | (have hd := HDl.out; have hc := HCU.out; omega)) (fun h => by cases h) ((RL.out.below hb' (Nat.le_refl _)).mono hb'.size) (by rw [LX4.out, ← HN.out]; omega) hb'.size (.inr (by simp))))
            obtain ⟨A7, c7, rfl, n7, _⟩ := own_T H7 h7
            simp only [Act.put, List.setIfInBounds_toArray, List.set_cons_succ, List.set_cons_zero, Nat.reduceAdd]
            refine walkW_segn 1 [] facts0 noneHx (by kernel_rfl) (by kernel_rfl) ?_
            simp only [List.take_succ_cons, List.take_zero, List.drop_succ_cons, List.drop_zero, Nat.reduceAdd]
            repeat (go_big_quiet_step (fail))
            (first | refine wpQuiet_nil ?_ | (go_big_quiet_want; (try go_big_quiet_op); trace_state; fail))
            refine walkW_nil ?_
            intro wx bx hf
            have hO7 := own_R H7 ((hf 7 (by kernel_rfl)).1 rfl)
            have HO7 := Lib.hid hO7
            have BX := Lib.hid bx
            clear hf hO7 bx
            go_wp2_with fail
            go_meet
            exact ⟨A7, c7, by rw [LX7.out], by rw [LX7.out, HX7.out, HX4.out, HHe.out, List.append_assoc] at HO7; exact HO7, BX⟩
        case rest =>
          obtain ⟨A7, c7, rfl, HO7, B7⟩ := hcut
          have n6 := F.out.size
          have hD6 := bk_lt KD.out
          replace F := Lib.hid (F.out.trans (B7.out.mono F.out.size))
          replace KE := Lib.hid (bk_keep B7.out (bk_lt KE.out) KE.out); replace KD := Lib.hid (bk_keep B7.out (bk_lt KD.out) KD.out)
          obtain ⟨g7, cur7, rfl, hg7, hgs7, hcu7, hlc7, htk7⟩ := own_parts HO7.out (by omega)
          have u12 := bk_cell hg7 12
          rw [Array.getElem?_eq_getElem (by omega)] at u12
          have z12 := bk_frozen hg7 12
          generalize cur7[12]'(by omega) = cu12 at u12
          obtain ⟨y12, hy12⟩ : ∃ y, y = UInt8.ofNat ((20 + O.length) / 4 * 16) := ⟨_, rfl⟩
          have ey12 : (20 + (O.length : Int)) / 4 * 16 = (y12.toNat : Int) := by rw [hy12, UInt8.toNat_ofNat']; omega
          have w20 : IntKind.i64.wrap (20 + (O.length : Int)) = 20 + (O.length : Int) := by rw [IntKind.wrap_i64]; omega
          have hgw : w.heap.size + 1 < g7 := by omega
          have i12 : (12 : Int) < 20 + (O.length : Int) + (n : Int) := by omega
          have HY := Lib.hid hy12
          clear hy12 hg7 htk7
          go_upto_region 18 with fail
          obtain ⟨M, hM⟩ : ∃ M, M = mid s0 cs O l := ⟨_, rfl⟩
          have hMl : M.length = 20 + O.length + n := by rw [hM, mid_length, HN.out]
          have HO8 : Hid ((wc.setCell ⟨g7, 12, none⟩ (B y12)).ownsRow w6.heap.size 5 1 (.slice (some ⟨g7, 0, none⟩) (20 + O.length + n) c7) (20 + O.length + n) (M.map B)) := Lib.hid (by
            have o := own_set (j := 12) HO7.out y12
            rw [hM]; unfold mid; rw [← HY.out]; exact o)
          have hne0 : ¬ w.heap.size = g7 := by omega
          have hne1 : ¬ w.heap.size + 1 = g7 := by omega
          replace KE := Lib.hid ((bk_setCell_other wc g7 12 w.heap.size (B y12) hne0).trans KE.out)
          replace KD := Lib.hid ((bk_setCell_other wc g7 12 (w.heap.size + 1) (B y12) hne1).trans KD.out)
          replace F := Lib.hid (F.out.setCell (p := ⟨g7, 12, none⟩) (show w.heap.size ≤ g7 by omega) (B y12))
          have HM := Lib.hid hM; have HML := Lib.hid hMl
          clear hM HO7 B7 u12 z12 ey12 hne0 hne1 hMl
          generalize wc.setCell ⟨g7, 12, none⟩ (B y12) = w8 at *
          have hEE : E = src ++ dst := by
            rw [← q0, ← q1]
            simp only [sl, List.extract_eq_take_drop, List.drop_zero]
            rw [show (16 : Nat) + 16 - 16 = 16 from rfl, List.take_of_length_le (l := List.drop 16 E) (by rw [List.length_drop]; omega)]
            exact (List.take_append_drop 16 E).symm
          have HEE := Lib.hid hEE
          clear hEE
          obtain ⟨s1, hs1⟩ : ∃ s1 : Sg, s1 = { s with fl := s.fl &&& 63 } := ⟨_, rfl⟩
          have hO40 : O.length ≤ 40 := by omega
          have EQ : Hid (zE src dst (fixc src dst 6 16 M) = 0 ∧ zS src dst (fixc src dst 6 16 M) = s1 ∧ zD src dst (fixc src dst 6 16 M) = l) := Lib.hid (by
            rw [HM.out]
            refine ⟨mid_ok h1 h2 hm hO40 EO.out, ?_, mid_D h1 h2 hm hO40 EO.out⟩
            rw [mid_S h1 h2 hs0 hm hO40 EO.out, HS0.out, hs1])
          have HS1 := Lib.hid hs1
          obtain ⟨D8, hD8⟩ : ∃ D, D = fixc src dst 6 16 M := ⟨_, rfl⟩
          have hD8l : D8.length = 20 + O.length + n := by rw [hD8, fixc_length, HML.out]
          rw [← hD8] at EQ
          have HD8 := Lib.hid hD8; have HD8L := Lib.hid hD8l
          have RM : Hid (Rd w8 w8.heap.size (some ⟨g7, 0, none⟩) M) := Lib.hid (by
            have o := HO8.out
            rw [← HML.out] at o
            obtain ⟨A', c', e, hr, _⟩ := Rd.of_own o rfl
            cases e
            exact hr)
          clear hs1 hD8 hD8l HO8
          have ke := KE.out
          have le := bk_lt ke
          obtain ⟨M6, hM6⟩ : ∃ M : MadeW w8.heap.size, M = MadeW.own _ [] D8 := ⟨_, rfl⟩
          obtain ⟨M7, hM7⟩ : ∃ M : MadeW w8.heap.size, M = MadeW.gots _ (fun A => .tuple #[.agg (sgc s1 A n n), .int .i64 0]) l := ⟨_, rfl⟩
          obtain ⟨M11, hM11⟩ : ∃ M : MadeW w8.heap.size, M = MadeW.row _ (fun b => .pointer (some ⟨b, 0, none⟩)) (sgc Sg.zero none 0 0) 30 := ⟨_, rfl⟩
          have H6 := Lib.hid hM6; have H7 := Lib.hid hM7; have H11 := Lib.hid hM11
          clear hM6 hM7 hM11
          refine wp_region_e (w8.heap.size) ([.own 6 H6, .gots 7 H7, .row 11 H11, .store w8.heap.size 12 30 [14, 111]]) (fun k => (([(7, [6]), (12, [11])] : List (Nat × List Nat)).lookup k).getD []) (Fs.nil) (by first | omega | (simp <;> omega)) (by kernel_rfl) (by kernel_rfl) (by kernel_rfl) (by kernel_rfl) EnvW.Ini.nil ?_
          refine walkW_segn 6 [] facts0 noneHx (by kernel_rfl) (by kernel_rfl) ?_
          simp only [List.take_succ_cons, List.take_zero, List.drop_succ_cons, List.drop_zero, Nat.reduceAdd]
          repeat (go_big_quiet_step (fail))
          (first | refine wpQuiet_nil ?_ | (go_big_quiet_want; (try go_big_quiet_op); trace_state; fail))
          refine walkW_mk (fun _ => M6) [] M6 ([]) facts0 (by kernel_rfl) (by kernel_rfl) (by kernel_rfl) rfl rfl (fun w' hb' hg' => ?_) (fun v6 h6 => ?_)
          · unfold madeAtW
            go_simp
            ((have C := right_any src dst (some ⟨g7, 0, none⟩) M c7 w' h1 h2 ((RM.out.below hb' (Nat.le_refl _)).mono hb'.size) (fun h => by cases h) (by rw [HML.out]; omega) (by rw [HML.out]; omega); rw [HML.out, ← HEE.out, ← HD8.out] at C; refine C.mono ?_; rintro e w2 ⟨v, rfl, ho, hb⟩; exact own_end H6 hb hb'.size (by rw [HD8L.out]; exact ho)))
          obtain ⟨A9, c9, rfl, n9, _⟩ := own_T H6 h6
          simp only [Act.put, List.setIfInBounds_toArray, List.set_cons_succ, List.set_cons_zero, Nat.reduceAdd]
          refine walkW_mk (fun _ => M7) [] M7 ([(6, M6.R (.slice A9 D8.length c9))]) (facts1 fun w h => h.1 rfl) (by kernel_rfl) (by kernel_rfl) (by kernel_rfl) rfl rfl (fun w' hb' hg' => ?_) (fun v7 h7 => ?_)
          · unfold madeAtW
            go_simp
            ((refine (sget_any src dst A9 D8 c9 w' h1 h2 (own_Rd H6 (hg' _ (.head _))) n9 (by rw [HD8L.out]; omega)).mono ?_; rintro e w2 ⟨A', rfl, hG, hb⟩; rw [EQ.out.1, EQ.out.2.1, EQ.out.2.2, ← HN.out] at *; exact gots_end H7 hb hb'.size (hG.lower hb'.size)))
          obtain ⟨A10, rfl⟩ := gots_T H7 h7
          simp only [Act.put, List.setIfInBounds_toArray, List.set_cons_succ, List.set_cons_zero, Nat.reduceAdd]
          refine walkW_segn 3 [] facts0 noneHx (by kernel_rfl) (by kernel_rfl) ?_
          simp only [List.take_succ_cons, List.take_zero, List.drop_succ_cons, List.drop_zero, Nat.reduceAdd]
          repeat (go_big_quiet_step (fail))
          (first | refine wpQuiet_nil ?_ | (go_big_quiet_want; (try go_big_quiet_op); trace_state; fail))
          refine walkW_mk (fun _ => M11) [] M11 ([]) facts0 (by kernel_rfl) (by kernel_rfl) (by kernel_rfl) rfl rfl (fun w' hb' hg' => ?_) (fun v11 h11 => ?_)
          · unfold madeAtW
            go_simp
            ((exact (row_mk (b := w'.heap.size) H11 ((Below.refl _ _).alloc (Nat.le_refl _) _) hb'.size hb'.size (bk_alloc_at _ _ _ rfl) :)))
          obtain ⟨b11, m11, rfl⟩ := row_T H11 h11
          simp only [Act.put, List.setIfInBounds_toArray, List.set_cons_succ, List.set_cons_zero, Nat.reduceAdd]
          refine walkW_mk (MadeW.storeAt _ 30) [.pointer (some ⟨b11, 0, none⟩), .agg (sgc s1 A10 n n)] (MadeW.store _ b11 (sgc s1 A10 n n) 30) ([(11, M11.R (.pointer (some ⟨b11, 0, none⟩)))]) (facts1 fun w h => h.1 rfl) (by kernel_rfl) (by kernel_rfl) (by kernel_rfl) rfl rfl (fun w' hb' hg' => ?_) (fun v hT => ?_)
          · exact storeRow_mk (n := 8) (by kernel_rfl) (Lib.hid rfl) (row_R H11 ptr_inj (hg' _ (.head _))) m11 rfl rfl sgc_size sgc_size sgc_ones
          clear hT
          simp only [Act.put]
          refine walkW_segn 1 [] facts0 noneHx (by kernel_rfl) (by kernel_rfl) ?_
          simp only [List.take_succ_cons, List.take_zero, List.drop_succ_cons, List.drop_zero, Nat.reduceAdd]
          repeat (go_big_quiet_step (fail))
          (first | refine wpQuiet_nil ?_ | (go_big_quiet_want; (try go_big_quiet_op); trace_state; fail))
          refine walkW_nil ?_
          intro w9 b9 hf
          have G9 := Lib.hid (gots_R H7 (fun A A' h => by simpa [sgc] using h) ((hf 7 (by kernel_rfl)).2.2.1 rfl))
          have KC := Lib.hid (store_R (Lib.hid rfl) ((hf 12 (by kernel_rfl)).1 rfl))
          have l8D := bk_lt KD.out
          replace KD := Lib.hid (bk_keep b9 l8D KD.out)
          replace F := Lib.hid (F.out.trans (b9.mono F.out.size))
          clear hf H6 H7 H11 h6 h7 h11 M6 M7 M11 b9 KE ke le RM
          have cd4 := (bk_cell KD.out 4).trans sgc_4
          have fd4 := bk_frozen KD.out 4
          have ld4 := bk_lt KD.out
          obtain ⟨y, hy⟩ : ∃ y, y = s.fl &&& 63 := ⟨_, rfl⟩
          have eFl : bits BinOp.and IntKind.u8 (s.fl.toNat : Int) 63 = (y.toNat : Int) := by rw [hy]; exact bits_and63 s.fl
          have HYF := Lib.hid hy
          have hb11 : ¬ b11 = w.heap.size + 1 := by omega
          clear hy
          go_upto_region 20 with fail
          have KD10 : Hid (bk (w9.setCell ⟨w.heap.size + 1, 4, none⟩ (B y)) (w.heap.size + 1) = some (.cells (sgc s1 A n c) 30 (0, 0))) := Lib.hid (by rw [bk_setCell_same, KD.out, HS1.out, ← HYF.out]; rfl)
          have KC10 := Lib.hid ((bk_setCell_other w9 (w.heap.size + 1) 4 b11 (B y) hb11).trans KC.out)
          have F10 := Lib.hid (F.out.setCell (p := ⟨w.heap.size + 1, 4, none⟩) (Nat.le_succ _) (B y))
          have RG10 : Hid (Rd (w9.setCell ⟨w.heap.size + 1, 4, none⟩ (B y)) (w9.setCell ⟨w.heap.size + 1, 4, none⟩ (B y)).heap.size A10 l) := Lib.hid (fun h0 => by
            obtain ⟨b, o, e, hlt, hj⟩ := G9.out.rd h0
            have hlo := G9.out.lo b o ⟨o, e, by omega, by omega⟩
            refine ⟨b, o, e, by simp [World.setCell]; exact hlt, fun j hj' => ?_⟩
            rw [← hj j hj']
            exact cell_of_bk (bk_setCell_other _ _ _ _ _ (by omega)) _)
          have RI10 := Lib.hid ((R0.out.below F10.out (Nat.le_refl _)).mono F10.out.size)
          clear cd4 fd4 ld4 KD KC F G9 eFl
          generalize w9.setCell ⟨w.heap.size + 1, 4, none⟩ (B y) = w10 at *
          have kd := KD10.out
          have kc := KC10.out
          have ld := bk_lt kd
          have lc' := bk_lt kc
          have CS := sameSegment_any s1 A A10 l c n w10 RI10.out RG10.out (by rw [← HN.out]; omega)
          rw [← HN.out] at CS
          have HCS := Lib.hid CS
          clear CS
          go_wp2_with fail
          refine HCS.out.mono ?_
          rintro e w11 ⟨rfl, b11'⟩
          replace F10 := Lib.hid (F10.out.trans (b11'.mono F10.out.size))
          clear HCS b11' kd kc ld lc'
          go_wp2_with fail
          refine (lives17_any _).mono ?_
          rintro e w12 ⟨rfl, b12⟩
          replace F10 := Lib.hid (F10.out.trans (b12.mono F10.out.size))
          clear b12
          go_wp2_with fail
          go_ret
          exact ⟨rfl, F10.out⟩
      · have y1 : ((N : Int) % 4 != 0) = true := by simp; omega
        have y2 : ((N : Int).tmod 4 != 0) = true := by rw [Int.tmod_eq_emod_of_nonneg (by omega)]; exact y1
        have ko := bk_keep b3 (by omega) KO.out
        have co0 := (bk_cell ko 0).trans otc_0
        have lO3 := bk_lt ko
        have nl := b3.size
        clear ko b3
        go_wp2_with (at_builtin; refine append_rd rfl _ _ rfl wc.heap.size (.slice A' N c') N ((Q0 ++ X).map B) rfl (HOX.out.alloc _) (some ⟨wr.heap.size, 0, none⟩) [zk] 1 rfl (fun h => by cases h) (Rd.lit wr [zk] 5) (by simp; omega) (by simp; omega) ?_)
        intro v3 w3 hown hgrow
        have b3a : Below wr.heap.size wr (wr.alloc (.cells ([zk].map B).toArray 5 (0, 0))) := (Below.refl _ _).alloc (Nat.le_refl _) _
        have b3 : Below wc.heap.size wr w3 := (b3a.mono (by omega)).trans ((Below.refl wc.heap.size _).grown hgrow (by have := b3a.size; omega) (fun k hk => (HOX.out.lt k hk).1))
        have ho3 : w3.ownsRow wc.heap.size 5 1 v3 (Q0 ++ (X ++ [zk])).length ((Q0 ++ (X ++ [zk])).map B) := by
          rw [← List.append_assoc, List.length_append, ← HNX.out]; exact hown
        obtain ⟨A4, c4, rfl, _, _, _⟩ := Rd.of_own ho3 rfl
        have HO4 := Lib.hid ho3
        have HB4 := Lib.hid (HB.out.trans b3)
        have eN : (Q0 ++ (X ++ [zk])).length = N + 1 := by rw [← List.append_assoc, List.length_append, ← HNX.out]; rfl
        have EN := Lib.hid eN
        clear hown hgrow b3a b3 ho3 co0 lO3 eN
        go_wp2_with fail
        go_roundw
        case rel => exact ⟨X ++ [zk], A4, c4, rfl, by rw [EN.out]; omega, HO4, HB4⟩
        case measure =>
          show (4 - (Q0 ++ (X ++ [zk])).length % 4) % 4 < (4 - N % 4) % 4
          rw [EN.out]
          omega
end Go.Proofs.Ytojddfbbeiobpaa

/- HeadersOption, walked. -/
import Derived.Test.YtbfiakikhkiefaaH24
import Derived.Test.YtbfiakikhkiefaaMgG
namespace Go.Proofs.Ytbfiakikhkiefaa
open Go.RowKit
set_option maxRecDepth 100000
set_option maxHeartbeats 4000000
def lenV : Value → Nat
  | .slice _ n _ => n
  | _ => 0
@[go_sem] theorem builtF2n (b : Nat) : Try.prog.built 47 [(0, .int .u8 2), (1, .int .u32 (b : Int))] = some (faultC 2 b) := by kernel_rfl
theorem okO_open (k : UInt8) (n : Nat) (hn : n < 4) (mc : Bool) : okO k.toNat n mc = true := okO_all ⟨k.toNat, k.toNat_lt⟩ ⟨n, hn⟩ mc
theorem headersOption_walk (k : UInt8) (mc : Bool) (pad : UInt8) (w : World) :
    Calls Try.prog 6 #[B k, .bool mc, B pad] w fun e w' => e = .returned (.bool true) ∧ Below w.heap.size w w' := by
  obtain ⟨n, hn⟩ : ∃ n, n = pad.toNat % 4 := ⟨_, rfl⟩
  have hn4 : n < 4 := by omega
  have g1 : (pad.toNat : Int) % 4 = (n : Int) := by omega
  have g2 : (pad.toNat : Int).tmod 4 = (n : Int) := by rw [Int.tmod_eq_emod_of_nonneg (by omega)]; exact g1
  have g3 : IntKind.u8.wrap (n : Int) = (n : Int) := by rw [IntKind.wrap_u8]; omega
  have g4 : IntKind.i64.wrap (n : Int) = (n : Int) := by rw [IntKind.wrap_i64]; omega
  have HOK := Lib.hid (okO_open k n hn4 mc)
  clear hn
  go_enter Try.func6, Try.ntmps6
  go_upto_region 2 with fail
  clear g1 g2 g3
  refine wp_region_lit ?_
  refine wpList_step (fun K hK => ?_)
  go_simp
  refine hK _ _ ?_
  clear hK K
  refine wpList_step (fun K hK => ?_)
  go_simp
  refine hK _ _ ?_
  clear hK K
  refine append_rd rfl _ _ rfl w.heap.size (.slice (some ⟨w.heap.size, 0, none⟩) 0 0) 0 [] rfl ((own_lit (w := w) [] (by simp)).alloc _) (some ⟨w.heap.size + 1, 0, none⟩) [17, 0] 2 rfl (fun h => by cases h) (by have h := Rd.lit (w.alloc (.cells (List.map B ([] : List UInt8)).toArray 5 (0, 0))) [17, 0] 5; simp only [World.size_alloc] at h ⊢; exact h) (by simp) (by simp; omega) ?_
  intro v1 w1 ho1 hg1
  have hb1 : Below w.heap.size w w1 := by
    have h0 : Below w.heap.size w ((w.alloc (.cells (List.map B ([] : List UInt8)).toArray 5 (0, 0))).alloc (.cells (List.map B [17, 0]).toArray 5 (0, 0))) := (by (repeat (first | exact Below.refl _ _ | assumption | refine Below.drew ?_ | refine bdrewN ?_ _ | refine Below.alloc ?_ (by first | omega | (simp <;> omega) | (simp only [World.size_alloc] <;> omega)) _ | refine below_setRow ?_ (by first | omega | (simp <;> omega)) _ | refine Below.setCell ?_ (by first | omega | (simp <;> omega)) _)))
    exact h0.grown hg1 (by simp; omega) (fun x hx => by cases hx; exact Nat.le_refl _)
  have HO1 : Hid (w1.ownsRow w.heap.size 5 1 v1 2 (List.map B [17, 0])) := Lib.hid (by simpa using ho1)
  have F1 := Lib.hid hb1
  clear ho1 hg1 hb1
  go_wp2_with fail
  go_loopw [8, 9] (fun v i wr => ∃ j : Nat, j ≤ n ∧ i = .int .i64 j ∧ Hid (wr.ownsRow w.heap.size 5 1 v (2 + j) (List.map B ([17, 0] ++ List.replicate j 0))) ∧ Hid (Below w.heap.size w wr)) (fun _ i _ => n - (intOf i).toNat)
  case atStart => exact ⟨0, by omega, rfl, by simpa using HO1, F1⟩
  case round =>
    clear HO1 F1
    obtain ⟨j, hj, rfl, HO, BR⟩ := hrel
    by_cases hjn : j < n
    · have d1 : decide ((j : Int) < (n : Int)) = true := by simp; omega
      have hs := BR.out.size
      obtain ⟨j2, hj2⟩ : ∃ x, x = j + 1 := ⟨_, rfl⟩
      have g5 : IntKind.i64.wrap ((j : Int) + 1) = (j2 : Int) := by rw [IntKind.wrap_i64]; omega
      have HJ := Lib.hid hj2
      clear hj2
      go_wp2_with (at_builtin; refine append_rd rfl _ _ rfl w.heap.size u8 (2 + j) (List.map B ([17, 0] ++ List.replicate j 0)) rfl (HO.out.alloc _) (some ⟨wr.heap.size, 0, none⟩) [0] 1 rfl (fun h => by cases h) (Rd.lit wr [0] 5) (by simp; omega) (by simp; omega) ?_)
      intro v2 w2 ho2 hg2
      have hb2 : Hid (Below w.heap.size w w2) := Lib.hid ((BR.out.alloc hs _).grown hg2 (by simp; omega) (fun x hx => (HO.out.lt x hx).1))
      have HO2 : Hid (w2.ownsRow w.heap.size 5 1 v2 (2 + j2) (List.map B ([17, 0] ++ List.replicate j2 0))) := Lib.hid (by
        have e : ([17, 0] : List UInt8) ++ List.replicate j2 0 = ([17, 0] ++ List.replicate j 0) ++ [0] := by rw [HJ.out, List.replicate_succ', List.append_assoc]
        rw [e, HJ.out, ← Nat.add_assoc]
        simpa using ho2)
      clear ho2 hg2 HO BR
      go_wp2_with fail
      have := HJ.out
      refine ⟨⟨j2, by omega, rfl, HO2, hb2⟩, by simp [intOf]; omega⟩
    · obtain rfl : j = n := by omega
      have d1 : decide ((j : Int) < (j : Int)) = false := by simp
      have hs := BR.out.size
      obtain ⟨k2, hk2⟩ : ∃ x, x = UInt8.ofNat (4 - j) := ⟨_, rfl⟩
      have g6 : IntKind.i64.wrap (4 - (j : Int)) = ((4 - j : Nat) : Int) := by rw [IntKind.wrap_i64]; omega
      have g7 : IntKind.u8.wrap ((4 - j : Nat) : Int) = (k2.toNat : Int) := by rw [hk2, IntKind.wrap_u8, UInt8.toNat_ofNat']; omega
      have g8 : (4 : Int) - (j : Int) = ((4 - j : Nat) : Int) := by omega
      have g9 : IntKind.u8.wrap (4 - (j : Int)) = (k2.toNat : Int) := by rw [g8]; exact g7
      have HK := Lib.hid hk2
      clear hk2
      go_wp2_with (at_builtin; refine append_rd rfl _ _ rfl w.heap.size u8 (2 + j) (List.map B ([17, 0] ++ List.replicate j 0)) rfl (HO.out.alloc _) (some ⟨wr.heap.size, 0, none⟩) [k, k2] 2 rfl (fun h => by cases h) (Rd.lit wr [k, k2] 5) (by simp; omega) (by simp; omega) ?_)
      intro v2 w2 ho2 hg2
      have hb2 := (BR.out.alloc hs (.cells (List.map B [k, k2]).toArray 5 (0, 0))).grown hg2 (by simp; omega) (fun x hx => (HO.out.lt x hx).1)
      obtain ⟨L0, hL0⟩ : ∃ L : List UInt8, L = [17, 0] ++ List.replicate j 0 ++ [k, k2] := ⟨_, rfl⟩
      have hl0 : L0.length = 4 + j := by rw [hL0]; simp; omega
      have ho3 : w2.ownsRow w.heap.size 5 1 v2 L0.length (List.map B L0) := by
        rw [hl0, hL0, show 4 + j = 2 + j + 2 by omega]; simpa using ho2
      obtain ⟨A2, c2, rfl, _, _, _⟩ := Rd.of_own ho3 rfl
      have HO3 := Lib.hid ho3
      have F2 := Lib.hid hb2
      have HL0 := Lib.hid (And.intro hL0 hl0)
      rw [hl0] at HO3 ⊢
      clear ho2 hg2 HO BR hb2 ho3 hL0 hl0 g6 g7 g8 g9 d1
      go_wp2_with fail
      go_loopw [8] (fun v wr => ∃ (i : Nat) (A : Option Addr) (c : Nat), i ≤ 4 - j ∧ v = .slice A (4 + j + i) c ∧ Hid (wr.ownsRow w.heap.size 5 1 (.slice A (4 + j + i) c) (4 + j + i) (List.map B (L0 ++ List.replicate i 0))) ∧ Hid (Below w.heap.size w wr)) (fun v _ => 8 - lenV v)
      case atStart => exact ⟨0, A2, c2, by omega, rfl, by simpa using HO3, F2⟩
      case round =>
        clear HO3 F2
        obtain ⟨i, A, c, hi, rfl, HO, BR⟩ := hrel
        have hs := BR.out.size
        obtain ⟨N, hN⟩ : ∃ N, N = 4 + j + i := ⟨_, rfl⟩
        rw [← hN] at HO ⊢
        have HN := Lib.hid hN
        by_cases h8 : N < 8
        · have d1 : decide ((N : Int) < 8) = true := by simp; omega
          have d2 : decide (N < 8) = true := by simp; omega
          clear hN
          go_wp2_with (at_builtin; refine append_rd rfl _ _ rfl w.heap.size (.slice A N c) N (List.map B (L0 ++ List.replicate i 0)) rfl (HO.out.alloc _) (some ⟨wr.heap.size, 0, none⟩) [0] 1 rfl (fun h => by cases h) (Rd.lit wr [0] 5) (by simp; omega) (by simp; omega) ?_)
          intro v2 w2 ho2 hg2
          have hb2 : Hid (Below w.heap.size w w2) := Lib.hid ((BR.out.alloc hs _).grown hg2 (by simp; omega) (fun x hx => (HO.out.lt x hx).1))
          have hle : (L0 ++ List.replicate (i + 1) (0 : UInt8)).length = N + 1 := by simp [HL0.out.2]; have := HN.out; omega
          have ho3 : w2.ownsRow w.heap.size 5 1 v2 (L0 ++ List.replicate (i + 1) (0 : UInt8)).length (List.map B (L0 ++ List.replicate (i + 1) 0)) := by
            rw [hle, List.replicate_succ', ← List.append_assoc]
            simpa using ho2
          obtain ⟨A3, c3, rfl, _, _, _⟩ := Rd.of_own ho3 rfl
          rw [hle] at ho3 ⊢
          have HO3 := Lib.hid ho3
          clear ho2 hg2 HO BR ho3 hle
          go_wp2_with fail
          have hN := HN.out
          refine ⟨⟨i + 1, A3, c3, by omega, by rw [show 4 + j + (i + 1) = N + 1 by omega], by rw [show 4 + j + (i + 1) = N + 1 by omega]; exact HO3, hb2⟩, by simp [lenV]; omega⟩
        · have d1 : decide ((N : Int) < 8) = false := by simp; omega
          have d2 : decide (N < 8) = false := by simp; omega
          obtain rfl : N = 8 := by omega
          have hi2 : i = 4 - j := by omega
          obtain ⟨H, hH⟩ : ∃ H, H = hO k j := ⟨_, rfl⟩
          have hHL : L0 ++ List.replicate i 0 = H := by rw [HL0.out.1, hi2, HK.out, hH]; rfl
          have hH8 : H.length = 8 := by rw [← hHL]; simp [HL0.out.2]; omega
          have hok := HOK.out
          unfold okO at hok
          rw [show UInt8.ofNat k.toNat = k by simp, ← hH] at hok
          simp only [Bool.and_eq_true, beq_iff_eq, Bool.not_eq_true'] at hok
          obtain ⟨⟨⟨o1, o2⟩, o3⟩, o4⟩ := hok
          rw [hHL] at HO
          have ho8 : wr.ownsRow w.heap.size 5 1 (.slice A 8 c) H.length (List.map B H) := by rw [hH8]; exact HO.out
          obtain ⟨A', c', e', hR, hN', hle⟩ := Rd.of_own ho8 rfl
          rw [hH8] at e'
          cases e'
          have HR := Lib.hid (And.intro hR (And.intro hN' (hH8 ▸ hle)))
          obtain ⟨R1, hR1⟩ : ∃ R, R = chain mc 60 H 72 64 false false := ⟨_, rfl⟩
          obtain ⟨R2, hR2⟩ : ∃ R, R = chain mc 0 H 40 6 true false := ⟨_, rfl⟩
          rw [← hR1] at o1 o3 o4
          rw [← hR2] at o2 o3
          have HC : Hid (∀ w', Below wr.heap.size wr w' → Calls Try.prog 18 #[B 60, .slice A 8 c, .int .u32 72, .bool mc] w' fun e w'' => ∃ A', e = .returned (tlV R1 A' R1.rest.length) ∧ Below w'.heap.size w' w'') := Lib.hid fun w' hb => by
            have C := chain_any 60 A H c 72 mc w' ((hR.below hb (Nat.le_refl _)).mono hb.size) hN' hle (by omega) (by omega)
            rw [hH8, show chain mc 60 H 72 (if 72 = 40 then 6 else 72 - 8) (72 == 40) false = R1 from hR1.symm] at C
            exact C.mono fun e w'' ⟨A', he, _, hb'⟩ => ⟨A', he, hb'⟩
          have HC2 : Hid (∀ w', Below wr.heap.size wr w' → Calls Try.prog 18 #[B 0, .slice A 8 c, .int .u32 40, .bool mc] w' fun e w'' => ∃ A', e = .returned (tlV R2 A' R2.rest.length) ∧ Below w'.heap.size w' w'') := Lib.hid fun w' hb => by
            have C := chain_any 0 A H c 40 mc w' ((hR.below hb (Nat.le_refl _)).mono hb.size) hN' hle (by omega) (by omega)
            rw [hH8, show chain mc 0 H 40 (if 40 = 40 then 6 else 40 - 8) (40 == 40) false = R2 from hR2.symm] at C
            exact C.mono fun e w'' ⟨A', he, _, hb'⟩ => ⟨A', he, hb'⟩
          obtain ⟨last, rest, al, fi, fid, fo, fm, code, fat, er⟩ := R1
          obtain ⟨last2, rest2, al2, fi2, fid2, fo2, fm2, code2, fat2, er2⟩ := R2
          simp only at o1 o2 o3 o4
          subst o1 o3
          obtain ⟨fa, hfa⟩ : ∃ f, f = 74 + j := ⟨_, rfl⟩
          rw [← hfa] at o4
          have y1 : IntKind.i64.wrap (74 + (j : Int)) = (fa : Int) := by rw [IntKind.wrap_i64]; omega
          have y2 : IntKind.u32.wrap (fa : Int) = (fa : Int) := by rw [IntKind.wrap_u32]; omega
          have y3 : (74 : Int) + (j : Int) = (fa : Int) := by omega
          have O2 := Lib.hid o2; have O4 := Lib.hid o4
          have q1 := fun w => eqFault 0 0 w
          have q2 := fun w => eqFault 2 fa w
          clear hR1 hR2 hR hN' hle ho8 hH hHL hH8 HOK HO o2 o4 hfa HL0 HK hi2 hN HN
          go_wp2_with fail
          refine (HC.out _ (Below.refl _ _)).mono ?_
          rintro e w2 ⟨A5, rfl, b2⟩
          have F2 := Lib.hid (BR.out.trans (b2.mono hs))
          unfold tlV
          go_upto_region 11 with fail
          have a3 : Below w2.heap.size w2 ((w2.alloc (.cells (fragC fi fid fo fm) 27 (0, 0))).alloc (.cells (faultC code fat) 47 (0, 0))) := (by (repeat (first | exact Below.refl _ _ | assumption | refine Below.drew ?_ | refine bdrewN ?_ _ | refine Below.alloc ?_ (by first | omega | (simp <;> omega) | (simp only [World.size_alloc] <;> omega)) _ | refine below_setRow ?_ (by first | omega | (simp <;> omega)) _ | refine Below.setCell ?_ (by first | omega | (simp <;> omega)) _)))
          have KF : Hid (bk ((w2.alloc (.cells (fragC fi fid fo fm) 27 (0, 0))).alloc (.cells (faultC code fat) 47 (0, 0))) (w2.heap.size + 1) = some (.cells (faultC code fat) 47 (0, 0))) := Lib.hid (bk_alloc_at _ _ _ (by simp))
          have F3 := Lib.hid (F2.out.trans (a3.mono F2.out.size))
          have B3 := Lib.hid (b2.trans (a3.mono b2.size))
          change Code.wp _ _ _ _ ((w2.alloc (.cells (fragC fi fid fo fm) 27 (0, 0))).alloc (.cells (faultC code fat) 47 (0, 0)))
          obtain ⟨p14, hp14⟩ : ∃ p, p = w2.heap.size + 1 := ⟨_, rfl⟩
          rw [← hp14] at KF ⊢
          clear a3 b2 hp14
          generalize (w2.alloc (.cells (fragC fi fid fo fm) 27 (0, 0))).alloc (.cells (faultC code fat) 47 (0, 0)) = w3 at *
          have l14 := bk_lt KF.out
          go_wp2_with fail
          refine (HC2.out _ B3.out).mono ?_
          rintro e w4 ⟨A6, rfl, b4⟩
          have K4 := Lib.hid (bk_keep b4 l14 KF.out)
          have F4 := Lib.hid (F3.out.trans (b4.mono F3.out.size))
          unfold tlV
          clear b4 HC HC2 KF F3 B3 F2 l14 BR HR
          go_upto_region 12 with fail
          have a5 : Below w4.heap.size w4 ((w4.alloc (.cells (fragC fi2 fid2 fo2 fm2) 27 (0, 0))).alloc (.cells (faultC code2 fat2) 47 (0, 0))) := (by (repeat (first | exact Below.refl _ _ | assumption | refine Below.drew ?_ | refine bdrewN ?_ _ | refine Below.alloc ?_ (by first | omega | (simp <;> omega) | (simp only [World.size_alloc] <;> omega)) _ | refine below_setRow ?_ (by first | omega | (simp <;> omega)) _ | refine Below.setCell ?_ (by first | omega | (simp <;> omega)) _)))
          have K5 := Lib.hid (bk_keep a5 (bk_lt K4.out) K4.out)
          have F5 := Lib.hid (F4.out.trans (a5.mono F4.out.size))
          change Code.wp _ _ _ _ ((w4.alloc (.cells (fragC fi2 fid2 fo2 fm2) 27 (0, 0))).alloc (.cells (faultC code2 fat2) 47 (0, 0)))
          clear a5 K4 F4
          generalize (w4.alloc (.cells (fragC fi2 fid2 fo2 fm2) 27 (0, 0))).alloc (.cells (faultC code2 fat2) 47 (0, 0)) = w5 at *
          go_upto_region 13 with fail
          have a6 : Below w5.heap.size w5 (w5.alloc (.cells (faultC 2 fa) 47 (0, 0))) := (by (repeat (first | exact Below.refl _ _ | assumption | refine Below.drew ?_ | refine bdrewN ?_ _ | refine Below.alloc ?_ (by first | omega | (simp <;> omega) | (simp only [World.size_alloc] <;> omega)) _ | refine below_setRow ?_ (by first | omega | (simp <;> omega)) _ | refine Below.setCell ?_ (by first | omega | (simp <;> omega)) _)))
          have K6 := bk_keep a6 (bk_lt K5.out) K5.out
          have K7 : bk (w5.alloc (.cells (faultC 2 fa) 47 (0, 0))) w5.heap.size = some (.cells (faultC 2 fa) 47 (0, 0)) := bk_alloc_at _ _ _ rfl
          have FZ := Lib.hid (F5.out.trans (a6.mono F5.out.size))
          change Code.wp _ _ _ _ (w5.alloc (.cells (faultC 2 fa) 47 (0, 0)))
          obtain ⟨p22, hp22⟩ : ∃ p, p = w5.heap.size := ⟨_, rfl⟩
          rw [← hp22] at K7 ⊢
          clear a6 hp22 K5 F5
          generalize w5.alloc (.cells (faultC 2 fa) 47 (0, 0)) = wz at *
          have l6 := bk_lt K6
          have l7 := bk_lt K7
          obtain ⟨b5, hb5⟩ : ∃ b, b = (k.toNat == 5) := ⟨_, rfl⟩
          obtain ⟨b2, hb2⟩ : ∃ b, b = (j == 2) := ⟨_, rfl⟩
          have z5 : ((k.toNat : Int) == 5) = b5 := by rw [hb5]; exact Bool.eq_iff_iff.2 (by simp only [beq_iff_eq]; omega)
          have z2 : ((j : Int) == 2) = b2 := by rw [hb2]; exact Bool.eq_iff_iff.2 (by simp only [beq_iff_eq]; omega)
          have z5' : decide ((k.toNat : Int) = 5) = b5 := by rw [← z5]; rfl
          have z2' : decide ((j : Int) = 2) = b2 := by rw [← z2]; rfl
          have o2 := O2.out
          rw [← hb5, ← hb2] at o2
          subst o2
          clear hb5 hb2 O2 y1 y2 y3 g4
          obtain ⟨t1, ht1⟩ : ∃ t, t = decide (k.toNat < 64) := ⟨_, rfl⟩
          obtain ⟨t2, ht2⟩ : ∃ t, t = decide (k.toNat < 128) := ⟨_, rfl⟩
          obtain ⟨t3, ht3⟩ : ∃ t, t = decide (192 ≤ k.toNat) := ⟨_, rfl⟩
          have s1 : decide ((k.toNat : Int) < 64) = t1 := by rw [ht1]; exact Bool.eq_iff_iff.2 (by simp only [decide_eq_true_eq]; omega)
          have s2 : decide ((k.toNat : Int) < 128) = t2 := by rw [ht2]; exact Bool.eq_iff_iff.2 (by simp only [decide_eq_true_eq]; omega)
          have s3 : decide ((k.toNat : Int) ≥ 192) = t3 := by rw [ht3]; exact Bool.eq_iff_iff.2 (by simp only [decide_eq_true_eq]; omega)
          have o4 : (if t1 = true then last == 17 && er2 == 0 && code == 0 && fat == 0 else if (t2 || t3 && mc) = true then er2 == 8 && code == 0 && fat == 0 else er2 == 7 && code == 2 && fat == fa) = true := by
            rw [ht1, ht2, ht3]
            simp only [decide_eq_true_eq]
            exact O4.out
          clear O4 ht1 ht2 ht3
          have LV := Lib.hid (lives9_any wz)
          cases t1
          · cases t2
            · cases t3
              · simp only [Bool.false_and, Bool.or_false, Bool.false_eq_true, if_false, Bool.and_eq_true, beq_iff_eq] at o4
                obtain ⟨⟨rfl, rfl⟩, rfl⟩ := o4
                cases b5 <;> cases b2
                all_goals
                  go_wp2_with fail
                  refine LV.out.mono ?_
                  rintro e wq ⟨rfl, bq⟩
                  have F2 := Lib.hid (FZ.out.trans (bq.mono FZ.out.size))
                  clear bq
                  go_wp2_with fail
                  go_ret
                  exact ⟨rfl, F2.out⟩
              · cases mc
                · simp only [Bool.and_false, Bool.or_false, Bool.false_eq_true, if_false, Bool.and_eq_true, beq_iff_eq] at o4
                  obtain ⟨⟨rfl, rfl⟩, rfl⟩ := o4
                  cases b5 <;> cases b2
                  all_goals
                    go_wp2_with fail
                    refine LV.out.mono ?_
                    rintro e wq ⟨rfl, bq⟩
                    have F2 := Lib.hid (FZ.out.trans (bq.mono FZ.out.size))
                    clear bq
                    go_wp2_with fail
                    go_ret
                    exact ⟨rfl, F2.out⟩
                · simp only [Bool.and_true, Bool.or_true, Bool.false_eq_true, if_false, if_true, Bool.and_eq_true, beq_iff_eq] at o4
                  obtain ⟨⟨rfl, rfl⟩, rfl⟩ := o4
                  cases b5 <;> cases b2
                  all_goals
                    go_wp2_with fail
                    refine LV.out.mono ?_
                    rintro e wq ⟨rfl, bq⟩
                    have F2 := Lib.hid (FZ.out.trans (bq.mono FZ.out.size))
                    clear bq
                    go_wp2_with fail
                    go_ret
                    exact ⟨rfl, F2.out⟩
            · simp only [Bool.true_or, Bool.false_eq_true, if_false, if_true, Bool.and_eq_true, beq_iff_eq] at o4
              obtain ⟨⟨rfl, rfl⟩, rfl⟩ := o4
              cases b5 <;> cases b2
              all_goals
                go_wp2_with fail
                refine LV.out.mono ?_
                rintro e wq ⟨rfl, bq⟩
                have F2 := Lib.hid (FZ.out.trans (bq.mono FZ.out.size))
                clear bq
                go_wp2_with fail
                go_ret
                exact ⟨rfl, F2.out⟩
          · simp only [if_true, Bool.and_eq_true, beq_iff_eq] at o4
            obtain ⟨⟨⟨hl17, rfl⟩, rfl⟩, rfl⟩ := o4
            have hl1 : ((last.toNat : Int) == 17) = true := by rw [hl17]; rfl
            have hl2 : decide ((last.toNat : Int) = 17) = true := by rw [hl17]; rfl
            clear hl17
            cases b5 <;> cases b2
            all_goals
              go_wp2_with fail
              refine LV.out.mono ?_
              rintro e wq ⟨rfl, bq⟩
              have F2 := Lib.hid (FZ.out.trans (bq.mono FZ.out.size))
              clear bq
              go_wp2_with fail
              go_ret
              exact ⟨rfl, F2.out⟩
end Go.Proofs.Ytbfiakikhkiefaa

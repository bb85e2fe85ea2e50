/- The document's hash. -/
import Derived.Test.YtmdalmegogfanaaDoorJ2
namespace Go.Proofs.YtmdalmegogfanaaDoor
open Go.RowKit
set_option maxRecDepth 100000
set_option maxHeartbeats 4000000 in
theorem rsum_any (A : Option Addr) (b : List UInt8) (c : Nat) (w : World) (h : Rd w w.heap.size A b) (hA : A = none → b = [] ∧ c = 0) (hl : b.length < 2 ^ 30) :
    Calls Tryd.prog 13 #[.slice A b.length c] w fun e w' => e = .returned (.agg ((digest b).map B).toArray) ∧ Below w.heap.size w w' := by
  have RI := Lib.hid h; have HA := Lib.hid hA
  clear h hA
  have z32 : (#[Value.int IntKind.u8 0, Value.int IntKind.u8 0, Value.int IntKind.u8 0, Value.int IntKind.u8 0, Value.int IntKind.u8 0, Value.int IntKind.u8 0, Value.int IntKind.u8 0, Value.int IntKind.u8 0, Value.int IntKind.u8 0, Value.int IntKind.u8 0, Value.int IntKind.u8 0, Value.int IntKind.u8 0, Value.int IntKind.u8 0, Value.int IntKind.u8 0, Value.int IntKind.u8 0, Value.int IntKind.u8 0, Value.int IntKind.u8 0, Value.int IntKind.u8 0, Value.int IntKind.u8 0, Value.int IntKind.u8 0, Value.int IntKind.u8 0, Value.int IntKind.u8 0, Value.int IntKind.u8 0, Value.int IntKind.u8 0, Value.int IntKind.u8 0, Value.int IntKind.u8 0, Value.int IntKind.u8 0, Value.int IntKind.u8 0, Value.int IntKind.u8 0, Value.int IntKind.u8 0, Value.int IntKind.u8 0, Value.int IntKind.u8 0] : Array Value) = ((List.replicate 32 (0 : UInt8)).map B).toArray := by rfl
  obtain ⟨Z, hZ⟩ : ∃ Z, Z = List.replicate 32 (0 : UInt8) := ⟨_, rfl⟩
  rw [← hZ] at z32
  have HZ := Lib.hid hZ
  clear hZ
  go_enter Tryd.func13, Tryd.ntmps13
  have z64 : (#[Value.int IntKind.u32 0, Value.int IntKind.u32 0, Value.int IntKind.u32 0, Value.int IntKind.u32 0, Value.int IntKind.u32 0, Value.int IntKind.u32 0, Value.int IntKind.u32 0, Value.int IntKind.u32 0, Value.int IntKind.u32 0, Value.int IntKind.u32 0, Value.int IntKind.u32 0, Value.int IntKind.u32 0, Value.int IntKind.u32 0, Value.int IntKind.u32 0, Value.int IntKind.u32 0, Value.int IntKind.u32 0, Value.int IntKind.u32 0, Value.int IntKind.u32 0, Value.int IntKind.u32 0, Value.int IntKind.u32 0, Value.int IntKind.u32 0, Value.int IntKind.u32 0, Value.int IntKind.u32 0, Value.int IntKind.u32 0, Value.int IntKind.u32 0, Value.int IntKind.u32 0, Value.int IntKind.u32 0, Value.int IntKind.u32 0, Value.int IntKind.u32 0, Value.int IntKind.u32 0, Value.int IntKind.u32 0, Value.int IntKind.u32 0, Value.int IntKind.u32 0, Value.int IntKind.u32 0, Value.int IntKind.u32 0, Value.int IntKind.u32 0, Value.int IntKind.u32 0, Value.int IntKind.u32 0, Value.int IntKind.u32 0, Value.int IntKind.u32 0, Value.int IntKind.u32 0, Value.int IntKind.u32 0, Value.int IntKind.u32 0, Value.int IntKind.u32 0, Value.int IntKind.u32 0, Value.int IntKind.u32 0, Value.int IntKind.u32 0, Value.int IntKind.u32 0, Value.int IntKind.u32 0, Value.int IntKind.u32 0, Value.int IntKind.u32 0, Value.int IntKind.u32 0, Value.int IntKind.u32 0, Value.int IntKind.u32 0, Value.int IntKind.u32 0, Value.int IntKind.u32 0, Value.int IntKind.u32 0, Value.int IntKind.u32 0, Value.int IntKind.u32 0, Value.int IntKind.u32 0, Value.int IntKind.u32 0, Value.int IntKind.u32 0, Value.int IntKind.u32 0, Value.int IntKind.u32 0] : Array Value) = told K0 64 0 := by rfl
  have z8 : (#[.int .u32 0, .int .u32 0, .int .u32 0, .int .u32 0, .int .u32 0, .int .u32 0, .int .u32 0, .int .u32 0] : Array Value) = told H0.ls 8 0 := by rfl
  go_upto_region 1 with fail
  clear z8 z64
  have k0 : bk (w.alloc (.cells (Z.map B).toArray 37)) w.heap.size = some (.cells (Z.map B).toArray 37 (0, 0)) := bk_alloc_at _ _ _ rfl
  have b0 : Below w.heap.size w (w.alloc (.cells (Z.map B).toArray 37)) := (Below.refl _ _).alloc (Nat.le_refl _) _
  have z64 : (#[Value.int IntKind.u32 0, Value.int IntKind.u32 0, Value.int IntKind.u32 0, Value.int IntKind.u32 0, Value.int IntKind.u32 0, Value.int IntKind.u32 0, Value.int IntKind.u32 0, Value.int IntKind.u32 0, Value.int IntKind.u32 0, Value.int IntKind.u32 0, Value.int IntKind.u32 0, Value.int IntKind.u32 0, Value.int IntKind.u32 0, Value.int IntKind.u32 0, Value.int IntKind.u32 0, Value.int IntKind.u32 0, Value.int IntKind.u32 0, Value.int IntKind.u32 0, Value.int IntKind.u32 0, Value.int IntKind.u32 0, Value.int IntKind.u32 0, Value.int IntKind.u32 0, Value.int IntKind.u32 0, Value.int IntKind.u32 0, Value.int IntKind.u32 0, Value.int IntKind.u32 0, Value.int IntKind.u32 0, Value.int IntKind.u32 0, Value.int IntKind.u32 0, Value.int IntKind.u32 0, Value.int IntKind.u32 0, Value.int IntKind.u32 0, Value.int IntKind.u32 0, Value.int IntKind.u32 0, Value.int IntKind.u32 0, Value.int IntKind.u32 0, Value.int IntKind.u32 0, Value.int IntKind.u32 0, Value.int IntKind.u32 0, Value.int IntKind.u32 0, Value.int IntKind.u32 0, Value.int IntKind.u32 0, Value.int IntKind.u32 0, Value.int IntKind.u32 0, Value.int IntKind.u32 0, Value.int IntKind.u32 0, Value.int IntKind.u32 0, Value.int IntKind.u32 0, Value.int IntKind.u32 0, Value.int IntKind.u32 0, Value.int IntKind.u32 0, Value.int IntKind.u32 0, Value.int IntKind.u32 0, Value.int IntKind.u32 0, Value.int IntKind.u32 0, Value.int IntKind.u32 0, Value.int IntKind.u32 0, Value.int IntKind.u32 0, Value.int IntKind.u32 0, Value.int IntKind.u32 0, Value.int IntKind.u32 0, Value.int IntKind.u32 0, Value.int IntKind.u32 0, Value.int IntKind.u32 0] : Array Value) = told K0 64 0 := by rfl
  have z8 : (#[.int .u32 0, .int .u32 0, .int .u32 0, .int .u32 0, .int .u32 0, .int .u32 0, .int .u32 0, .int .u32 0] : Array Value) = told H0.ls 8 0 := by rfl
  generalize w.alloc (.cells (Z.map B).toArray 37) = w0 at *
  have l0 := bk_lt k0
  have KR := Lib.hid k0; have F := Lib.hid b0
  have C := primes_any w0
  have HC := Lib.hid C
  clear C k0 b0
  go_wp2_with fail
  refine HC.out.mono ?_
  rintro e w1 ⟨v, rfl, ho, b1⟩
  obtain ⟨PA, pc, rfl, hA⟩ := own_words ho (by rw [pl_end])
  replace KR := Lib.hid (bk_keep b1 l0 KR.out)
  replace F := Lib.hid (F.out.trans (b1.mono F.out.size))
  have HP : Hid (∀ (j : Nat), j < 64 → ∃ g, PA = some ⟨g, 0, none⟩ ∧ w0.heap.size ≤ g ∧ g < w1.heap.size ∧ w1.cell? ⟨g, j, none⟩ = some (U (pr j))) := Lib.hid fun j hj => by
    obtain ⟨g, h1, h2, h3, h4⟩ := hA j (by rw [pl_end]; exact hj)
    refine ⟨g, h1, h2, h3, ?_⟩
    rw [h4]
    unfold pr
    rw [List.getD_eq_getElem?_getD, List.getElem?_eq_getElem (by rw [pl_end]; exact hj)]
    rfl
  clear b1 HC ho hA
  go_wp2_with fail
  clear z32 z64 z8
  have k4 : bk ((w1.alloc (.cells (told K0 64 0) 62)).alloc (.cells (told H0.ls 8 0) 56)) w1.heap.size = some (.cells (told K0 64 0) 62 (0, 0)) := (bk_alloc_past _ _ _ (by simp)).trans (bk_alloc_at _ _ _ rfl)
  have k5 : bk ((w1.alloc (.cells (told K0 64 0) 62)).alloc (.cells (told H0.ls 8 0) 56)) (w1.heap.size + 1) = some (.cells (told H0.ls 8 0) 56 (0, 0)) := bk_alloc_at _ _ _ (by simp)
  have ba : Below w1.heap.size w1 ((w1.alloc (.cells (told K0 64 0) 62)).alloc (.cells (told H0.ls 8 0) 56)) := (by (repeat (first | exact Below.refl _ _ | assumption | refine Below.drew ?_ | refine bdrewN ?_ _ | refine Below.alloc ?_ (by first | omega | (simp <;> omega) | (simp only [World.size_alloc] <;> omega)) _ | refine below_setRow ?_ (by first | omega | (simp <;> omega)) _ | refine Below.setCell ?_ (by first | omega | (simp <;> omega)) _)))
  generalize (w1.alloc (.cells (told K0 64 0) 62)).alloc (.cells (told H0.ls 8 0) 56) = wa at *
  obtain ⟨x4, hx4⟩ : ∃ x, x = w1.heap.size := ⟨_, rfl⟩
  rw [← hx4] at k4 k5 ba HP ⊢
  have HX4 := Lib.hid hx4
  have K4 := Lib.hid k4; have K5 := Lib.hid k5; have BA := Lib.hid ba
  clear k4 k5 ba hx4
  go_loopw [6] (fun i wr => ∃ k : Nat, k ≤ 64 ∧ i = .int .i64 k ∧ Hid (bk wr x4 = some (.cells (told K0 64 k) 62 (0, 0))) ∧ Hid (bk wr (x4 + 1) = some (.cells (told H0.ls 8 0) 56 (0, 0))) ∧ Hid (Below x4 w1 wr)) (fun i _ => 64 - (intOf i).toNat)
  case atStart => exact ⟨0, by omega, rfl, K4, K5, BA⟩
  case round =>
    clear K4 K5 BA
    obtain ⟨k, hk, rfl, K4, K5, BR⟩ := hrel
    by_cases hlt : k < 64
    · have d1 : decide ((k : Int) < 64) = true := by simp; omega
      obtain ⟨g, rfl, hg1, hg2, hg3⟩ := HP.out k hlt
      have c1 : wr.cell? ⟨g, k, none⟩ = some (U (pr k)) := (BR.out.cell (p := ⟨g, k, none⟩) hg2).trans hg3
      have C := cube_any (pr k) wr (pr_lt ⟨k, hlt⟩)
      rw [pr_cube ⟨k, hlt⟩] at C
      obtain ⟨y, hy⟩ : ∃ y, y = K0.getD k 0 := ⟨_, rfl⟩
      rw [show (K0.getD (⟨k, hlt⟩ : Fin 64).val 0) = y from hy.symm] at C
      generalize pr k = pk at *
      have HC := Lib.hid C
      have HY := Lib.hid hy
      clear C hy hg3
      go_wp2_with fail
      refine HC.out.mono ?_
      rintro e w2 ⟨rfl, b2⟩
      have kx := bk_keep b2 (bk_lt K4.out) K4.out
      have ky := bk_keep b2 (bk_lt K5.out) K5.out
      have B2 := Lib.hid (BR.out.trans (b2.mono (by have := bk_lt K4.out; omega)))
      have c2 := (bk_cell kx k).trans (told_at rfl hlt)
      have f2 := bk_frozen kx k
      have KX := Lib.hid kx; have KY := Lib.hid ky
      clear kx ky b2 HC c1
      go_wp2_with fail
      refine ⟨⟨k + 1, by omega, by go_num, Lib.hid ?_, Lib.hid ((bk_setCell_other _ _ _ _ _ (by omega)).trans KY.out), Lib.hid (B2.out.setCell (p := ⟨x4, k, none⟩) (Nat.le_refl _) _)⟩, by simp [intOf]; omega⟩
      rw [bk_setCell_same, KX.out]
      show some (Obj.cells ((told K0 64 k).setIfInBounds k (V y)) _ _) = _
      rw [HY.out, told_set (l := K0) (n := 64) rfl hlt]
    · obtain rfl : k = 64 := by omega
      have e0 : told K0 64 64 = eachR := told_all rfl
      rw [e0] at K4
      clear e0 hlt hk
      go_wp2_with fail
      go_loopw [7] (fun i wr => ∃ k : Nat, k ≤ 8 ∧ i = .int .i64 k ∧ Hid (bk wr x4 = some (.cells eachR 62 (0, 0))) ∧ Hid (bk wr (x4 + 1) = some (.cells (told H0.ls 8 k) 56 (0, 0))) ∧ Hid (Below x4 w1 wr)) (fun i _ => 8 - (intOf i).toNat)
      case atStart => exact ⟨0, by omega, rfl, K4, K5, BR⟩
      case round =>
        clear K4 K5 BR
        obtain ⟨k, hk, rfl, K4, K5, BR⟩ := hrel
        by_cases hlt : k < 8
        · have d1 : decide ((k : Int) < 8) = true := by simp; omega
          have hlt' : k < 64 := by omega
          obtain ⟨g, rfl, hg1, hg2, hg3⟩ := HP.out k hlt'
          have c1 : wr.cell? ⟨g, k, none⟩ = some (U (pr k)) := (BR.out.cell (p := ⟨g, k, none⟩) hg2).trans hg3
          have C := square_any (pr k) wr (pr_lt ⟨k, hlt'⟩)
          rw [pr_square ⟨k, hlt⟩] at C
          obtain ⟨y, hy⟩ : ∃ y, y = H0.ls.getD k 0 := ⟨_, rfl⟩
          rw [show (H0.ls.getD (⟨k, hlt⟩ : Fin 8).val 0) = y from hy.symm] at C
          generalize pr k = pk at *
          have HC := Lib.hid C
          have HY := Lib.hid hy
          clear C hy hg3
          go_wp2_with fail
          refine HC.out.mono ?_
          rintro e w2 ⟨rfl, b2⟩
          have kx := bk_keep b2 (bk_lt K4.out) K4.out
          have ky := bk_keep b2 (bk_lt K5.out) K5.out
          have B2 := Lib.hid (BR.out.trans (b2.mono (by have := bk_lt K4.out; omega)))
          have c2 := (bk_cell ky k).trans (told_at rfl hlt)
          have f2 := bk_frozen ky k
          have KX := Lib.hid kx; have KY := Lib.hid ky
          clear kx ky b2 HC c1
          go_wp2_with fail
          refine ⟨?_, ?measure⟩
          repeat' apply Exists.intro
          refine ⟨?rel, rfl⟩
          case rel =>
            refine ⟨k + 1, by omega, by go_num, Lib.hid ((bk_setCell_other _ _ _ _ _ (by omega)).trans KX.out), Lib.hid ?_, Lib.hid (B2.out.setCell (p := ⟨x4 + 1, k, none⟩) (by show x4 ≤ x4 + 1; omega) _)⟩
            rw [bk_setCell_same, KY.out]
            show some (Obj.cells ((told H0.ls 8 k).setIfInBounds k (V y)) _ _) = _
            rw [HY.out, told_set (l := H0.ls) (n := 8) rfl hlt]
          case measure => simp [intOf]; omega
        · obtain rfl : k = 8 := by omega
          have e0 : told H0.ls 8 8 = H0.row := told_all rfl
          rw [e0] at K5
          clear e0 hlt hk
          obtain ⟨Lb, hLb⟩ : ∃ L, L = b.length := ⟨_, rfl⟩
          have HLB := Lib.hid hLb
          have RX : Hid (Rd wr wr.heap.size A b) := Lib.hid ((RI.out.below (F.out.trans (BR.out.mono (by rw [HX4.out]; exact F.out.size))) (Nat.le_refl _)).mono (Nat.le_trans F.out.size (by rw [← HX4.out]; exact Nat.le_trans (by rw [HX4.out]; exact Nat.le_refl _) BR.out.size)))
          rw [← hLb] at hl
          have hx5 := bk_lt K5.out
          go_wp2_with (at_builtin; refine append_rd rfl _ _ rfl wr.heap.size (.slice none 0 0) 0 [] rfl ⟨by simp, .inl ⟨rfl, rfl⟩⟩ A b c rfl HA.out RX.out (by omega) (Nat.le_refl _) ?_)
          intro v2 w2 hown hgrow
          obtain ⟨bs, hbs⟩ : ∃ x, x = wr.heap.size := ⟨_, rfl⟩
          have b2 : Below bs wr w2 := hbs ▸ (Below.refl wr.heap.size wr).grown hgrow (Nat.le_refl _) (fun k hk => by cases hk)
          rw [← hbs] at hown
          have x5 : x4 + 1 < bs := by rw [hbs]; exact hx5
          have K4' := Lib.hid (bk_keep b2 (by omega) K4.out)
          have K5' := Lib.hid (bk_keep b2 (by omega) K5.out)
          have B2 := Lib.hid (BR.out.trans (b2.mono (by omega)))
          have HO := Lib.hid hown
          have n2 : bs ≤ w2.heap.size := by have := b2.size; omega
          obtain ⟨A2, c2, rfl, _, _, _⟩ := Rd.of_own hown rfl
          rw [← hLb] at HO ⊢
          clear hown hgrow b2 K4 K5 BR RX hbs hx5 hLb
          go_wp2_with (at_builtin; refine append_rd rfl _ _ rfl bs (.slice A2 Lb c2) Lb (b.map B) rfl (HO.out.alloc _) (some ⟨w2.heap.size, 0, none⟩) [128] 1 rfl (fun h => by cases h) (Rd.lit w2 [128] 5) (by simp; omega) (by simp; omega) ?_)
          intro v3 w3 hown hgrow
          have b3a : Below w2.heap.size w2 (w2.alloc (.cells ([128].map B).toArray 5 (0, 0))) := (Below.refl _ _).alloc (Nat.le_refl _) _
          have b3 : Below bs w2 w3 := (b3a.mono n2).trans ((Below.refl bs _).grown hgrow (by have := b3a.size; omega) (fun k hk => (HO.out.lt k hk).1))
          have ho3 : w3.ownsRow bs 5 1 v3 (Lb + 1) ((padj b 0).map B) := by
            have h := hown
            rw [padj_zero]
            exact h
          have hbl : (padj b 0).length = Lb + 1 := by rw [padj_length, HLB.out]
          obtain ⟨A3, c3, rfl, _, _, _⟩ := Rd.of_own ho3 hbl.symm
          rw [hbl] at ho3 ⊢
          replace K4' := Lib.hid (bk_keep b3 (by omega) K4'.out)
          replace K5' := Lib.hid (bk_keep b3 (by omega) K5'.out)
          replace B2 := Lib.hid (B2.out.trans (b3.mono (by omega)))
          have HO3 := Lib.hid ho3
          have n3 : bs ≤ w3.heap.size := Nat.le_trans n2 b3.size
          clear hown hgrow b3a b3 ho3 hbl HO
          go_wp2_with fail
          go_loopw [8] (fun v wr => ∃ (j : Nat) (A' : Option Addr) (c' : Nat), j ≤ zlen Lb ∧ v = .slice A' (Lb + 1 + j) c' ∧ Hid (wr.ownsRow bs 5 1 (.slice A' (Lb + 1 + j) c') (Lb + 1 + j) ((padj b j).map B)) ∧ Hid (Below bs w3 wr)) (fun v _ => zlen Lb + Lb + 1 - slen v)
          case atStart => exact ⟨0, A3, c3, Nat.zero_le _, rfl, HO3, Lib.hid (Below.refl _ _)⟩
          case round =>
            obtain ⟨j, A', c', hj, rfl, HOX, HB⟩ := hrel
            have hzl : zlen Lb < 64 := Nat.mod_lt _ (by decide)
            have nl := HB.out.size
            obtain ⟨N, hN⟩ : ∃ N, N = Lb + 1 + j := ⟨_, rfl⟩
            rw [← hN] at HOX ⊢
            by_cases hjz : j < zlen Lb
            · have hm : N % 64 ≠ 56 := by rw [hN]; unfold zlen at hjz; omega
              have y1 : ((N : Int) % 64 != 56) = true := by simp; omega
              have y2 : ((N : Int).tmod 64 != 56) = true := by rw [Int.tmod_eq_emod_of_nonneg (by omega)]; exact y1
              have HNN := Lib.hid hN
              have hNb : N < 2 ^ 31 := by omega
              clear hN
              go_wp2_with (at_builtin; refine append_rd rfl _ _ rfl bs (.slice A' N c') N ((padj b j).map B) rfl (HOX.out.alloc _) (some ⟨wr.heap.size, 0, none⟩) [0] 1 rfl (fun h => by cases h) (Rd.lit wr [0] 5) (by simp; omega) (by simp; omega) ?_)
              intro v4 w4 hown hgrow
              have b4a : Below wr.heap.size wr (wr.alloc (.cells ([0].map B).toArray 5 (0, 0))) := (Below.refl _ _).alloc (Nat.le_refl _) _
              have b4 : Below bs wr w4 := (b4a.mono (by omega)).trans ((Below.refl bs _).grown hgrow (by have := b4a.size; omega) (fun k hk => (HOX.out.lt k hk).1))
              have ho4 : w4.ownsRow bs 5 1 v4 (Lb + 1 + (j + 1)) ((padj b (j + 1)).map B) := by
                have h := hown
                rw [show Lb + 1 + (j + 1) = N + 1 by rw [HNN.out]; rfl, padj_succ]
                exact h
              have hbl : (padj b (j + 1)).length = Lb + 1 + (j + 1) := by rw [padj_length, HLB.out]
              obtain ⟨A4, c4, rfl, _, _, _⟩ := Rd.of_own ho4 hbl.symm
              rw [hbl] at ho4 ⊢
              have HO4 := Lib.hid ho4
              have HB4 := Lib.hid (HB.out.trans b4)
              clear hown hgrow b4a b4 ho4 hbl
              go_wp2_with fail
              refine ⟨⟨j + 1, A4, c4, by omega, rfl, HO4, HB4⟩, ?_⟩
              show zlen Lb + Lb + 1 - (Lb + 1 + (j + 1)) < zlen Lb + Lb + 1 - N
              have := HNN.out
              omega
            · have hm : N % 64 = 56 := by rw [hN]; unfold zlen at hj hjz; omega
              have y1 : ((N : Int) % 64 != 56) = false := by simp; omega
              have y2 : ((N : Int).tmod 64 != 56) = false := by rw [Int.tmod_eq_emod_of_nonneg (by omega)]; exact y1
              obtain rfl : j = zlen Lb := by omega
              obtain ⟨X, hX⟩ : ∃ X, X = padj b (zlen Lb) := ⟨_, rfl⟩
              have hXl : X.length = N := by rw [hX, padj_length, ← HLB.out, hN]
              rw [← hX] at HOX
              obtain ⟨M8, hM8⟩ : ∃ m, m = 8 * Lb := ⟨_, rfl⟩
              have e8 : (8 : Int) * (Lb : Int) = (M8 : Int) := by omega
              have e8' : (Lb : Int) * 8 = (M8 : Int) := by omega
              have e9 : IntKind.u64.wrap (M8 : Int) = (M8 : Int) := by rw [IntKind.wrap_u64]; omega
              have hM64 : M8 < 2 ^ 40 := by omega
              have hPad : X ++ nb 8 M8 = pad b := by rw [hX, hM8]; unfold pad padj; rw [HLB.out]
              have HPAD := Lib.hid hPad
              have HXN := Lib.hid hXl
              have hNb : N < 2 ^ 31 := by omega
              replace K4' := Lib.hid (bk_keep HB.out (by omega) K4'.out)
              replace K5' := Lib.hid (bk_keep HB.out (by omega) K5'.out)
              replace B2 := Lib.hid (B2.out.trans (HB.out.mono (by omega)))
              have n4 : bs ≤ wr.heap.size := Nat.le_trans n3 nl
              have HN56 := Lib.hid hm
              clear hPad hX hN hXl HO3 HB hjz hj hM8 nl n3 n2 hm
              go_wp2_with fail
              go_loopw [8, 10] (fun v i wr => ∃ (j : Nat) (A' : Option Addr) (c' : Nat), j ≤ 8 ∧ v = .slice A' (N + j) c' ∧ i = .int .i64 (56 - 8 * (j : Int)) ∧ Hid (bk wr x4 = some (.cells eachR 62 (0, 0))) ∧ Hid (bk wr (x4 + 1) = some (.cells H0.row 56 (0, 0))) ∧ Hid (wr.ownsRow bs 5 1 (.slice A' (N + j) c') (N + j) ((X ++ (nb 8 M8).take j).map B)) ∧ Hid (Below x4 w1 wr) ∧ bs ≤ wr.heap.size) (fun v _ _ => N + 8 - slen v)
              case atStart => exact ⟨0, A', c', by omega, rfl, rfl, K4', K5', Lib.hid (by rw [List.take_zero, List.append_nil]; exact HOX.out), B2, n4⟩
              case round =>
                clear K4' K5' HOX B2 n4
                obtain ⟨j, A', c', hj, rfl, rfl, K4', K5', HOX, B2, n4⟩ := hrel
                obtain ⟨N', hN'⟩ : ∃ n, n = N + j := ⟨_, rfl⟩
                rw [← hN'] at HOX ⊢
                have hNb' : N' < 2 ^ 31 + 8 := by omega
                have HN' := Lib.hid hN'
                clear hN'
                by_cases hj8 : j < 8
                · obtain ⟨s, hs⟩ : ∃ s, s = 56 - 8 * j := ⟨_, rfl⟩
                  have e0 : (56 - 8 * (j : Int)) = (s : Int) := by omega
                  rw [e0]
                  obtain ⟨y, hy⟩ : ∃ y, y = UInt8.ofNat (M8 / 256 ^ (8 - 1 - j)) := ⟨_, rfl⟩
                  have hp2 : 2 ^ s = 256 ^ (8 - 1 - j) := by rw [show (256 : Nat) = 2 ^ 8 from rfl, ← Nat.pow_mul]; congr 1; omega
                  have eB : (M8 : Int) / 2 ^ s % 256 = (y.toNat : Int) := by
                    rw [hy, UInt8.toNat_ofNat', ← hp2, Int.natCast_emod, Int.natCast_ediv, Int.natCast_pow]; rfl
                  have eA : IntKind.u8.wrap ((M8 : Int) / 2 ^ s) = (y.toNat : Int) := by rw [IntKind.wrap_u8]; exact eB
                  have d0 : decide (0 ≤ (s : Int)) = true := by simp
                  have hsl : s < 64 := by omega
                  have hnb := nb_take 8 M8 j hj8
                  rw [← hy] at hnb
                  have HNB := Lib.hid hnb
                  have HS := Lib.hid hs
                  clear hp2 hy hs e0 hnb
                  go_wp2_with (at_builtin; refine append_rd rfl _ _ rfl bs (.slice A' N' c') N' ((X ++ (nb 8 M8).take j).map B) rfl (HOX.out.alloc _) (some ⟨wr.heap.size, 0, none⟩) [y] 1 rfl (fun h => by cases h) (Rd.lit wr [y] 5) (by simp; omega) (by simp; omega) ?_)
                  intro v4 w4 hown hgrow
                  have b4a : Below wr.heap.size wr (wr.alloc (.cells ([y].map B).toArray 5 (0, 0))) := (Below.refl _ _).alloc (Nat.le_refl _) _
                  have b4 : Below bs wr w4 := (b4a.mono n4).trans ((Below.refl bs _).grown hgrow (by have := b4a.size; omega) (fun k hk => (HOX.out.lt k hk).1))
                  have ho4 : w4.ownsRow bs 5 1 v4 (N + (j + 1)) ((X ++ (nb 8 M8).take (j + 1)).map B) := by
                    have h := hown
                    rw [HNB.out, ← List.append_assoc, show N + (j + 1) = N' + 1 by rw [HN'.out]; rfl]
                    simp only [List.map_append, List.map_take, List.map_cons, List.map_nil, List.append_assoc]
                    exact h
                  have hbl : (X ++ (nb 8 M8).take (j + 1)).length = N + (j + 1) := by
                    rw [List.length_append, HXN.out, List.length_take, nb_length]; omega
                  obtain ⟨A4, c4, rfl, _, _, _⟩ := Rd.of_own ho4 hbl.symm
                  rw [hbl] at ho4 ⊢
                  have HO4 := Lib.hid ho4
                  have B4 := Lib.hid (B2.out.trans (b4.mono (by omega)))
                  have n5 := Nat.le_trans n4 b4.size
                  have K41 := Lib.hid (bk_keep b4 (by omega) K4'.out)
                  have K51 := Lib.hid (bk_keep b4 (by omega) K5'.out)
                  clear hown hgrow b4a b4 ho4 hbl
                  go_wp2_with fail
                  refine ⟨⟨j + 1, A4, c4, by omega, rfl, ?_, K41, K51, HO4, B4, n5⟩, ?_⟩
                  · have := HS.out
                    congr 1
                    omega
                  · show N + 8 - (N + (j + 1)) < N + 8 - N'
                    have := HN'.out
                    omega
                · obtain rfl : j = 8 := by omega
                  have e0 : (56 - 8 * ((8 : Nat) : Int)) = -8 := by omega
                  rw [e0]
                  obtain ⟨P, hP⟩ : ∃ P, P = pad b := ⟨_, rfl⟩
                  have hP8 : X ++ (nb 8 M8).take 8 = P := by rw [List.take_of_length_le (by rw [nb_length]; exact Nat.le_refl _), hP]; exact HPAD.out
                  rw [hP8] at HOX
                  have hPl : P.length = N' := by
                    rw [← hP8, List.length_append, HXN.out, List.length_take, nb_length, HN'.out]
                    rfl
                  have hP64 : P.length % 64 = 0 := by rw [hP]; exact pad_64 b
                  obtain ⟨m, hm⟩ : ∃ m, m = P.length / 64 := ⟨_, rfl⟩
                  have hNm : N' = 64 * m := by omega
                  have hm0 : 0 < m := by rw [hPl, HN'.out] at hm; have := HN56.out; omega
                  have HPP := Lib.hid hP; have HMM := Lib.hid hm; have HPL := Lib.hid hPl
                  obtain ⟨_, ⟨e, h0⟩ | ⟨g, cap, cur, e, hg, hbk, hle, _, hcs, htk⟩⟩ := HOX.out
                  · omega
                  cases e
                  rw [Nat.mul_one] at htk hcs
                  have hgl := bk_lt hbk
                  have KG := Lib.hid hbk
                  have HC' := Lib.hid (And.intro hcs htk)
                  have cc : N' ≤ c' := hle
                  rw [hNm] at cc ⊢
                  clear hP hP8 hPl hP64 hm e0 hj8 hj HOX hbk hle hcs htk
                  go_wp2_with fail
                  go_loopw [11] (fun i wr => ∃ q : Nat, q ≤ m ∧ i = .int .i64 ((64 * q : Nat) : Int) ∧ Hid (bk wr x4 = some (.cells eachR 62 (0, 0))) ∧ Hid (bk wr (x4 + 1) = some (.cells (hsh P m (List.range q)).row 56 (0, 0))) ∧ Hid (bk wr g = some (.cells cur 5 (0, 0))) ∧ Hid (Below x4 w1 wr)) (fun i _ => 64 * m - (intOf i).toNat)
                  case atStart => exact ⟨0, by omega, rfl, K4', K5', KG, B2⟩
                  case round =>
                    clear K4' K5' KG B2 n4 hgl
                    obtain ⟨q, hq, rfl, K4, K5, KG, BR⟩ := hrel
                    obtain ⟨S, hS⟩ : ∃ S, S = hsh P m (List.range q) := ⟨_, rfl⟩
                    rw [← hS] at K5
                    have HS := Lib.hid hS
                    clear hS
                    by_cases hqm : q < m
                    · obtain ⟨o, ho⟩ : ∃ o, o = 64 * q := ⟨_, rfl⟩
                      have hom : o + 64 ≤ 64 * m := by omega
                      rw [← ho]
                      have d1 : decide ((o : Int) < ((64 * m : Nat) : Int)) = true := by simp; omega
                      obtain ⟨Q, hQ⟩ : ∃ Q, Q = prt P q := ⟨_, rfl⟩
                      have hQl : Q.length = 64 := by
                        rw [hQ]; unfold prt
                        rw [List.length_take, List.length_drop, HPL.out, hNm]; omega
                      have hQc : ∀ (w' : World), bk w' g = some (.cells cur 5 (0, 0)) → ∀ k y, Q[k]? = some y → w'.cell? ⟨g, o + k, none⟩ = some (B y) := fun w' h k y hy => by
                        have hk : k < 64 := by rw [← hQl]; exact (List.getElem?_eq_some_iff.1 hy).1
                        have h1 := HC'.out.2
                        have h2 : (cur.toList.take N')[o + k]? = (P.map B)[o + k]? := by rw [h1]
                        rw [List.getElem?_take_of_lt (by omega), List.getElem?_map, List.getElem?_eq_getElem (l := P) (by rw [HPL.out]; omega)] at h2
                        rw [bk_cell h, ← Array.getElem?_toList, h2]
                        have h3 : P[o + k]? = some y := by
                          rw [← hy, hQ]; unfold prt
                          rw [List.getElem?_take_of_lt hk, List.getElem?_drop, ho]
                        rw [List.getElem?_eq_getElem (by rw [HPL.out]; omega)] at h3
                        rw [Option.some.inj h3]
                        rfl
                      have HQC := Lib.hid hQc
                      have HQ := Lib.hid hQ
                      have HO := Lib.hid ho
                      obtain ⟨M, hM⟩ : ∃ M, M = 64 * m := ⟨_, rfl⟩
                      have HM := Lib.hid hM
                      have hMb : M < 2 ^ 32 := by omega
                      rw [← hM] at cc d1 hom ⊢
                      clear hQc hQ ho hM
                      have z64 : (#[Value.int IntKind.u32 0, Value.int IntKind.u32 0, Value.int IntKind.u32 0, Value.int IntKind.u32 0, Value.int IntKind.u32 0, Value.int IntKind.u32 0, Value.int IntKind.u32 0, Value.int IntKind.u32 0, Value.int IntKind.u32 0, Value.int IntKind.u32 0, Value.int IntKind.u32 0, Value.int IntKind.u32 0, Value.int IntKind.u32 0, Value.int IntKind.u32 0, Value.int IntKind.u32 0, Value.int IntKind.u32 0, Value.int IntKind.u32 0, Value.int IntKind.u32 0, Value.int IntKind.u32 0, Value.int IntKind.u32 0, Value.int IntKind.u32 0, Value.int IntKind.u32 0, Value.int IntKind.u32 0, Value.int IntKind.u32 0, Value.int IntKind.u32 0, Value.int IntKind.u32 0, Value.int IntKind.u32 0, Value.int IntKind.u32 0, Value.int IntKind.u32 0, Value.int IntKind.u32 0, Value.int IntKind.u32 0, Value.int IntKind.u32 0, Value.int IntKind.u32 0, Value.int IntKind.u32 0, Value.int IntKind.u32 0, Value.int IntKind.u32 0, Value.int IntKind.u32 0, Value.int IntKind.u32 0, Value.int IntKind.u32 0, Value.int IntKind.u32 0, Value.int IntKind.u32 0, Value.int IntKind.u32 0, Value.int IntKind.u32 0, Value.int IntKind.u32 0, Value.int IntKind.u32 0, Value.int IntKind.u32 0, Value.int IntKind.u32 0, Value.int IntKind.u32 0, Value.int IntKind.u32 0, Value.int IntKind.u32 0, Value.int IntKind.u32 0, Value.int IntKind.u32 0, Value.int IntKind.u32 0, Value.int IntKind.u32 0, Value.int IntKind.u32 0, Value.int IntKind.u32 0, Value.int IntKind.u32 0, Value.int IntKind.u32 0, Value.int IntKind.u32 0, Value.int IntKind.u32 0, Value.int IntKind.u32 0, Value.int IntKind.u32 0, Value.int IntKind.u32 0, Value.int IntKind.u32 0] : Array Value) = wrow Q 0 := by rfl
                      go_wp2_with fail
                      clear z64
                      have k12 : bk (wr.alloc (.cells (wrow Q 0) 62)) wr.heap.size = some (.cells (wrow Q 0) 62 (0, 0)) := bk_alloc_at _ _ _ rfl
                      have b12 : Below wr.heap.size wr (wr.alloc (.cells (wrow Q 0) 62)) := (Below.refl _ _).alloc (Nat.le_refl _) _
                      generalize wr.alloc (.cells (wrow Q 0) 62) = w12 at *
                      obtain ⟨x12, hx12⟩ : ∃ x, x = wr.heap.size := ⟨_, rfl⟩
                      rw [← hx12] at k12 b12 ⊢
                      have l4 : x4 < x12 := by rw [hx12]; exact bk_lt K4.out
                      have l5 : x4 + 1 < x12 := by rw [hx12]; exact bk_lt K5.out
                      have lg : g < x12 := by rw [hx12]; exact bk_lt KG.out
                      have K41 := Lib.hid (bk_keep b12 l4 K4.out)
                      have K51 := Lib.hid (bk_keep b12 l5 K5.out)
                      have KG1 := Lib.hid (bk_keep b12 lg KG.out)
                      have B1 := Lib.hid (BR.out.trans (b12.mono (by omega)))
                      have KW := Lib.hid k12
                      have hgx : ¬ g = x12 := by omega
                      clear K4 K5 KG BR k12 b12 hx12
                      go_loopw [13] (fun i wr => ∃ k : Nat, k ≤ 16 ∧ i = .int .i64 k ∧ Hid (bk wr x12 = some (.cells (wrow Q k) 62 (0, 0))) ∧ Hid (bk wr x4 = some (.cells eachR 62 (0, 0))) ∧ Hid (bk wr (x4 + 1) = some (.cells S.row 56 (0, 0))) ∧ Hid (bk wr g = some (.cells cur 5 (0, 0))) ∧ Hid (Below x4 w1 wr)) (fun i _ => 16 - (intOf i).toNat)
                      case atStart => exact ⟨0, by omega, rfl, KW, K41, K51, KG1, B1⟩
                      case round =>
                        clear KW K41 K51 KG1 B1
                        obtain ⟨k, hk, rfl, KW, K4, K5, KG, BR⟩ := hrel
                        by_cases hk16 : k < 16
                        · have d2 : decide ((k : Int) < 16) = true := by simp; omega
                          have e1 : IntKind.i64.wrap (4 * (k : Int)) = 4 * (k : Int) := by rw [IntKind.wrap_i64]; omega
                          have e2 : IntKind.i64.wrap ((o : Int) + 4 * (k : Int)) = (o : Int) + 4 * (k : Int) := by rw [IntKind.wrap_i64]; omega
                          have haM : o + 4 * k + 4 ≤ M := by omega
                          obtain ⟨y0, y1, y2, y3, hf, q0, q1, q2, q3⟩ := four_at (Q := Q) (k := k) (by rw [hQl]; omega)
                          have c0 := HQC.out wr KG.out _ _ q0
                          have c1 := HQC.out wr KG.out _ _ q1
                          have c2 := HQC.out wr KG.out _ _ q2
                          have c3 := HQC.out wr KG.out _ _ q3
                          rw [← Nat.add_assoc] at c1 c2 c3
                          have hw4 := word_four hf
                          obtain ⟨x, hx⟩ : ∃ x, x = word Q k := ⟨_, rfl⟩
                          rw [← hx] at hw4
                          have y0l := y0.toNat_lt; have y1l := y1.toNat_lt; have y2l := y2.toNat_lt; have y3l := y3.toNat_lt
                          have f0 : IntKind.u32.wrap (y0.toNat : Int) = (y0.toNat : Int) := by rw [IntKind.wrap_u32]; omega
                          have f1 : IntKind.u32.wrap (y1.toNat : Int) = (y1.toNat : Int) := by rw [IntKind.wrap_u32]; omega
                          have f2 : IntKind.u32.wrap (y2.toNat : Int) = (y2.toNat : Int) := by rw [IntKind.wrap_u32]; omega
                          have f3 : IntKind.u32.wrap (y3.toNat : Int) = (y3.toNat : Int) := by rw [IntKind.wrap_u32]; omega
                          have f4 : IntKind.u32.wrap ((y0.toNat : Int) * 16777216) = (y0.toNat : Int) * 16777216 := by rw [IntKind.wrap_u32]; omega
                          have f5 : IntKind.u32.wrap ((y1.toNat : Int) * 65536) = (y1.toNat : Int) * 65536 := by rw [IntKind.wrap_u32]; omega
                          have f6 : IntKind.u32.wrap ((y2.toNat : Int) * 256) = (y2.toNat : Int) * 256 := by rw [IntKind.wrap_u32]; omega
                          have f7 : IntKind.u32.wrap ((y0.toNat : Int) * 16777216 + (y1.toNat : Int) * 65536) = (y0.toNat : Int) * 16777216 + (y1.toNat : Int) * 65536 := by rw [IntKind.wrap_u32]; omega
                          have f8 : IntKind.u32.wrap ((y0.toNat : Int) * 16777216 + (y1.toNat : Int) * 65536 + (y2.toNat : Int) * 256) = (y0.toNat : Int) * 16777216 + (y1.toNat : Int) * 65536 + (y2.toNat : Int) * 256 := by rw [IntKind.wrap_u32]; omega
                          have f9 : IntKind.u32.wrap ((y0.toNat : Int) * 16777216 + (y1.toNat : Int) * 65536 + (y2.toNat : Int) * 256 + (y3.toNat : Int)) = (x.toNat : Int) := by rw [IntKind.wrap_u32]; omega
                          have ck := (bk_cell KW.out k).trans (wrow_new (by omega))
                          have fk := bk_frozen KW.out k
                          have lk := bk_lt KW.out
                          have lg := bk_lt KG.out
                          have hx64 := x.toNat_lt
                          have HX := Lib.hid hx
                          clear hw4 hx hf q0 q1 q2 q3
                          go_upto_region 29 with fail
                          clear e1 e2
                          refine wp_region_later_tail (wr.heap.size) 24 (by kernel_rfl) (by kernel_rfl) ?_
                          simp only [List.take_succ_cons, List.take_zero, List.drop_succ_cons, List.drop_zero]
                          repeat (go_big_quiet_step ((fail)))
                          (first | refine wpQuiet_nil ?_ | (go_big_quiet_want; (try go_big_quiet_op); trace_state; fail))
                          intro w2 hw'
                          have q2 := later_elim hw'
                          clear hw'
                          clear c0 c1 c2 c3 ck fk f0 f1 f2 f3 f4 f5 f6 f7 f8 f9 y0l y1l y2l y3l
                          have kw := bk_keep q2 lk KW.out
                          have K42 := Lib.hid (bk_keep q2 (bk_lt K4.out) K4.out); have K52 := Lib.hid (bk_keep q2 (bk_lt K5.out) K5.out); have KG2 := Lib.hid (bk_keep q2 lg KG.out)
                          have B2 := Lib.hid (BR.out.trans (q2.mono (by omega)))
                          have ck := (bk_cell kw k).trans (wrow_new (by omega))
                          have fk := bk_frozen kw k
                          have lk2 := bk_lt kw
                          have KW2 := Lib.hid kw
                          clear kw q2 KW K4 K5 KG BR lk lg
                          go_wp2_with fail
                          refine ⟨⟨k + 1, by omega, by go_num, Lib.hid ?_, Lib.hid ((bk_setCell_other _ _ _ _ _ (by omega)).trans K42.out), Lib.hid ((bk_setCell_other _ _ _ _ _ (by omega)).trans K52.out), Lib.hid ((bk_setCell_other _ _ _ _ _ (by omega)).trans KG2.out), Lib.hid (B2.out.setCell (p := ⟨x12, k, none⟩) (by show x4 ≤ x12; omega) _)⟩, by simp [intOf]; omega⟩
                          rw [bk_setCell_same, KW2.out]
                          show some (Obj.cells ((wrow Q k).setIfInBounds k (V x)) _ _) = _
                          rw [wrow_set (by omega) x (by rw [if_pos hk16, HX.out])]
                        · obtain rfl : k = 16 := by omega
                          have d2 : decide (((16 : Nat) : Int) < 16) = false := by simp
                          clear HQC HC'
                          go_wp2_with fail
                          go_loopw [15] (fun i wr => ∃ k : Nat, 16 ≤ k ∧ k ≤ 64 ∧ i = .int .i64 k ∧ Hid (bk wr x12 = some (.cells (wrow Q k) 62 (0, 0))) ∧ Hid (bk wr x4 = some (.cells eachR 62 (0, 0))) ∧ Hid (bk wr (x4 + 1) = some (.cells S.row 56 (0, 0))) ∧ Hid (bk wr g = some (.cells cur 5 (0, 0))) ∧ Hid (Below x4 w1 wr)) (fun i _ => 64 - (intOf i).toNat)
                          case atStart => exact ⟨16, by omega, by omega, rfl, KW, K4, K5, KG, BR⟩
                          case round =>
                            clear KW K4 K5 KG BR
                            obtain ⟨k, hk6, hk, rfl, KW, K4, K5, KG, BR⟩ := hrel
                            by_cases hk64 : k < 64
                            · have y1 : decide ((k : Int) < 64) = true := by simp; omega
                              have hk64' : (k : Int) < 64 := by omega
                              have c15 := (bk_cell KW.out (k - 15)).trans (wrow_at (by omega) (by omega))
                              have c2 := (bk_cell KW.out (k - 2)).trans (wrow_at (by omega) (by omega))
                              have lk := bk_lt KW.out
                              obtain ⟨a, ha⟩ : ∃ a, a = (wk Q k).getD (k - 15) 0 := ⟨_, rfl⟩
                              obtain ⟨z, hz⟩ : ∃ z, z = (wk Q k).getD (k - 2) 0 := ⟨_, rfl⟩
                              rw [← ha] at c15
                              rw [← hz] at c2
                              have HA' := Lib.hid ha; have HZ' := Lib.hid hz
                              have t15 : ((k : Int) - 15).toNat = k - 15 := by omega
                              have t2 : ((k : Int) - 2).toNat = k - 2 := by omega
                              have n15 : (k : Int) - 15 < 64 := by omega
                              have n2 : (k : Int) - 2 < 64 := by omega
                              have m15 : ¬ ((k : Int) - 15 < 0) := by omega
                              have m2 : ¬ ((k : Int) - 2 < 0) := by omega
                              have p15 : 0 ≤ (k : Int) - 15 := by omega
                              have p2 : 0 ≤ (k : Int) - 2 := by omega
                              clear ha hz
                              go_upto_region 33 with fail
                              refine wp_region_later (wr.heap.size) (by kernel_rfl) (by kernel_rfl) ?_
                              repeat (go_big_quiet_step (((rename_i xq; first | with_reducible exact rlater (Nat.le_refl _) a 7 7 rfl (by decide) (by decide) xq | with_reducible exact rlater (Nat.le_refl _) a 18 18 rfl (by decide) (by decide) xq))))
                              (first | refine wpQuiet_nil ?_ | (go_big_quiet_want; (try go_big_quiet_op); trace_state; fail))
                              intro w3 hw'
                              have q3 := later_elim hw'
                              clear hw'
                              replace K4 := Lib.hid (bk_keep q3 (bk_lt K4.out) K4.out); replace K5 := Lib.hid (bk_keep q3 (bk_lt K5.out) K5.out); replace KW := Lib.hid (bk_keep q3 (bk_lt KW.out) KW.out); replace KG := Lib.hid (bk_keep q3 (bk_lt KG.out) KG.out)
                              replace BR := Lib.hid (BR.out.trans (q3.mono (by omega)))
                              clear c15 c2 lk q3
                              have c2 := (bk_cell KW.out (k - 2)).trans (wrow_at (by omega) (by omega))
                              rw [← HZ'.out] at c2
                              have lk := bk_lt KW.out
                              go_upto_region 34 with fail
                              refine wp_region_later (w3.heap.size) (by kernel_rfl) (by kernel_rfl) ?_
                              repeat (go_big_quiet_step (((rename_i xq; first | with_reducible exact rlater (Nat.le_refl _) z 17 17 rfl (by decide) (by decide) xq | with_reducible exact rlater (Nat.le_refl _) z 19 19 rfl (by decide) (by decide) xq))))
                              (first | refine wpQuiet_nil ?_ | (go_big_quiet_want; (try go_big_quiet_op); trace_state; fail))
                              intro w4 hw'
                              have q4 := later_elim hw'
                              clear hw'
                              replace K4 := Lib.hid (bk_keep q4 (bk_lt K4.out) K4.out); replace K5 := Lib.hid (bk_keep q4 (bk_lt K5.out) K5.out); replace KW := Lib.hid (bk_keep q4 (bk_lt KW.out) KW.out); replace KG := Lib.hid (bk_keep q4 (bk_lt KG.out) KG.out)
                              replace BR := Lib.hid (BR.out.trans (q4.mono (by omega)))
                              clear c2 lk q4 t15 t2 n15 n2 m15 m2 p15 p2
                              have c16 := (bk_cell KW.out (k - 16)).trans (wrow_at (by omega) (by omega))
                              have c7 := (bk_cell KW.out (k - 7)).trans (wrow_at (by omega) (by omega))
                              have lk := bk_lt KW.out
                              obtain ⟨u, hu⟩ : ∃ a, a = (wk Q k).getD (k - 16) 0 := ⟨_, rfl⟩
                              obtain ⟨v, hv⟩ : ∃ z, z = (wk Q k).getD (k - 7) 0 := ⟨_, rfl⟩
                              rw [← hu] at c16
                              rw [← hv] at c7
                              have HU := Lib.hid hu; have HV := Lib.hid hv
                              have t16 : ((k : Int) - 16).toNat = k - 16 := by omega
                              have t7 : ((k : Int) - 7).toNat = k - 7 := by omega
                              have n16 : (k : Int) - 16 < 64 := by omega
                              have n7 : (k : Int) - 7 < 64 := by omega
                              have m16 : ¬ ((k : Int) - 16 < 0) := by omega
                              have m7 : ¬ ((k : Int) - 7 < 0) := by omega
                              have p16 : 0 ≤ (k : Int) - 16 := by omega
                              have p7 : 0 ≤ (k : Int) - 7 := by omega
                              clear hu hv
                              go_upto_region 35 with fail
                              refine wp_region_later_tail (w4.heap.size) 15 (by kernel_rfl) (by kernel_rfl) ?_
                              simp only [List.take_succ_cons, List.take_zero, List.drop_succ_cons, List.drop_zero]
                              repeat (go_big_quiet_step ((fail)))
                              (first | refine wpQuiet_nil ?_ | (go_big_quiet_want; (try go_big_quiet_op); trace_state; fail))
                              intro w5 hw'
                              have q5 := later_elim hw'
                              clear hw'
                              have kw := bk_keep q5 lk KW.out
                              have K42 := Lib.hid (bk_keep q5 (bk_lt K4.out) K4.out); have K52 := Lib.hid (bk_keep q5 (bk_lt K5.out) K5.out); have KG2 := Lib.hid (bk_keep q5 (bk_lt KG.out) KG.out)
                              have B2 := Lib.hid (BR.out.trans (q5.mono (by omega)))
                              have ck := (bk_cell kw k).trans (wrow_new hk64)
                              have fk := bk_frozen kw k
                              have lk2 := bk_lt kw
                              have KW2 := Lib.hid kw
                              have EX : Hid (uA (uA (uA u (uX (uX (rr a 7) (rr a 18)) (uS a 3))) v) (uX (uX (rr z 17) (rr z 19)) (uS z 10)) = if k < 16 then word Q k else nxt (wk Q k)) := Lib.hid (by
                                rw [if_neg (by omega), nxt_alt]; unfold nxt; rw [wk_length, ← HA'.out, ← HZ'.out, ← HU.out, ← HV.out])
                              clear c16 c7 t16 t7 n16 n7 m16 m7 p16 p7 q5 KW K4 K5 KG BR kw lk
                              go_wp2_with fail
                              refine ⟨⟨k + 1, by omega, by omega, by go_num, Lib.hid ?_, Lib.hid ((bk_setCell_other _ _ _ _ _ (by omega)).trans K42.out), Lib.hid ((bk_setCell_other _ _ _ _ _ (by omega)).trans K52.out), Lib.hid ((bk_setCell_other _ _ _ _ _ (by omega)).trans KG2.out), Lib.hid (B2.out.setCell (p := ⟨x12, k, none⟩) (by show x4 ≤ x12; omega) _)⟩, by simp [intOf]; omega⟩
                              rw [bk_setCell_same, KW2.out]
                              show some (Obj.cells ((wrow Q k).setIfInBounds k (V _)) _ _) = _
                              rw [wrow_set hk64 _ EX.out]
                            · obtain rfl : k = 64 := by omega
                              have y1 : decide (((64 : Nat) : Int) < 64) = false := by simp
                              obtain ⟨ws, hws⟩ : ∃ ws, ws = wk Q 64 := ⟨_, rfl⟩
                              have hwl : ws.length = 64 := by rw [hws, wk_length]
                              have ew : wrow Q 64 = (ws.map V).toArray := by unfold wrow; rw [← hws]; simp
                              rw [ew] at KW
                              have HWS := Lib.hid hws; have HWL := Lib.hid hwl
                              have v0 := (bk_cell K5.out 0).trans (row_0 S); have v1 := (bk_cell K5.out 1).trans (row_1 S); have v2 := (bk_cell K5.out 2).trans (row_2 S); have v3 := (bk_cell K5.out 3).trans (row_3 S)
                              have v4 := (bk_cell K5.out 4).trans (row_4 S); have v5 := (bk_cell K5.out 5).trans (row_5 S); have v6 := (bk_cell K5.out 6).trans (row_6 S); have v7 := (bk_cell K5.out 7).trans (row_7 S)
                              clear hws hwl ew
                              go_wp2_with fail
                              clear v0 v1 v2 v3 v4 v5 v6 v7
                              go_loopw [18, 19, 20, 21, 22, 23, 24, 25, 26] (fun s0 s1 s2 s3 s4 s5 s6 s7 i wr => ∃ (k : Nat) (t : S8), k ≤ 64 ∧ i = .int .i64 k ∧ Hid (t = run K0 ws S k) ∧ s0 = V t.a ∧ s1 = V t.b ∧ s2 = V t.c ∧ s3 = V t.d ∧ s4 = V t.e ∧ s5 = V t.f ∧ s6 = V t.g ∧ s7 = V t.h ∧ Hid (bk wr x12 = some (.cells (ws.map V).toArray 62 (0, 0))) ∧ Hid (bk wr x4 = some (.cells eachR 62 (0, 0))) ∧ Hid (bk wr (x4 + 1) = some (.cells S.row 56 (0, 0))) ∧ Hid (bk wr g = some (.cells cur 5 (0, 0))) ∧ Hid (Below x4 w1 wr)) (fun _ _ _ _ _ _ _ _ i _ => 64 - (intOf i).toNat)
                              case atStart => exact ⟨0, S, by omega, rfl, Lib.hid rfl, rfl, rfl, rfl, rfl, rfl, rfl, rfl, rfl, KW, K4, K5, KG, BR⟩
                              case round =>
                                clear KW K4 K5 KG BR y1
                                obtain ⟨k, t, hk, rfl, HT, rfl, rfl, rfl, rfl, rfl, rfl, rfl, rfl, KW, K4, K5, KG, BR⟩ := hrel
                                by_cases hk64 : k < 64
                                · have y1 : decide ((k : Int) < 64) = true := by simp; omega
                                  have hk64' : (k : Int) < 64 := by omega
                                  obtain ⟨kw, hkw⟩ : ∃ x, x = K0.getD k 0 := ⟨_, rfl⟩
                                  obtain ⟨ww, hww⟩ : ∃ x, x = ws.getD k 0 := ⟨_, rfl⟩
                                  have HKW := Lib.hid hkw; have HWW := Lib.hid hww
                                  clear hkw hww
                                  go_wp2_with fail
                                  refine (rcall t.e 6 6 rfl (by decide) (by decide) _).mono ?_
                                  rintro e w3 ⟨rfl, b3⟩
                                  go_wp2_with fail
                                  refine (rcall t.e 11 11 rfl (by decide) (by decide) _).mono ?_
                                  rintro e w4 ⟨rfl, b4⟩
                                  go_wp2_with fail
                                  refine (rcall t.e 25 25 rfl (by decide) (by decide) _).mono ?_
                                  rintro e w5 ⟨rfl, b5⟩
                                  have q5 := b3.trans ((b4.mono b3.size).trans (b5.mono (Nat.le_trans b3.size b4.size)))
                                  replace BR := Lib.hid (BR.out.trans (q5.mono (by have := bk_lt K4.out; omega)))
                                  replace K4 := Lib.hid (bk_keep q5 (bk_lt K4.out) K4.out); replace K5 := Lib.hid (bk_keep q5 (bk_lt K5.out) K5.out); replace KW := Lib.hid (bk_keep q5 (bk_lt KW.out) KW.out); replace KG := Lib.hid (bk_keep q5 (bk_lt KG.out) KG.out)
                                  clear b3 b4 b5 q5
                                  have ck := (bk_cell K4.out k).trans (eachR_at k hk64)
                                  rw [← HKW.out] at ck
                                  have cw : w5.cell? ⟨x12, k, none⟩ = some (V ww) := by
                                    rw [bk_cell KW.out, List.getElem?_toArray, List.getElem?_map, List.getElem?_eq_getElem (by rw [HWL.out]; exact hk64), HWW.out, List.getD_eq_getElem?_getD, List.getElem?_eq_getElem (by rw [HWL.out]; exact hk64)]
                                    rfl
                                  have lk := bk_lt K4.out
                                  have lw := bk_lt KW.out
                                  go_upto_region 49 with fail
                                  refine wp_region_later (w5.heap.size) (by kernel_rfl) (by kernel_rfl) ?_
                                  repeat (go_big_quiet_step ((fail)))
                                  (first | refine wpQuiet_nil ?_ | (go_big_quiet_want; (try go_big_quiet_op); trace_state; fail))
                                  intro w6 hw'
                                  have q6 := later_elim hw'
                                  clear hw'
                                  replace BR := Lib.hid (BR.out.trans (q6.mono (by omega)))
                                  replace K4 := Lib.hid (bk_keep q6 lk K4.out); replace K5 := Lib.hid (bk_keep q6 (bk_lt K5.out) K5.out); replace KW := Lib.hid (bk_keep q6 lw KW.out); replace KG := Lib.hid (bk_keep q6 (bk_lt KG.out) KG.out)
                                  clear ck cw lk lw q6
                                  rw [one_or kw ww t]
                                  obtain ⟨o1, ho1⟩ : ∃ o, o = one kw ww t := ⟨_, rfl⟩
                                  rw [← ho1]
                                  have HO1 := Lib.hid ho1
                                  clear ho1
                                  go_wp2_with fail
                                  refine (rcall t.a 2 2 rfl (by decide) (by decide) _).mono ?_
                                  rintro e w7 ⟨rfl, b3⟩
                                  go_wp2_with fail
                                  refine (rcall t.a 13 13 rfl (by decide) (by decide) _).mono ?_
                                  rintro e w8 ⟨rfl, b4⟩
                                  go_wp2_with fail
                                  refine (rcall t.a 22 22 rfl (by decide) (by decide) _).mono ?_
                                  rintro e w9 ⟨rfl, b5⟩
                                  have q5 := b3.trans ((b4.mono b3.size).trans (b5.mono (Nat.le_trans b3.size b4.size)))
                                  replace BR := Lib.hid (BR.out.trans (q5.mono (by have := bk_lt K4.out; omega)))
                                  replace K4 := Lib.hid (bk_keep q5 (bk_lt K4.out) K4.out); replace K5 := Lib.hid (bk_keep q5 (bk_lt K5.out) K5.out); replace KW := Lib.hid (bk_keep q5 (bk_lt KW.out) KW.out); replace KG := Lib.hid (bk_keep q5 (bk_lt KG.out) KG.out)
                                  clear b3 b4 b5 q5
                                  go_upto_region 53 with fail
                                  rw [two_or t]
                                  obtain ⟨o2, ho2⟩ : ∃ o, o = two t := ⟨_, rfl⟩
                                  rw [← ho2]
                                  have HO2 := Lib.hid ho2
                                  clear ho2
                                  go_wp2_with fail
                                  obtain ⟨t', ht'⟩ : ∃ t' : S8, t' = ⟨uA o1 o2, t.a, t.b, t.c, uA t.d o1, t.e, t.f, t.g⟩ := ⟨_, rfl⟩
                                  have HT' : Hid (t' = run K0 ws S (k + 1)) := Lib.hid (by
                                    rw [ht', HO1.out, HO2.out]
                                    show _ = stp (K0.getD k 0) (ws.getD k 0) (run K0 ws S k)
                                    rw [← HKW.out, ← HWW.out, ← HT.out]
                                    rfl)
                                  refine ⟨?_, ?measure⟩
                                  repeat' apply Exists.intro
                                  refine ⟨?rel, rfl⟩
                                  case rel => refine ⟨k + 1, t', by omega, by go_num, HT', ?_, ?_, ?_, ?_, ?_, ?_, ?_, ?_, KW, K4, K5, KG, BR⟩ <;> (rw [ht'])
                                  case measure => simp [intOf]; omega
                                · obtain rfl : k = 64 := by omega
                                  have y1 : decide (((64 : Nat) : Int) < 64) = false := by simp
                                  clear KW
                                  have gx5 : g ≠ x4 + 1 := by omega
                                  replace K5 : Hid (bk wr (x4 + 1) = some (.cells (mrow S t 0) 56 (0, 0))) := K5
                                  have cx : wr.cell? ⟨x4 + 1, 0, none⟩ = some (V S.a) := (bk_cell K5.out 0).trans (mrow_at' (by decide) rfl)
                                  have fx := bk_frozen K5.out 0
                                  have lx := bk_lt K5.out
                                  go_upto_region 62 with fail
                                  have k5 : bk (wr.setCell ⟨x4 + 1, 0, none⟩ (V (uA S.a t.a))) (x4 + 1) = some (.cells (mrow S t 1) 56 (0, 0)) := put_mrow (by decide) rfl rfl K5.out
                                  replace K4 := Lib.hid ((bk_setCell_other wr (x4 + 1) 0 x4 (V (uA S.a t.a)) (by show x4 ≠ x4 + 1; omega)).trans K4.out)
                                  replace KG := Lib.hid ((bk_setCell_other wr (x4 + 1) 0 g (V (uA S.a t.a)) (by show g ≠ x4 + 1; omega)).trans KG.out)
                                  replace BR := Lib.hid (BR.out.setCell (p := ⟨x4 + 1, 0, none⟩) (by show x4 ≤ x4 + 1; omega) (V (uA S.a t.a)))
                                  replace K5 := Lib.hid k5
                                  clear k5 cx fx lx
                                  generalize wr.setCell ⟨x4 + 1, 0, none⟩ (V (uA S.a t.a)) = p0 at *
                                  have cx : p0.cell? ⟨x4 + 1, 1, none⟩ = some (V S.b) := (bk_cell K5.out 1).trans (mrow_at' (by decide) rfl)
                                  have fx := bk_frozen K5.out 1
                                  have lx := bk_lt K5.out
                                  go_upto_region 63 with fail
                                  have k5 : bk (p0.setCell ⟨x4 + 1, 1, none⟩ (V (uA S.b t.b))) (x4 + 1) = some (.cells (mrow S t 2) 56 (0, 0)) := put_mrow (by decide) rfl rfl K5.out
                                  replace K4 := Lib.hid ((bk_setCell_other p0 (x4 + 1) 1 x4 (V (uA S.b t.b)) (by show x4 ≠ x4 + 1; omega)).trans K4.out)
                                  replace KG := Lib.hid ((bk_setCell_other p0 (x4 + 1) 1 g (V (uA S.b t.b)) (by show g ≠ x4 + 1; omega)).trans KG.out)
                                  replace BR := Lib.hid (BR.out.setCell (p := ⟨x4 + 1, 1, none⟩) (by show x4 ≤ x4 + 1; omega) (V (uA S.b t.b)))
                                  replace K5 := Lib.hid k5
                                  clear k5 cx fx lx
                                  generalize p0.setCell ⟨x4 + 1, 1, none⟩ (V (uA S.b t.b)) = p1 at *
                                  have cx : p1.cell? ⟨x4 + 1, 2, none⟩ = some (V S.c) := (bk_cell K5.out 2).trans (mrow_at' (by decide) rfl)
                                  have fx := bk_frozen K5.out 2
                                  have lx := bk_lt K5.out
                                  go_upto_region 64 with fail
                                  have k5 : bk (p1.setCell ⟨x4 + 1, 2, none⟩ (V (uA S.c t.c))) (x4 + 1) = some (.cells (mrow S t 3) 56 (0, 0)) := put_mrow (by decide) rfl rfl K5.out
                                  replace K4 := Lib.hid ((bk_setCell_other p1 (x4 + 1) 2 x4 (V (uA S.c t.c)) (by show x4 ≠ x4 + 1; omega)).trans K4.out)
                                  replace KG := Lib.hid ((bk_setCell_other p1 (x4 + 1) 2 g (V (uA S.c t.c)) (by show g ≠ x4 + 1; omega)).trans KG.out)
                                  replace BR := Lib.hid (BR.out.setCell (p := ⟨x4 + 1, 2, none⟩) (by show x4 ≤ x4 + 1; omega) (V (uA S.c t.c)))
                                  replace K5 := Lib.hid k5
                                  clear k5 cx fx lx
                                  generalize p1.setCell ⟨x4 + 1, 2, none⟩ (V (uA S.c t.c)) = p2 at *
                                  have cx : p2.cell? ⟨x4 + 1, 3, none⟩ = some (V S.d) := (bk_cell K5.out 3).trans (mrow_at' (by decide) rfl)
                                  have fx := bk_frozen K5.out 3
                                  have lx := bk_lt K5.out
                                  go_upto_region 65 with fail
                                  have k5 : bk (p2.setCell ⟨x4 + 1, 3, none⟩ (V (uA S.d t.d))) (x4 + 1) = some (.cells (mrow S t 4) 56 (0, 0)) := put_mrow (by decide) rfl rfl K5.out
                                  replace K4 := Lib.hid ((bk_setCell_other p2 (x4 + 1) 3 x4 (V (uA S.d t.d)) (by show x4 ≠ x4 + 1; omega)).trans K4.out)
                                  replace KG := Lib.hid ((bk_setCell_other p2 (x4 + 1) 3 g (V (uA S.d t.d)) (by show g ≠ x4 + 1; omega)).trans KG.out)
                                  replace BR := Lib.hid (BR.out.setCell (p := ⟨x4 + 1, 3, none⟩) (by show x4 ≤ x4 + 1; omega) (V (uA S.d t.d)))
                                  replace K5 := Lib.hid k5
                                  clear k5 cx fx lx
                                  generalize p2.setCell ⟨x4 + 1, 3, none⟩ (V (uA S.d t.d)) = p3 at *
                                  have cx : p3.cell? ⟨x4 + 1, 4, none⟩ = some (V S.e) := (bk_cell K5.out 4).trans (mrow_at' (by decide) rfl)
                                  have fx := bk_frozen K5.out 4
                                  have lx := bk_lt K5.out
                                  go_upto_region 66 with fail
                                  have k5 : bk (p3.setCell ⟨x4 + 1, 4, none⟩ (V (uA S.e t.e))) (x4 + 1) = some (.cells (mrow S t 5) 56 (0, 0)) := put_mrow (by decide) rfl rfl K5.out
                                  replace K4 := Lib.hid ((bk_setCell_other p3 (x4 + 1) 4 x4 (V (uA S.e t.e)) (by show x4 ≠ x4 + 1; omega)).trans K4.out)
                                  replace KG := Lib.hid ((bk_setCell_other p3 (x4 + 1) 4 g (V (uA S.e t.e)) (by show g ≠ x4 + 1; omega)).trans KG.out)
                                  replace BR := Lib.hid (BR.out.setCell (p := ⟨x4 + 1, 4, none⟩) (by show x4 ≤ x4 + 1; omega) (V (uA S.e t.e)))
                                  replace K5 := Lib.hid k5
                                  clear k5 cx fx lx
                                  generalize p3.setCell ⟨x4 + 1, 4, none⟩ (V (uA S.e t.e)) = p4 at *
                                  have cx : p4.cell? ⟨x4 + 1, 5, none⟩ = some (V S.f) := (bk_cell K5.out 5).trans (mrow_at' (by decide) rfl)
                                  have fx := bk_frozen K5.out 5
                                  have lx := bk_lt K5.out
                                  go_upto_region 67 with fail
                                  have k5 : bk (p4.setCell ⟨x4 + 1, 5, none⟩ (V (uA S.f t.f))) (x4 + 1) = some (.cells (mrow S t 6) 56 (0, 0)) := put_mrow (by decide) rfl rfl K5.out
                                  replace K4 := Lib.hid ((bk_setCell_other p4 (x4 + 1) 5 x4 (V (uA S.f t.f)) (by show x4 ≠ x4 + 1; omega)).trans K4.out)
                                  replace KG := Lib.hid ((bk_setCell_other p4 (x4 + 1) 5 g (V (uA S.f t.f)) (by show g ≠ x4 + 1; omega)).trans KG.out)
                                  replace BR := Lib.hid (BR.out.setCell (p := ⟨x4 + 1, 5, none⟩) (by show x4 ≤ x4 + 1; omega) (V (uA S.f t.f)))
                                  replace K5 := Lib.hid k5
                                  clear k5 cx fx lx
                                  generalize p4.setCell ⟨x4 + 1, 5, none⟩ (V (uA S.f t.f)) = p5 at *
                                  have cx : p5.cell? ⟨x4 + 1, 6, none⟩ = some (V S.g) := (bk_cell K5.out 6).trans (mrow_at' (by decide) rfl)
                                  have fx := bk_frozen K5.out 6
                                  have lx := bk_lt K5.out
                                  go_upto_region 68 with fail
                                  have k5 : bk (p5.setCell ⟨x4 + 1, 6, none⟩ (V (uA S.g t.g))) (x4 + 1) = some (.cells (mrow S t 7) 56 (0, 0)) := put_mrow (by decide) rfl rfl K5.out
                                  replace K4 := Lib.hid ((bk_setCell_other p5 (x4 + 1) 6 x4 (V (uA S.g t.g)) (by show x4 ≠ x4 + 1; omega)).trans K4.out)
                                  replace KG := Lib.hid ((bk_setCell_other p5 (x4 + 1) 6 g (V (uA S.g t.g)) (by show g ≠ x4 + 1; omega)).trans KG.out)
                                  replace BR := Lib.hid (BR.out.setCell (p := ⟨x4 + 1, 6, none⟩) (by show x4 ≤ x4 + 1; omega) (V (uA S.g t.g)))
                                  replace K5 := Lib.hid k5
                                  clear k5 cx fx lx
                                  generalize p5.setCell ⟨x4 + 1, 6, none⟩ (V (uA S.g t.g)) = p6 at *
                                  have cx : p6.cell? ⟨x4 + 1, 7, none⟩ = some (V S.h) := (bk_cell K5.out 7).trans (mrow_at' (by decide) rfl)
                                  have fx := bk_frozen K5.out 7
                                  have lx := bk_lt K5.out
                                  go_upto_region 23 with fail
                                  have k5 : bk (p6.setCell ⟨x4 + 1, 7, none⟩ (V (uA S.h t.h))) (x4 + 1) = some (.cells (mrow S t 8) 56 (0, 0)) := put_mrow (by decide) rfl rfl K5.out
                                  replace K4 := Lib.hid ((bk_setCell_other p6 (x4 + 1) 7 x4 (V (uA S.h t.h)) (by show x4 ≠ x4 + 1; omega)).trans K4.out)
                                  replace KG := Lib.hid ((bk_setCell_other p6 (x4 + 1) 7 g (V (uA S.h t.h)) (by show g ≠ x4 + 1; omega)).trans KG.out)
                                  replace BR := Lib.hid (BR.out.setCell (p := ⟨x4 + 1, 7, none⟩) (by show x4 ≤ x4 + 1; omega) (V (uA S.h t.h)))
                                  replace K5 := Lib.hid k5
                                  clear k5 cx fx lx
                                  generalize p6.setCell ⟨x4 + 1, 7, none⟩ (V (uA S.h t.h)) = p7 at *
                                  have HQ' : mrow S t 8 = (hsh P m (List.range (q + 1))).row := by
                                    rw [hsh_succ _ _ _ hqm, ← HS.out, ← HQ.out]
                                    unfold mix
                                    rw [← HWS.out, ← HT.out]
                                    rfl
                                  rw [HQ'] at K5
                                  clear HQ'
                                  go_wp2_with fail
                                  exact ⟨⟨q + 1, by omega, by congr 1; have := HO.out; omega, K4, K5, KG, BR⟩, by simp [intOf]; omega⟩
                    · have hqe : q = m := by omega
                      subst hqe
                      obtain ⟨M, hM⟩ : ∃ M, M = 64 * q := ⟨_, rfl⟩
                      have hMb : M < 2 ^ 32 := by omega
                      obtain ⟨ds, hds⟩ : ∃ ds, ds = (S.ls.flatMap fun x => nb 4 x.toNat) := ⟨_, rfl⟩
                      have hdl : ds.length = 32 := by rw [hds]; exact dig_length S
                      have HDG : Hid (digest b = ds) := Lib.hid (by
                        rw [hds, HS.out]; unfold digest
                        rw [← HPP.out, ← HMM.out])
                      have hdat : ∀ i, i < 32 → ds.getD i 0 = UInt8.ofNat ((S.ls.getD (i / 4) 0).toNat / 2 ^ (24 - i % 4 * 8)) := fun i hi => by rw [hds]; exact dig_at S i hi
                      have HDA := Lib.hid hdat
                      have HM := Lib.hid hM
                      rw [← hM] at cc ⊢
                      have d1 : decide ((M : Int) < (M : Int)) = false := by simp
                      have z32 : (#[Value.int IntKind.u8 0, Value.int IntKind.u8 0, Value.int IntKind.u8 0, Value.int IntKind.u8 0, Value.int IntKind.u8 0, Value.int IntKind.u8 0, Value.int IntKind.u8 0, Value.int IntKind.u8 0, Value.int IntKind.u8 0, Value.int IntKind.u8 0, Value.int IntKind.u8 0, Value.int IntKind.u8 0, Value.int IntKind.u8 0, Value.int IntKind.u8 0, Value.int IntKind.u8 0, Value.int IntKind.u8 0, Value.int IntKind.u8 0, Value.int IntKind.u8 0, Value.int IntKind.u8 0, Value.int IntKind.u8 0, Value.int IntKind.u8 0, Value.int IntKind.u8 0, Value.int IntKind.u8 0, Value.int IntKind.u8 0, Value.int IntKind.u8 0, Value.int IntKind.u8 0, Value.int IntKind.u8 0, Value.int IntKind.u8 0, Value.int IntKind.u8 0, Value.int IntKind.u8 0, Value.int IntKind.u8 0, Value.int IntKind.u8 0] : Array Value) = tb ds 32 0 := by rfl
                      clear hqm hq hM hds hdat KG K4 HC'
                      go_wp2_with fail
                      clear z32 d1
                      have k9 : bk (wr.alloc (.cells (tb ds 32 0) 37)) wr.heap.size = some (.cells (tb ds 32 0) 37 (0, 0)) := bk_alloc_at _ _ _ rfl
                      have b9 : Below wr.heap.size wr (wr.alloc (.cells (tb ds 32 0) 37)) := (Below.refl _ _).alloc (Nat.le_refl _) _
                      generalize wr.alloc (.cells (tb ds 32 0) 37) = w12 at *
                      obtain ⟨x9, hx9⟩ : ∃ x, x = wr.heap.size := ⟨_, rfl⟩
                      rw [← hx9] at k9 b9 ⊢
                      have l5 : x4 + 1 < x9 := by rw [hx9]; exact bk_lt K5.out
                      have K51 := Lib.hid (bk_keep b9 l5 K5.out)
                      have B1 := Lib.hid (BR.out.trans (b9.mono (by omega)))
                      have K9 := Lib.hid k9
                      clear K5 BR k9 b9 hx9
                      go_loopw [34] (fun i wr => ∃ k : Nat, k ≤ 32 ∧ i = .int .i64 k ∧ Hid (bk wr x9 = some (.cells (tb ds 32 k) 37 (0, 0))) ∧ Hid (bk wr (x4 + 1) = some (.cells S.row 56 (0, 0))) ∧ Hid (Below x4 w1 wr)) (fun i _ => 32 - (intOf i).toNat)
                      case atStart => exact ⟨0, by omega, rfl, K9, K51, B1⟩
                      case round =>
                        clear K9 K51 B1
                        obtain ⟨k, hk, rfl, K9, K5, BR⟩ := hrel
                        by_cases hk32 : k < 32
                        · have d2 : decide ((k : Int) < 32) = true := by simp; omega
                          obtain ⟨j, hj⟩ : ∃ j, j = k / 4 := ⟨_, rfl⟩
                          obtain ⟨r, hr⟩ : ∃ r, r = k % 4 := ⟨_, rfl⟩
                          obtain ⟨n, hn⟩ : ∃ n, n = 24 - r * 8 := ⟨_, rfl⟩
                          have hj8 : j < 8 := by omega
                          have hr4 : r < 4 := by omega
                          have e1 : (k : Int) / 4 = (j : Int) := by omega
                          have e1' : (k : Int).tdiv 4 = (j : Int) := by rw [Int.tdiv_eq_ediv_of_nonneg (by omega)]; omega
                          have e2 : (k : Int) % 4 = (r : Int) := by omega
                          have e2' : (k : Int).tmod 4 = (r : Int) := by rw [Int.tmod_eq_emod_of_nonneg (by omega)]; omega
                          have e3 : IntKind.i64.wrap ((r : Int) * 8) = (r : Int) * 8 := by rw [IntKind.wrap_i64]; omega
                          have e3' : IntKind.i64.wrap (8 * (r : Int)) = 8 * (r : Int) := by rw [IntKind.wrap_i64]; omega
                          have e4 : IntKind.i64.wrap (24 - (r : Int) * 8) = (n : Int) := by rw [IntKind.wrap_i64]; omega
                          have e4' : (24 - (r : Int) * 8) = (n : Int) := by omega
                          have hn25 : n < 25 := by omega
                          obtain ⟨x, hx⟩ : ∃ x, x = S.ls.getD j 0 := ⟨_, rfl⟩
                          have cx := (bk_cell K5.out j).trans (S8.row_at S j hj8)
                          rw [← hx] at cx
                          have lx := bk_lt K5.out
                          have ck := (bk_cell K9.out k).trans (tb_at hdl hk32)
                          have fk := bk_frozen K9.out k
                          have lk := bk_lt K9.out
                          have HX := Lib.hid hx; have HJ := Lib.hid hj; have HR := Lib.hid hr; have HN := Lib.hid hn
                          clear hx hj hr hn
                          go_wp2_with fail
                          refine ⟨⟨k + 1, by omega, by go_num, Lib.hid ?_, Lib.hid ((bk_setCell_other _ _ _ _ _ (by omega)).trans K5.out), Lib.hid (BR.out.setCell (p := ⟨x9, k, none⟩) (by show x4 ≤ x9; omega) _)⟩, by simp [intOf]; omega⟩
                          have hy : (x.toNat : Int) / 2 ^ n % 256 = ((ds.getD k 0).toNat : Int) := by
                            rw [HDA.out k hk32, ← HJ.out, ← HR.out, ← HN.out, ← HX.out, UInt8.toNat_ofNat', Int.natCast_emod, Int.natCast_ediv, Int.natCast_pow]
                            rfl
                          rw [hy, bk_setCell_same, K9.out, ← tb_set hdl hk32]
                          rfl
                        · obtain rfl : k = 32 := by omega
                          have d2 : decide (((32 : Nat) : Int) < 32) = false := by simp
                          rw [tb_all hdl] at K9
                          have hds : (ds.map B).toArray.size = 32 := by rw [List.size_toArray, List.length_map, hdl]
                          have xw : xt (ds.map B).toArray 0 32 = (ds.map B).toArray := xt_whole _ _ hds
                          have k9 := K9.out
                          have l9 := bk_lt k9
                          have lw : w.heap.size < x4 := by rw [HX4.out]; exact bk_lt KR.out
                          have kr := bk_keep BR.out lw KR.out
                          have lr := bk_lt kr
                          have hZs : (Z.map B).toArray.size = 32 := by rw [HZ.out]; rfl
                          have BF := Lib.hid (F.out.trans (BR.out.mono (by omega)))
                          clear HDA K5 hdl
                          go_wp2_with fail
                          refine ret_cell (cs := (ds.map B).toArray) rfl rfl rfl ?_ Tryd.underlying37 rfl (by rw [hds]; kernel_rfl) ?_
                          rotate_left
                          · refine ⟨?_, below_setRow BF.out (Nat.le_refl _) _⟩
                            rw [HDG.out]
                          · rw [bk_setRow_same, kr]; rfl
end Go.Proofs.YtmdalmegogfanaaDoor

import Derived.Test.YtjimmfbjhkoekaaMhL
import Derived.Test.YtjimmfbjhkoekaaMhM
import Derived.Test.YtjimmfbjhkoekaaMhN
import Derived.Test.YtjimmfbjhkoekaaMhO
import Derived.Test.YtjimmfbjhkoekaaMhI
import Derived.Test.YtjimmfbjhkoekaaMhA
/- Icmps, the document: Get, whole. -/
namespace Go.Proofs.Ytjimmfbjhkoekaa
open Go.RowKit
set_option maxRecDepth 100000
set_option maxHeartbeats 2000000
theorem rgetnone (k0 : UInt8) (hk0 : isK k0 = false) (src dst : List UInt8) (h1 : src.length = 16) (h2 : dst.length = 16) (A : Option Addr) (l : List UInt8) (c : Nat) (w : World) (h : Rd w w.heap.size A l) (hA : A = none → l = [] ∧ c = 0) (hc : l.length ≤ c) (hl : l.length < 2 ^ 32) (h4 : ¬ l.length < 4) (hsm : sumOf (ovr src dst 58 l) = 0) (hk : l.headD 0 = k0) :
    Calls Try.prog 20 #[av src, av dst, .slice A l.length c] w fun e w' => e = .returned (.tuple #[.agg (mC (mZ 0 0)), .int .i64 9]) ∧ Below w.heap.size w w' := by
  have HISK := Lib.hid hk0
  clear hk0
  have hd : ∃ k1 r, l = k0 :: k1 :: r := by
    match l, h4, hk with
    | x :: y :: r, _, hk => exact ⟨y, r, by rw [show x = k0 from hk]⟩
    | [x], h4, _ => exact absurd (by simp) h4
    | [], h4, _ => exact absurd (by simp) h4
  have HSM := Lib.hid hsm; have HKK := Lib.hid hk; have HHD := Lib.hid hd; have H4 := Lib.hid h4
  have H := Lib.hid h; have HA := Lib.hid hA; have HL := Lib.hid hl
  have z1 := h1; have z2 := h2
  clear h hA hl hsm hk hd
  go_enter Try.func20, Try.ntmps20
  go_upto_region 1 with fail
  generalize hW3 : World.alloc (World.alloc (World.alloc w _) _) _ = W3
  have b3 : Below w.heap.size w W3 := by rw [← hW3]; exact (by (repeat (first | exact Below.refl _ _ | assumption | refine Below.drew ?_ | refine bdrewN ?_ _ | refine Below.alloc ?_ (by first | omega | (simp <;> omega) | (simp only [World.size_alloc] <;> omega)) _ | refine below_setRow ?_ (by first | omega | (simp <;> omega)) _ | refine Below.setCell ?_ (by first | omega | (simp <;> omega)) _)))
  obtain ⟨s0, hs⟩ : ∃ s, s = w.heap.size := ⟨_, rfl⟩
  have ks : bk W3 s0 = some (.cells (src.map B).toArray 23 (0, 0)) := by rw [← hW3, hs, bk_alloc_past _ _ _ (by simp <;> omega), bk_alloc_past _ _ _ (by simp)]; exact bk_alloc_at _ _ _ rfl
  have kd : bk W3 (s0 + 1) = some (.cells (dst.map B).toArray 23 (0, 0)) := by rw [← hW3, hs, bk_alloc_past _ _ _ (by simp)]; exact bk_alloc_at _ _ _ (by simp)
  have km : bk W3 (s0 + 1 + 1) = some (.cells (mC (mZ 0 0)) 33 (0, 0)) := by rw [← hW3, hs]; exact (bk_alloc_at _ _ _ (by simp)).trans (by kernel_rfl)
  rw [← hs]
  have B3 := Lib.hid b3; have HS := Lib.hid hs
  clear b3 hs hW3
  have KM := Lib.hid km
  have l1 := bk_lt ks; have l2 := bk_lt kd; have l3 := bk_lt km
  have d1 : decide ((l.length : Int) < 4) = false := by simp; omega
  have CG : Hid (Calls Try.prog 35 #[av src, av dst, B 58, .slice A l.length c] W3 fun e w' => e = .returned (.int .u16 0) ∧ Below W3.heap.size W3 w') := Lib.hid (by
    refine (rover_any src dst 58 A l c W3 h1 h2 ((H.out.below B3.out (Nat.le_refl _)).mono B3.out.size) HA.out HL.out).mono ?_
    rintro e w' ⟨rfl, b⟩
    rw [HSM.out]
    exact ⟨rfl, b⟩)
  clear h4
  go_wp2_with fail
  refine CG.out.mono ?_
  rintro e w4 ⟨rfl, b4⟩
  have B4 := Lib.hid b4
  have km4 := bk_keep b4 l3 km
  have KM4 := Lib.hid km4
  have F4 := Lib.hid (B3.out.trans (b4.mono B3.out.size))
  clear ks kd km l1 l2 l3 b4 CG km4 d1 z1 z2
  obtain ⟨k1, rr, hlr⟩ := HHD.out
  have hln : 4 ≤ l.length := by have := H4.out; omega
  obtain ⟨b, o, rfl, hbn, hcell⟩ : ∃ b o, A = some ⟨b, o, none⟩ ∧ b < w.heap.size ∧ ∀ j (h : j < l.length), w4.cell? ⟨b, o + j, none⟩ = some (B l[j]) := by
    obtain ⟨b, o, e, hb, hc'⟩ := (H.out.below F4.out (Nat.le_refl _)) (by omega)
    exact ⟨b, o, e, hb, hc'⟩
  have g0 : w4.cell? ⟨b, o, none⟩ = some (.int .u8 ((k0 : UInt8).toNat : Int)) := by have := hcell 0 (by omega); rw [show l[0] = k0 by simp [hlr]] at this; exact this
  have g1 : w4.cell? ⟨b, o + 1, none⟩ = some (.int .u8 (k1.toNat : Int)) := by have := hcell 1 (by omega); rw [show l[1] = k1 by simp [hlr]] at this; exact this
  have i0 : decide ((0 : Int) < (l.length : Int)) = true := by simp; omega
  have i1 : decide ((1 : Int) < (l.length : Int)) = true := by simp; omega
  have hb4 : b < w4.heap.size := Nat.lt_of_lt_of_le hbn F4.out.size
  have HK1 : Hid (l.getD 1 0 = k1) := Lib.hid (by rw [hlr]; rfl)
  have HHL := Lib.hid (And.intro hln hbn)
  clear hcell hlr
  go_upto_region 5 with fail
  go_region
  generalize hW5 : World.drew (World.alloc w4 _) = W5
  have b5 : Below w4.heap.size w4 W5 := by rw [← hW5]; exact (by (repeat (first | exact Below.refl _ _ | assumption | refine Below.drew ?_ | refine bdrewN ?_ _ | refine Below.alloc ?_ (by first | omega | (simp <;> omega) | (simp only [World.size_alloc] <;> omega)) _ | refine below_setRow ?_ (by first | omega | (simp <;> omega)) _ | refine Below.setCell ?_ (by first | omega | (simp <;> omega)) _)))
  have kgm : bk W5 w4.heap.size = some (.cells (mC (mZ k0 k1)) 33 (0, 0)) := by rw [← hW5, bk_drew]; exact (bk_alloc_at _ _ _ rfl).trans (by kernel_rfl)
  obtain ⟨gm, hgm⟩ : ∃ g, g = w4.heap.size := ⟨_, rfl⟩
  rw [← hgm] at kgm ⊢
  have KGM := Lib.hid kgm; have B5 := Lib.hid b5; have HGM := Lib.hid hgm
  have F5 := Lib.hid (F4.out.trans (b5.mono F4.out.size))
  have hcl : (4 : Int) ≤ (l.length : Int) := by omega
  have hlc : (l.length : Int) ≤ (c : Int) := by omega
  obtain ⟨A4, hA4⟩ : ∃ A4, (if c = 4 then some (⟨b, o, none⟩ : Addr) else some ⟨b, o + 4, none⟩) = A4 := ⟨_, rfl⟩
  have HA4 := Lib.hid hA4
  clear b5 kgm hW5 g0 g1 i0 i1 hgm hb4
  go_upto_region 7 with fail
  obtain ⟨gt, hgt⟩ : ∃ g, g = W5.heap.size := ⟨_, rfl⟩
  rw [← hgt]
  obtain ⟨L, hL⟩ : ∃ L, L = l.drop 4 := ⟨_, rfl⟩
  generalize hW6 : World.alloc W5 _ = W6
  have P0 : Hid (RM true w W6 (s0 + 1 + 1) gm gt L (mZ k0 k1) (.ok 0)) := Lib.hid (by
    have b6 : Below W5.heap.size W5 W6 := by rw [← hW6]; exact (by (repeat (first | exact Below.refl _ _ | assumption | refine Below.drew ?_ | refine bdrewN ?_ _ | refine Below.alloc ?_ (by first | omega | (simp <;> omega) | (simp only [World.size_alloc] <;> omega)) _ | refine below_setRow ?_ (by first | omega | (simp <;> omega)) _ | refine Below.setCell ?_ (by first | omega | (simp <;> omega)) _)))
    have kt : bk W6 gt = some (.cells #[.slice A4 (l.length - 4) (c - 4), .int .i64 0] 87 (0, 0)) := by rw [← hW6]; exact bk_alloc_at _ _ _ hgt
    have F6 := F5.out.trans (b6.mono F5.out.size)
    have q1 := bk_lt KM4.out; have q2 := bk_lt KGM.out; have q3 := HGM.out; have q4 := HS.out; have q5 := F4.out.size
    have hT : TU W6 gt w.heap.size L (.ok 0) := by
      refine ⟨⟨A4, l.length - 4, c - 4, kt, fun e => ?_, by omega, fun q e => ?_⟩, by omega⟩
      · rw [← HA4.out] at e
        split at e <;> cases e
      · cases e
        have e0 : L.length = l.length - 4 := by rw [hL, List.length_drop]
        refine ⟨by omega, by omega, fun h0 => ?_⟩
        rw [List.drop_zero] at h0 ⊢
        have e1 : A4 = some ⟨b, o + 4, none⟩ := by rw [← HA4.out, if_neg (by omega)]
        obtain ⟨b', o', e2, hb, hcc⟩ := H.out.below F6 (Nat.le_refl _) (by omega)
        cases e2
        refine ⟨b, o + 4, e1, hb, fun j hj => ?_⟩
        have h5 := hcc (4 + j) (by omega)
        have e3 : L[j] = l[4 + j]'(by omega) := by simp only [hL, List.getElem_drop]
        rw [e3, Nat.add_assoc]
        exact h5
    refine ⟨F6, hT.te, fun _ => hT, ?_, bk_keep b6 q2 KGM.out, by omega⟩
    exact bk_keep b6 (Nat.lt_of_lt_of_le (Nat.lt_of_lt_of_le q1 (by have := B5.out.size; exact this)) (Nat.le_refl _)) (bk_keep B5.out q1 KM4.out))
  have HLL : Hid (L.length < 2 ^ 32) := Lib.hid (by rw [hL, List.length_drop]; have := HL.out; omega)
  have HLE := Lib.hid hL
  have hres : ∀ e w', RGet k0 k1 L w e w' → RGet k0 (l.getD 1 0) (l.drop 4) w e w' := fun e w' h => by rw [HK1.out, ← hL]; exact h
  have HRES := Lib.hid hres
  have u0 : W6.cell? ⟨gm, 0, none⟩ = some (.int .u8 (k0.toNat : Int)) := by rw [bk_cell P0.out.km, mC_0]; rfl
  have lgm := bk_lt P0.out.km
  have LT : Hid (gt = W5.heap.size ∧ W6.heap.size = gt + 1) := Lib.hid ⟨hgt, by rw [← hW6, hgt]; simp⟩
  clear hA4 hgt hL hW6 hres H HA HL F4 F5 B3 B4 B5 KM KM4 KGM HGM HSM HKK HHD H4 HS HHL HA4 hcl hlc hln hbn LT W3 W5 w4
  have hk := HISK.out
  simp only [isK, Bool.or_eq_false_iff, beq_eq_false_iff_ne, ne_eq] at hk
  obtain ⟨⟨⟨⟨⟨⟨⟨⟨⟨⟨⟨⟨k1', k2⟩, k3⟩, k4⟩, k5⟩, k6⟩, k7⟩, k8⟩, k9⟩, k10⟩, k11⟩, k12⟩, k13⟩ := hk
  have n1 : ((k0.toNat : Int) == 1) = false := u8ne (c := 1) (by decide) k1'; have n2 : ((k0.toNat : Int) == 2) = false := u8ne (c := 2) (by decide) k2; have n3 : ((k0.toNat : Int) == 3) = false := u8ne (c := 3) (by decide) k3; have n4 : ((k0.toNat : Int) == 4) = false := u8ne (c := 4) (by decide) k4; have n5 : ((k0.toNat : Int) == 128) = false := u8ne (c := 128) (by decide) k5; have n6 : ((k0.toNat : Int) == 129) = false := u8ne (c := 129) (by decide) k6; have n7 : ((k0.toNat : Int) == 130) = false := u8ne (c := 130) (by decide) k7; have n8 : ((k0.toNat : Int) == 143) = false := u8ne (c := 143) (by decide) k8; have n9 : ((k0.toNat : Int) == 134) = false := u8ne (c := 134) (by decide) k9; have n10 : ((k0.toNat : Int) == 133) = false := u8ne (c := 133) (by decide) k10; have n11 : ((k0.toNat : Int) == 135) = false := u8ne (c := 135) (by decide) k11; have n12 : ((k0.toNat : Int) == 136) = false := u8ne (c := 136) (by decide) k12; have n13 : ((k0.toNat : Int) == 137) = false := u8ne (c := 137) (by decide) k13
  clear k1' k2 k3 k4 k5 k6 k7 k8 k9 k10 k11 k12 k13
  have kr8 := P0.out.kr
  have lr8 := bk_lt kr8
  have FX := Lib.hid (below_row P0.out.bl P0.out.lo.1 (mC (mZ 0 0)))
  clear P0
  go_wp2_with fail
  refine ret_two (cs := mC (mZ 0 0)) rfl rfl rfl rfl (by rw [bk_setRow_same, kr8]; rfl) Try.underlying33 rfl (by rw [mC_size]; kernel_rfl) ?_
  exact ⟨rfl, FX.out⟩
theorem rgetshort (src dst : List UInt8) (_h1 : src.length = 16) (_h2 : dst.length = 16) (A : Option Addr) (l : List UInt8) (c : Nat) (w : World) (h : Rd w w.heap.size A l) (hA : A = none → l = [] ∧ c = 0) (hl : l.length < 2 ^ 32) (h4 : l.length < 4) :
    Calls Try.prog 20 #[av src, av dst, .slice A l.length c] w fun e w' => e = .returned (.tuple #[.agg (mC (mZ 0 0)), .int .i64 5]) ∧ Below w.heap.size w w' := by
  have H := Lib.hid h; have HA := Lib.hid hA; have HL := Lib.hid hl
  clear h hA hl
  go_enter Try.func20, Try.ntmps20
  go_upto_region 1 with fail
  generalize hW3 : World.alloc (World.alloc (World.alloc w _) _) _ = W3
  have b3 : Below w.heap.size w W3 := by rw [← hW3]; exact (by (repeat (first | exact Below.refl _ _ | assumption | refine Below.drew ?_ | refine bdrewN ?_ _ | refine Below.alloc ?_ (by first | omega | (simp <;> omega) | (simp only [World.size_alloc] <;> omega)) _ | refine below_setRow ?_ (by first | omega | (simp <;> omega)) _ | refine Below.setCell ?_ (by first | omega | (simp <;> omega)) _)))
  obtain ⟨s0, hs⟩ : ∃ s, s = w.heap.size := ⟨_, rfl⟩
  have ks : bk W3 s0 = some (.cells (src.map B).toArray 23 (0, 0)) := by rw [← hW3, hs, bk_alloc_past _ _ _ (by simp <;> omega), bk_alloc_past _ _ _ (by simp)]; exact bk_alloc_at _ _ _ rfl
  have kd : bk W3 (s0 + 1) = some (.cells (dst.map B).toArray 23 (0, 0)) := by rw [← hW3, hs, bk_alloc_past _ _ _ (by simp)]; exact bk_alloc_at _ _ _ (by simp)
  have km : bk W3 (s0 + 1 + 1) = some (.cells (mC (mZ 0 0)) 33 (0, 0)) := by rw [← hW3, hs]; exact (bk_alloc_at _ _ _ (by simp)).trans (by kernel_rfl)
  rw [← hs]
  have B3 := Lib.hid b3; have HS := Lib.hid hs
  clear b3 hs hW3
  have KM := Lib.hid km
  have l1 := bk_lt ks; have l2 := bk_lt kd; have l3 := bk_lt km
  have d1 : decide ((l.length : Int) < 4) = true := by simp; omega
  clear h4
  go_wp2_with fail
  refine ret_two (cs := mC (mZ 0 0)) rfl rfl rfl rfl (by rw [bk_setRow_same, KM.out]; rfl) Try.underlying33 rfl (by rw [mC_size]; kernel_rfl) ?_
  exact ⟨rfl, below_row (g := s0 + 1 + 1) B3.out (by have := HS.out; omega) _⟩
theorem rgetsum (src dst : List UInt8) (h1 : src.length = 16) (h2 : dst.length = 16) (A : Option Addr) (l : List UInt8) (c : Nat) (w : World) (h : Rd w w.heap.size A l) (hA : A = none → l = [] ∧ c = 0) (hl : l.length < 2 ^ 32) (h4 : ¬ l.length < 4) (hsm : sumOf (ovr src dst 58 l) ≠ 0) :
    Calls Try.prog 20 #[av src, av dst, .slice A l.length c] w fun e w' => e = .returned (.tuple #[.agg (mC (mZ 0 0)), .int .i64 6]) ∧ Below w.heap.size w w' := by
  have H := Lib.hid h; have HA := Lib.hid hA; have HL := Lib.hid hl; have HBAD := Lib.hid hsm
  clear h hA hl hsm
  go_enter Try.func20, Try.ntmps20
  go_upto_region 1 with fail
  generalize hW3 : World.alloc (World.alloc (World.alloc w _) _) _ = W3
  have b3 : Below w.heap.size w W3 := by rw [← hW3]; exact (by (repeat (first | exact Below.refl _ _ | assumption | refine Below.drew ?_ | refine bdrewN ?_ _ | refine Below.alloc ?_ (by first | omega | (simp <;> omega) | (simp only [World.size_alloc] <;> omega)) _ | refine below_setRow ?_ (by first | omega | (simp <;> omega)) _ | refine Below.setCell ?_ (by first | omega | (simp <;> omega)) _)))
  obtain ⟨s0, hs⟩ : ∃ s, s = w.heap.size := ⟨_, rfl⟩
  have ks : bk W3 s0 = some (.cells (src.map B).toArray 23 (0, 0)) := by rw [← hW3, hs, bk_alloc_past _ _ _ (by simp <;> omega), bk_alloc_past _ _ _ (by simp)]; exact bk_alloc_at _ _ _ rfl
  have kd : bk W3 (s0 + 1) = some (.cells (dst.map B).toArray 23 (0, 0)) := by rw [← hW3, hs, bk_alloc_past _ _ _ (by simp)]; exact bk_alloc_at _ _ _ (by simp)
  have km : bk W3 (s0 + 1 + 1) = some (.cells (mC (mZ 0 0)) 33 (0, 0)) := by rw [← hW3, hs]; exact (bk_alloc_at _ _ _ (by simp)).trans (by kernel_rfl)
  rw [← hs]
  have B3 := Lib.hid b3; have HS := Lib.hid hs
  clear b3 hs hW3
  have KM := Lib.hid km
  have l1 := bk_lt ks; have l2 := bk_lt kd; have l3 := bk_lt km
  have d1 : decide ((l.length : Int) < 4) = false := by simp; omega
  obtain ⟨SM, hSM⟩ : ∃ S, S = sumOf (ovr src dst 58 l) := ⟨_, rfl⟩
  have hne : SM ≠ 0 := by
    rw [hSM]; exact HBAD.out
  have CG := Lib.hid (rover_any src dst 58 A l c W3 h1 h2 ((H.out.below B3.out (Nat.le_refl _)).mono B3.out.size) HA.out HL.out)
  rw [← hSM] at CG
  have z1 : (((SM : Nat) : Int) != 0) = true := by simp; omega
  clear hSM h4 hne
  go_wp2_with fail
  refine CG.out.mono ?_
  rintro e w4 ⟨rfl, b4⟩
  have km4 := bk_keep b4 l3 km
  have KM4 := Lib.hid km4
  have F4 := Lib.hid (B3.out.trans (b4.mono B3.out.size))
  have lm4 := bk_lt km4
  clear ks kd km l1 l2 l3 b4 CG
  go_wp2_with fail
  refine ret_two (cs := mC (mZ 0 0)) rfl rfl rfl rfl (by rw [bk_setRow_same, KM4.out]; rfl) Try.underlying33 rfl (by rw [mC_size]; kernel_rfl) ?_
  exact ⟨rfl, below_row (g := s0 + 1 + 1) F4.out (by have := HS.out; omega) _⟩
/-- What the document's Get hands back. -/
def RGetM (src dst b : List UInt8) (w : World) (e : Ending) (w' : World) : Prop :=
  Below w.heap.size w w' ∧ ((b.length < 4 ∧ e = .returned (.tuple #[.agg (mC (mZ 0 0)), .int .i64 5])) ∨ (¬ b.length < 4 ∧ sumOf (ovr src dst 58 b) ≠ 0 ∧ e = .returned (.tuple #[.agg (mC (mZ 0 0)), .int .i64 6])) ∨
    (¬ b.length < 4 ∧ sumOf (ovr src dst 58 b) = 0 ∧ isK (b.headD 0) = false ∧ e = .returned (.tuple #[.agg (mC (mZ 0 0)), .int .i64 9])) ∨
    (¬ b.length < 4 ∧ sumOf (ovr src dst 58 b) = 0 ∧ isK (b.headD 0) = true ∧ RGet (b.headD 0) (b.getD 1 0) (b.drop 4) w e w'))
theorem rget_any (src dst : List UInt8) (h1 : src.length = 16) (h2 : dst.length = 16) (A : Option Addr) (l : List UInt8) (c : Nat) (w : World) (h : Rd w w.heap.size A l) (hA : A = none → l = [] ∧ c = 0) (hc : l.length ≤ c) (hl : l.length < 2 ^ 32) :
    Calls Try.prog 20 #[av src, av dst, .slice A l.length c] w fun e w' => RGetM src dst l w e w' := by
  by_cases h4 : l.length < 4
  · refine (rgetshort src dst h1 h2 A l c w h hA hl h4).mono ?_
    rintro e w' ⟨rfl, b⟩
    exact ⟨b, .inl ⟨h4, rfl⟩⟩
  by_cases hs : sumOf (ovr src dst 58 l) = 0
  · cases hk : isK (l.headD 0) with
    | false =>
      refine (rgetnone _ hk src dst h1 h2 A l c w h hA hc hl h4 hs rfl).mono ?_
      rintro e w' ⟨rfl, b⟩
      exact ⟨b, .inr (.inr (.inl ⟨h4, hs, hk, rfl⟩))⟩
    | true =>
      have key : Calls Try.prog 20 #[av src, av dst, .slice A l.length c] w fun e w' => RGet (l.headD 0) (l.getD 1 0) (l.drop 4) w e w' := by
        have hk' := hk
        simp only [isK, Bool.or_eq_true, beq_iff_eq] at hk'
        rcases hk' with (((((((((((e | e) | e) | e) | e) | e) | e) | e) | e) | e) | e) | e) | e
        · rw [e]; exact rget1 src dst h1 h2 A l c w h hA hc hl h4 hs e
        · rw [e]; exact rget2 src dst h1 h2 A l c w h hA hc hl h4 hs e
        · rw [e]; exact rget3 src dst h1 h2 A l c w h hA hc hl h4 hs e
        · rw [e]; exact rget4 src dst h1 h2 A l c w h hA hc hl h4 hs e
        · rw [e]; exact rget128 src dst h1 h2 A l c w h hA hc hl h4 hs e
        · rw [e]; exact rget129 src dst h1 h2 A l c w h hA hc hl h4 hs e
        · rw [e]; exact rget130 src dst h1 h2 A l c w h hA hc hl h4 hs e
        · rw [e]; exact rget143 src dst h1 h2 A l c w h hA hc hl h4 hs e
        · rw [e]; exact rget134 src dst h1 h2 A l c w h hA hc hl h4 hs e
        · rw [e]; exact rget133 src dst h1 h2 A l c w h hA hc hl h4 hs e
        · rw [e]; exact rget135 src dst h1 h2 A l c w h hA hc hl h4 hs e
        · rw [e]; exact rget136 src dst h1 h2 A l c w h hA hc hl h4 hs e
        · rw [e]; exact rget137 src dst h1 h2 A l c w h hA hc hl h4 hs e
      refine key.mono ?_
      intro e w' q
      exact ⟨q.1, .inr (.inr (.inr ⟨h4, hs, hk, q⟩))⟩
  · refine (rgetsum src dst h1 h2 A l c w h hA hl h4 hs).mono ?_
    rintro e w' ⟨rfl, b⟩
    exact ⟨b, .inr (.inl ⟨h4, hs, rfl⟩)⟩
end Go.Proofs.Ytjimmfbjhkoekaa
/- Icmps: what both Gets answer. -/
namespace Go.Proofs.Ytjimmfbjhkoekaa
open Go.RowKit
set_option maxRecDepth 100000
set_option maxHeartbeats 1000000
theorem Lx.Fine.low {w w' : World} {d : Lx} (h : d.Fine w) (t : ∀ k, k < w.heap.size → bk w' k = bk w k) : d.Fine w' := by
  have key : ∀ {A : Option Addr} {c : Nat} {ty : TypeId}, Room w A c ty → Room w' A c ty := fun hr h0 => by
    obtain ⟨b, o, cur, e, hb, hc⟩ := hr h0
    exact ⟨b, o, cur, e, (t b (bk_lt hb)).trans hb, hc⟩
  cases d with
  | «by» A n c => exact ⟨h.1, h.2.1, key h.2.2⟩
  | ad A n c => exact ⟨h.1, h.2.1, key h.2.2⟩
theorem mZ_fr (w : World) (n gb : Nat) : Fr w n gb (mZ 0 0) :=
  ⟨fun e => absurd rfl e, rfl, ⟨0, 0, fun e => absurd rfl e, LayAt.nil _ _, (fun a e => by cases e), fun e => absurd rfl e⟩, rfl, fun e => absurd rfl e, rfl, fun i h => absurd h (by simp [mZ]), fun i j h => absurd h (by simp [mZ]), (fun a e => by cases e), rfl, fun e => absurd rfl e⟩
theorem mZ_one : OneL (mZ 0 0) := ⟨fun e => absurd rfl e, fun e => absurd rfl e, fun e => absurd rfl e⟩
/-- What both hand back. -/
theorem both {src dst l : List UInt8} {n : Nat} {e : Ending} {w' : World} (h : GetM src dst l n e w') (hl : l.length ≤ 6000) :
    ∃ (m : Mv) (E gb : Nat), e = .returned (.tuple #[.agg (mC m), .int .i64 (E : Int)]) ∧ MvOk w' w'.heap.size m ∧ Fr w' n gb m ∧ OneL m ∧ (m.dd ≠ [] → n ≤ gb) ∧ Big m ∧ m.os.length + m.rs.length < 2 ^ 20 ∧
      ∀ (W : World) (e2 : Ending) (W2 : World), RGetM src dst l W e2 W2 → ∃ mo, e2 = .returned (.tuple #[.agg (mC mo), .int .i64 (E : Int)]) ∧ mo.pl = m.pl ∧ MvOk W2 W2.heap.size mo ∧ Below W.heap.size W W2 := by
  have bad : ∀ (E : Nat), (∀ (W : World) (e2 : Ending) (W2 : World), RGetM src dst l W e2 W2 → e2 = .returned (.tuple #[.agg (mC (mZ 0 0)), .int .i64 (E : Int)])) → e = .returned (.tuple #[.agg (mC (mZ 0 0)), .int .i64 (E : Int)]) → ∃ (m : Mv) (E gb : Nat), e = .returned (.tuple #[.agg (mC m), .int .i64 (E : Int)]) ∧ MvOk w' w'.heap.size m ∧ Fr w' n gb m ∧ OneL m ∧ (m.dd ≠ [] → n ≤ gb) ∧ Big m ∧ m.os.length + m.rs.length < 2 ^ 20 ∧
      ∀ (W : World) (e2 : Ending) (W2 : World), RGetM src dst l W e2 W2 → ∃ mo, e2 = .returned (.tuple #[.agg (mC mo), .int .i64 (E : Int)]) ∧ mo.pl = m.pl ∧ MvOk W2 W2.heap.size mo ∧ Below W.heap.size W W2 := fun E q he =>
    ⟨mZ 0 0, E, 0, he, mZ_ok _, mZ_fr _ _ _, mZ_one, (fun e => absurd rfl e), mZ_big, by show (0 : Nat) + 0 < _; decide, fun W e2 W2 r => ⟨mZ 0 0, q W e2 W2 r, rfl, mZ_ok _, r.1⟩⟩
  unfold GetM at h
  by_cases h4 : l.length < 4
  · rw [if_pos h4] at h
    refine bad 5 (fun W e2 W2 r => ?_) h
    rcases r.2 with ⟨_, r⟩ | ⟨r, _⟩ | ⟨r, _⟩ | ⟨r, _⟩
    · exact r
    · exact absurd h4 r
    · exact absurd h4 r
    · exact absurd h4 r
  rw [if_neg h4] at h
  by_cases hs : sumOf (ovr src dst 58 l) ≠ 0
  · rw [if_pos hs] at h
    refine bad 6 (fun W e2 W2 r => ?_) h
    rcases r.2 with ⟨r, _⟩ | ⟨_, _, r⟩ | ⟨_, r, _⟩ | ⟨_, r, _⟩
    · exact absurd r h4
    · exact r
    · exact absurd r hs
    · exact absurd r hs
  rw [if_neg hs] at h
  cases hk : isK (l.headD 0) with
  | false =>
    rw [if_pos hk] at h
    refine bad 9 (fun W e2 W2 r => ?_) h
    rcases r.2 with ⟨r, _⟩ | ⟨_, r, _⟩ | ⟨_, _, _, r⟩ | ⟨_, _, r, _⟩
    · exact absurd r h4
    · exact absurd r hs
    · exact r
    · rw [hk] at r; cases r
  | true =>
    rw [if_neg (by rw [hk]; simp)] at h
    obtain ⟨st', m', hp, hc⟩ := h
    obtain ⟨a1, a2⟩ := partG_fun hp
    rcases hc with ⟨he, rfl⟩ | ⟨q, gb, hq, rfl, hok, hfr, hgb⟩
    · refine bad st'.err (fun W e2 W2 r => ?_) rfl
      rcases r.2 with ⟨r, _⟩ | ⟨_, r, _⟩ | ⟨_, _, r, _⟩ | ⟨_, _, _, r⟩
      · exact absurd r h4
      · exact absurd r hs
      · rw [hk] at r; cases r
      · rcases r.2 with ⟨q, mo, hq, _⟩ | ⟨_, r⟩
        · rw [← a1] at hq; rw [hq] at he; exact absurd rfl he
        · rw [a1]; exact r
    · have hpl := a2 q hq
      have hgs : getS (l.headD 0) (l.drop 4) = .ok q := by rw [← a1]; exact hq
      obtain ⟨hsm, hbig⟩ := got_sizes hok hpl hgs (by rw [List.length_drop]; omega)
      refine ⟨m', 0, gb, rfl, hok, hfr, got_one hpl, fun hd => hgb ?_, hbig, ?_, fun W e2 W2 r => ?_⟩
      · have := got_data hpl hd
        have h0 : 0 < (l.drop 4).length := List.length_pos_iff.2 this
        rw [List.length_drop] at h0
        omega
      · have hw : Wf (getV (l.headD 0) (l.getD 1 0) (l.drop 4)) := by rw [← hpl]; exact hok.wf
        obtain ⟨b1, _, _, _, _, b6, _⟩ := getV_le hw hgs
        rw [← hpl] at b1 b6
        have o1 : m'.os.length ≤ 64 := by simpa [Mv.pl] using b1
        have o6 : m'.rs.length ≤ 64 := by simpa [Mv.pl] using b6
        omega
      · rcases r.2 with ⟨r, _⟩ | ⟨_, r, _⟩ | ⟨_, _, r, _⟩ | ⟨_, _, _, r⟩
        · exact absurd r h4
        · exact absurd r hs
        · rw [hk] at r; cases r
        · rcases r.2 with ⟨q', mo, hq', rfl, hpo, hmo⟩ | ⟨r, _⟩
          · exact ⟨mo, rfl, by rw [hpo, hpl], hmo, r.1⟩
          · exact absurd hgs (r q)
end Go.Proofs.Ytjimmfbjhkoekaa
/- IcmpsGet, walked. -/
namespace Go.Proofs.Ytjimmfbjhkoekaa
open Go.RowKit
set_option maxRecDepth 100000
set_option maxHeartbeats 2000000
theorem icmpsGet_out (src dst : List UInt8) (A : Option Addr) (n c : Nat) (w : World) (h1 : src.length = 16) (h2 : dst.length = 16) (h6 : 6000 < n) :
    Calls Try.prog 4 #[av (src ++ dst), .slice A n c] w fun e w' => e = .returned (.bool true) ∧ Below w.heap.size w w' := by
  obtain ⟨E, hE⟩ : ∃ E, E = src ++ dst := ⟨_, rfl⟩
  have q0 : sl E 0 16 = src := by rw [hE]; exact sl_src h1
  have q1 : sl E 16 16 = dst := by rw [hE]; exact sl_dst h1 h2
  have qn : E.length = 32 := by rw [hE, List.length_append]; omega
  rw [← hE]
  clear hE
  have b0 : Below w.heap.size w (w.alloc (.cells (List.map B E).toArray 25)) := (by (repeat (first | exact Below.refl _ _ | assumption | refine Below.drew ?_ | refine bdrewN ?_ _ | refine Below.alloc ?_ (by first | omega | (simp <;> omega) | (simp only [World.size_alloc] <;> omega)) _ | refine below_setRow ?_ (by first | omega | (simp <;> omega)) _ | refine Below.setCell ?_ (by first | omega | (simp <;> omega)) _)))
  have F8 := Lib.hid b0
  clear b0
  have d1 : decide ((n : Int) > 6000) = true := by simp; omega
  have d1' : decide (6000 < n) = true := by simp; omega
  go_enter Try.func4, Try.ntmps4
  go_wp2_with fail
  refine (lives11_any _).mono ?_
  rintro e w9 ⟨rfl, b9⟩
  go_wp2_with fail
  go_ret
  exact ⟨rfl, F8.out.trans (b9.mono F8.out.size)⟩
theorem icmpsGet_walk (src dst : List UInt8) (A : Option Addr) (l : List UInt8) (c : Nat) (w : World) (h1 : src.length = 16) (h2 : dst.length = 16) (h : Rd w w.heap.size A l) (hA : A = none → l = [] ∧ c = 0) (hc : l.length ≤ c) (hl : l.length ≤ 6000) :
    Calls Try.prog 4 #[av (src ++ dst), .slice A l.length c] w fun e w' => e = .returned (.bool true) ∧ Below w.heap.size w w' := by
  have RI := Lib.hid h; have HA := Lib.hid hA; have HC := Lib.hid hc
  clear h hA hc
  obtain ⟨E, hE⟩ : ∃ E, E = src ++ dst := ⟨_, rfl⟩
  have q0 : sl E 0 16 = src := by rw [hE]; exact sl_src h1
  have q1 : sl E 16 16 = dst := by rw [hE]; exact sl_dst h1 h2
  have qn : E.length = 32 := by rw [hE, List.length_append]; omega
  rw [← hE]
  clear hE
  obtain ⟨k, hk⟩ : ∃ k, k = l.length := ⟨_, rfl⟩
  have HLL : Hid (l.length = k) := Lib.hid hk.symm
  rw [← hk] at hl ⊢
  clear hk
  have d1 : decide ((k : Int) > 6000) = false := by simp; omega
  have d1' : decide (6000 < k) = false := by simp; omega
  go_enter Try.func4, Try.ntmps4
  go_upto_region 1 with fail
  have a0 : Below w.heap.size w (w.alloc (.cells (List.map B E).toArray 25)) := (by (repeat (first | exact Below.refl _ _ | assumption | refine Below.drew ?_ | refine bdrewN ?_ _ | refine Below.alloc ?_ (by first | omega | (simp <;> omega) | (simp only [World.size_alloc] <;> omega)) _ | refine below_setRow ?_ (by first | omega | (simp <;> omega)) _ | refine Below.setCell ?_ (by first | omega | (simp <;> omega)) _)))
  have KE : Hid (bk (w.alloc (.cells (List.map B E).toArray 25)) w.heap.size = some (.cells (List.map B E).toArray 25 (0, 0))) := Lib.hid (bk_alloc_at _ _ _ rfl)
  have F := Lib.hid a0
  clear a0
  generalize w.alloc (.cells (List.map B E).toArray 25) = w0 at *
  have n0 := bk_lt KE.out
  have CT := Lib.hid (twinBytes_any A l c w0 ((RI.out.below F.out (Nat.le_refl _)).mono F.out.size) (by rw [HLL.out]; omega))
  rw [HLL.out] at CT
  go_upto_region 3 with fail
  go_wp2_with fail
  refine CT.out.mono ?_
  rintro e w1 ⟨rfl, hT, b1⟩
  obtain ⟨T, hT0⟩ : ∃ T, T = w0.heap.size := ⟨_, rfl⟩
  rw [← hT0] at hT ⊢
  have KT := Lib.hid hT
  have F1 := Lib.hid (F.out.trans (b1.mono F.out.size))
  have ke := bk_keep b1 n0 KE.out
  have KE1 := Lib.hid ke
  have ltT := bk_lt hT
  have le := bk_lt ke
  have HTW : Hid (w.heap.size ≤ T) := Lib.hid (by rw [hT0]; exact F.out.size)
  have CG := Lib.hid (getm_any src dst h1 h2 (some ⟨T, 0, none⟩) l (l.length + 4) w1 (Rd.of_bk KT.out ltT (tw_head l 199)) (fun h => by cases h) (by omega) (by rw [HLL.out]; omega) (by omega))
  rw [HLL.out] at CG
  clear CT hT b1 n0 F KE hT0
  go_wp2_with fail
  refine CG.out.mono ?_
  rintro e w2 ⟨hget, b2⟩
  obtain ⟨m, Er, gb, rfl, hok, hfr, hone, hgb, hbig, hsz, hdoc⟩ := both hget (by rw [HLL.out]; exact hl)
  have OK2 := Lib.hid hok; have FR2 := Lib.hid hfr; have ON := Lib.hid hone; have GB := Lib.hid hgb; have BG := Lib.hid hbig; have SZ := Lib.hid hsz; have DC := Lib.hid hdoc
  have F2 := Lib.hid (F1.out.trans (b2.mono F1.out.size))
  have KE2 := Lib.hid (bk_keep b2 le KE1.out)
  have KT2 := Lib.hid (bk_keep b2 ltT KT.out)
  have HTN : Hid (T < w1.heap.size ∧ w.heap.size ≤ w1.heap.size) := Lib.hid ⟨ltT, F1.out.size⟩
  clear CG hget b2 hok hfr hone hgb hbig hsz hdoc ke le ltT KT KE1 F1
  go_upto_region 5 with fail
  obtain ⟨g6, hg6⟩ : ∃ g, g = w2.heap.size := ⟨_, rfl⟩
  rw [← hg6]
  generalize hW3 : World.alloc w2 _ = w3
  have b3 : Below w2.heap.size w2 w3 := by rw [← hW3]; exact (by (repeat (first | exact Below.refl _ _ | assumption | refine Below.drew ?_ | refine bdrewN ?_ _ | refine Below.alloc ?_ (by first | omega | (simp <;> omega) | (simp only [World.size_alloc] <;> omega)) _ | refine below_setRow ?_ (by first | omega | (simp <;> omega)) _ | refine Below.setCell ?_ (by first | omega | (simp <;> omega)) _)))
  have K6 : Hid (bk w3 g6 = some (.cells (mC m) 33 (0, 0))) := Lib.hid (by rw [← hW3]; exact bk_alloc_at _ _ _ hg6)
  have F3 := Lib.hid (F2.out.trans (b3.mono F2.out.size))
  have B3 := Lib.hid b3
  have ke := bk_keep b3 (bk_lt KE2.out) KE2.out
  have KE3 := Lib.hid ke
  have KT3 := Lib.hid (bk_keep b3 (bk_lt KT2.out) KT2.out)
  have le := bk_lt ke
  have CR := Lib.hid (rget_any src dst h1 h2 A l c w3 ((RI.out.below F3.out (Nat.le_refl _)).mono F3.out.size) HA.out HC.out (by rw [HLL.out]; omega))
  rw [HLL.out] at CR
  clear b3 hW3 hg6 F2 KE2 KT2
  go_wp2_with fail
  refine CR.out.mono ?_
  intro e w4 hdoc
  obtain ⟨mo, rfl, hpo, hmo, b4⟩ := DC.out _ _ _ hdoc
  have OKO := Lib.hid (And.intro hpo hmo)
  have B4 := Lib.hid b4
  have F4 := Lib.hid (F3.out.trans (b4.mono F3.out.size))
  have K64 := Lib.hid (bk_keep b4 (bk_lt K6.out) K6.out)
  have KT4 := Lib.hid (bk_keep b4 (bk_lt KT3.out) KT3.out)
  clear CR hdoc hpo hmo b4 ke le DC F3 KE3 KT3 K6
  go_upto_region 6 with fail
  obtain ⟨g8, hg8⟩ : ∃ g, g = w4.heap.size := ⟨_, rfl⟩
  rw [← hg8]
  generalize hW5 : World.alloc w4 _ = w5
  have b5 : Below w4.heap.size w4 w5 := by rw [← hW5]; exact (by (repeat (first | exact Below.refl _ _ | assumption | refine Below.drew ?_ | refine bdrewN ?_ _ | refine Below.alloc ?_ (by first | omega | (simp <;> omega) | (simp only [World.size_alloc] <;> omega)) _ | refine below_setRow ?_ (by first | omega | (simp <;> omega)) _ | refine Below.setCell ?_ (by first | omega | (simp <;> omega)) _)))
  have k8 : bk w5 g8 = some (.cells (mC mo) 33 (0, 0)) := by rw [← hW5]; exact bk_alloc_at _ _ _ hg8
  have k6 := bk_keep b5 (bk_lt K64.out) K64.out
  have K65 := Lib.hid k6
  have KT5 := Lib.hid (bk_keep b5 (bk_lt KT4.out) KT4.out)
  have F5 := Lib.hid (F4.out.trans (b5.mono F4.out.size))
  have b25 : Below w2.heap.size w2 w5 := B3.out.trans ((B4.out.mono B3.out.size).trans (b5.mono (Nat.le_trans B3.out.size B4.out.size)))
  have B25 := Lib.hid b25
  have OK5 := Lib.hid ((OK2.out.below b25 (Nat.le_refl _)).mono b25.size)
  have l8 := bk_lt k8; have l6 := bk_lt k6
  have CS := Lib.hid (sameMessage_any m mo w5 OK5.out ((OKO.out.2.below b5 (Nat.le_refl _)).mono b5.size) OKO.out.1.symm BG.out)
  have n1 : ((Er : Int) != (Er : Int)) = false := by simp
  clear b5 hW5 hg8 F4 K64 KT4 B3 B4 OKO b25
  go_wp2_with fail
  refine CS.out.mono ?_
  rintro e w6 ⟨rfl, b6⟩
  have F6 := Lib.hid (F5.out.trans (b6.mono F5.out.size))
  have K66 := Lib.hid (bk_keep b6 (bk_lt K65.out) K65.out)
  have KT6 := Lib.hid (bk_keep b6 (bk_lt KT5.out) KT5.out)
  have B26 := Lib.hid (B25.out.trans (b6.mono B25.out.size))
  have CL := Lib.hid (leftBytes_any A l c T w6 ((RI.out.below F6.out (Nat.le_refl _)).mono F6.out.size) (by rw [HLL.out]; omega) KT6.out)
  rw [HLL.out] at CL
  clear CS b6 k8 k6 l8 l6 F5 K65 KT5 B25 OK5
  go_wp2_with fail
  refine CL.out.mono ?_
  rintro e w7 ⟨rfl, b7⟩
  have F7 := Lib.hid (F6.out.trans (b7.mono F6.out.size))
  have K67 := Lib.hid (bk_keep b7 (bk_lt K66.out) K66.out)
  have KT7 := Lib.hid (bk_keep b7 (bk_lt KT6.out) KT6.out)
  have B27 := Lib.hid (B26.out.trans (b7.mono B26.out.size))
  clear CL b7 F6 K66 KT6 B26
  go_upto_region 9 with fail
  obtain ⟨bb, hbb⟩ : ∃ b, b = w7.heap.size := ⟨_, rfl⟩
  rw [← hbb]
  generalize hW8 : World.alloc w7 _ = w8
  have b8 : Below w7.heap.size w7 w8 := by rw [← hW8]; exact (by (repeat (first | exact Below.refl _ _ | assumption | refine Below.drew ?_ | refine bdrewN ?_ _ | refine Below.alloc ?_ (by first | omega | (simp <;> omega) | (simp only [World.size_alloc] <;> omega)) _ | refine below_setRow ?_ (by first | omega | (simp <;> omega)) _ | refine Below.setCell ?_ (by first | omega | (simp <;> omega)) _)))
  have kb : bk w8 bb = some (.cells #[.slice none 0 0] 44 (0, 0)) := by rw [← hW8]; exact bk_alloc_at _ _ _ hbb
  have HBB := Lib.hid hbb
  have B8 := Lib.hid b8
  have hbw : w.heap.size ≤ bb := by rw [hbb]; exact F7.out.size
  have hb8 : w.heap.size ≤ w8.heap.size := Nat.le_trans F7.out.size b8.size
  have HBW := Lib.hid (And.intro hbw hb8)
  have F8 := Lib.hid (F7.out.trans (b8.mono F7.out.size))
  have C9 := Lib.hid (blBytes bb w.heap.size [] (some ⟨T, 0, none⟩) k (k + 4) w8 (BL.new kb) (by simp) hbw hb8)
  clear hW8 hbb b8 kb hbw hb8
  go_wp2_with fail
  refine C9.out.mono ?_
  rintro e w9 ⟨rfl, hb9, f9, B9⟩
  have HB9 := Lib.hid hb9; have FR9 := Lib.hid f9
  have F9 := Lib.hid (F8.out.trans B9)
  have k69 : bk w9 g6 = some (.cells (mC m) 33 (0, 0)) := by
    have h1 := bk_lt K67.out
    rw [f9.low g6 (by rw [HBB.out]; exact h1)]
    exact bk_keep B8.out h1 K67.out
  have l69 := bk_lt k69
  have OK7 := Lib.hid ((OK2.out.below B27.out (Nat.le_refl _)).mono B27.out.size)
  have C10 := Lib.hid (blMessage bb w.heap.size bb ([] ++ [.by (some ⟨T, 0, none⟩) k (k + 4)]) m w9 hb9 (Nat.le_refl _)
    (((OK7.out.os.1.below B8.out (Nat.le_refl _)).mono (by rw [HBB.out]; exact Nat.le_refl _)).low f9 (Nat.le_refl _)) (((OK7.out.rs.below B8.out (Nat.le_refl _)).mono (by rw [HBB.out]; exact Nat.le_refl _)).low f9 (Nat.le_refl _))
    (by have := SZ.out; simp only [List.nil_append, List.length_cons, List.length_nil]; omega) HBW.out.1 F9.out.size)
  clear C9 hb9 f9 B9 F8
  go_wp2_with fail
  refine C10.out.mono ?_
  rintro e w10 ⟨rfl, S10⟩
  have HS := Lib.hid S10
  have F10 := Lib.hid (F9.out.trans S10.bel)
  have low7 : ∀ k, k < w7.heap.size → bk w10 k = bk w7 k := fun k hk => by
    rw [HS.out.fr.low k (by rw [HBB.out]; exact hk), FR9.out.low k (by rw [HBB.out]; exact hk)]
    exact B8.out.block k hk
  have low2 : ∀ k, k < w2.heap.size → bk w10 k = bk w2 k := fun k hk => by
    rw [low7 k (Nat.lt_of_lt_of_le hk B27.out.size)]
    exact B27.out.block k hk
  have fineT : (Lx.by (some ⟨T, 0, none⟩) k (k + 4)).Fine w7 := ⟨by omega, by omega, fun _ => ⟨T, 0, _, rfl, KT7.out, by simp [tw_length, HLL.out]⟩⟩
  have C11 := Lib.hid (apart_lx bb w.heap.size ([] ++ [.by (some ⟨T, 0, none⟩) k (k + 4)] ++ msgL m) w10 S10.bl (fun d hd => by
    rw [List.nil_append] at hd
    rcases List.mem_append.1 hd with hd | hd
    · rw [List.mem_singleton] at hd; subst hd
      exact fineT.low low7
    · exact (got_fine OK2.out FR2.out d hd).low low2) (by rw [List.nil_append]; exact dis_book FR2.out ON.out HTN.out.1 GB.out) (by
      have := SZ.out
      simp only [List.nil_append, List.length_append, List.length_cons, List.length_nil, msgL, optL, recL', List.length_map]; omega))
  have FW : Hid (∀ w', Wrt (rgX ([] ++ [.by (some ⟨T, 0, none⟩) k (k + 4)] ++ msgL m)) w10 w' → Below w.heap.size w w') := Lib.hid fun w' hw => F10.out.trans (hw.below F10.out.size fun b j hr => by
    obtain ⟨d, hd, r⟩ := hr
    rw [List.nil_append] at hd
    rcases List.mem_append.1 hd with hd | hd
    · rw [List.mem_singleton] at hd; subst hd
      obtain ⟨p, e, _⟩ := r
      cases e
      exact HTW.out
    · exact Nat.le_trans HTN.out.2 (got_low FR2.out GB.out d hd b j r))
  clear C10 S10 k69 l69 low7 low2 fineT F9
  go_wp2_with fail
  refine C11.out.mono ?_
  rintro e w11 ⟨rfl, hw⟩
  have F11 := Lib.hid (FW.out w11 hw)
  clear C11 hw FW
  go_wp2_with fail
  refine (lives11_any _).mono ?_
  rintro e w12 ⟨rfl, b12⟩
  go_wp2_with fail
  go_ret
  exact ⟨rfl, F11.out.trans (b12.mono F11.out.size)⟩
end Go.Proofs.Ytjimmfbjhkoekaa

/- Segments got: the program's. -/
import Derived.Test.YtojddfbbeiobpaaQ4
import Derived.Test.YtojddfbbeiobpaaQ1
import Derived.Test.YtojddfbbeiobpaaS29
namespace Go.Proofs.Ytojddfbbeiobpaa
open Go.RowKit
set_option maxRecDepth 100000
/-- What is told of bytes; what is wrong; what is got. -/
def ahd (l : List UInt8) : Nat := 4 * (ob l 12 / 16)
def opt (l : List UInt8) : List UInt8 := (l.drop 20).take (ahd l - 20)
def zE (src dst l : List UInt8) : Int := if l.length < 20 then 5 else if sumOf (ovr src dst 6 l) ≠ 0 then 6 else if ahd l < 20 ∨ l.length < ahd l then 4 else if omss (opt l) = none then 4 else 0
def gS (l : List UInt8) : Sg := ⟨val ((l.drop 0).take 2), val ((l.drop 2).take 2), val ((l.drop 4).take 4), val ((l.drop 8).take 4), UInt8.ofNat (ob l 13) &&& 63, val ((l.drop 14).take 2), (omss (opt l)).getD 0⟩
def zS (src dst l : List UInt8) : Sg := if zE src dst l = 0 then gS l else Sg.zero
def zD (src dst l : List UInt8) : List UInt8 := if zE src dst l = 0 then l.drop (ahd l) else []
section
variable {src dst l : List UInt8}
theorem zE_short (h : l.length < 20) : zE src dst l = 5 := by simp [zE, h]
theorem zE_sum (h : 20 ≤ l.length) (hs : sumOf (ovr src dst 6 l) ≠ 0) : zE src dst l = 6 := by unfold zE; rw [if_neg (by omega), if_pos hs]
theorem zE_form (h : 20 ≤ l.length) (hs : sumOf (ovr src dst 6 l) = 0) (hf : ahd l < 20 ∨ l.length < ahd l) : zE src dst l = 4 := by unfold zE; rw [if_neg (by omega), if_neg (by omega), if_pos hf]
theorem zE_opt (h : 20 ≤ l.length) (hs : sumOf (ovr src dst 6 l) = 0) (hf : ¬ (ahd l < 20 ∨ l.length < ahd l)) (ho : omss (opt l) = none) : zE src dst l = 4 := by unfold zE; rw [if_neg (by omega), if_neg (by omega), if_neg hf, if_pos ho]
theorem zE_ok (h : 20 ≤ l.length) (hs : sumOf (ovr src dst 6 l) = 0) (hf : ¬ (ahd l < 20 ∨ l.length < ahd l)) (ho : omss (opt l) ≠ none) : zE src dst l = 0 := by unfold zE; rw [if_neg (by omega), if_neg (by omega), if_neg hf, if_neg ho]
theorem zS_bad (h : zE src dst l ≠ 0) : zS src dst l = Sg.zero := by simp [zS, h]
theorem zD_bad (h : zE src dst l ≠ 0) : zD src dst l = [] := by simp [zD, h]
theorem val1 (x : UInt8) : val [x] = x.toNat := by simp [val]
theorem ob_val {i : Nat} (h : i < l.length) : val ((l.drop i).take 1) = ob l i := by
  rw [List.drop_eq_getElem_cons h, List.take_succ_cons, List.take_zero, val1]; simp [ob, h]
theorem ahd_lt : ahd l ≤ 60 := by have := ob_lt l 12; unfold ahd; omega
theorem opt_length (h : 20 ≤ ahd l) (h' : ahd l ≤ l.length) : (opt l).length = ahd l - 20 := by unfold opt; rw [List.length_take, List.length_drop]; omega
end
@[go_sem] theorem built_ftsa (a b c d : Nat) : Try.prog.built 30 [(0, .int .u16 a), (1, .int .u16 b), (2, .int .u32 c), (3, .int .u32 d)] = some (sgc ⟨a, b, c, d, 0, 0, 0⟩ none 0 0) := by rw [builtSegment]; rfl
def SGot (src dst l : List UInt8) (w : World) (e : Ending) (w' : World) : Prop :=
  ∃ A', e = .returned (.tuple #[.agg (sgc (zS src dst l) A' (zD src dst l).length (zD src dst l).length), .int .i64 (zE src dst l)]) ∧ Gots (zD src dst l) w.heap.size A' w' ∧ Below w.heap.size w w'
def zsg : Value := .agg (sgc Sg.zero none 0 0)
theorem SGot.bad {src dst l : List UInt8} {w w' : World} {e : Ending} {x : Int} (hE : zE src dst l = x) (h0 : x ≠ 0) (he : e = .returned (.tuple #[zsg, .int .i64 x])) (hb : Below w.heap.size w w') : SGot src dst l w e w' := by
  have h : zE src dst l ≠ 0 := by rw [hE]; exact h0
  refine ⟨none, ?_, by rw [zD_bad h]; exact Gots.nil, hb⟩
  rw [he, hE, zS_bad h, zD_bad h]; rfl
theorem sget_short (src dst : List UInt8) (A : Option Addr) (n c : Nat) (w : World) (_h1 : src.length = 16) (_h2 : dst.length = 16) (hl : n < 20) :
    Calls Try.prog 17 #[av src, av dst, .slice A n c] w fun e w' => e = .returned (.tuple #[zsg, .int .i64 5]) ∧ Below w.heap.size w w' := by
  have d1 : decide ((n : Int) < 20) = true := by simp; omega
  go_enter Try.func17, Try.ntmps17
  go_wp2_with fail
  refine ret_two (cs := sgc Sg.zero none 0 0) rfl rfl rfl rfl ?_ Try.underlying30 rfl (by kernel_rfl) ?_
  rotate_left
  · refine ⟨rfl, ?_⟩
    (repeat (first | exact Below.refl _ _ | assumption | refine Below.drew ?_ | refine bdrewN ?_ _ | refine Below.alloc ?_ (by first | omega | (simp <;> omega) | (simp only [World.size_alloc] <;> omega)) _ | refine below_setRow ?_ (by first | omega | (simp <;> omega)) _ | refine Below.setCell ?_ (by first | omega | (simp <;> omega)) _))
  · simp [go_sem]
set_option maxHeartbeats 2000000 in
theorem sget_big (src dst : List UInt8) (A : Option Addr) (l : List UInt8) (c : Nat) (w : World) (h1 : src.length = 16) (h2 : dst.length = 16) (h : Rd w w.heap.size A l) (hA : A = none → l = [] ∧ c = 0) (h20 : 20 ≤ l.length) (hl : l.length < 2 ^ 32) :
    Calls Try.prog 17 #[av src, av dst, .slice A l.length c] w (SGot src dst l w) := by
  have H := Lib.hid h; have HA := Lib.hid hA
  clear h hA
  have d1 : decide ((l.length : Int) < 20) = false := by simp; omega
  go_enter Try.func17, Try.ntmps17
  have a3 : Below w.heap.size w (((w.alloc (.cells (src.map B).toArray 23)).alloc (.cells (dst.map B).toArray 23)).alloc (.cells (sgc Sg.zero none 0 0) 30)) := (by (repeat (first | exact Below.refl _ _ | assumption | refine Below.drew ?_ | refine bdrewN ?_ _ | refine Below.alloc ?_ (by first | omega | (simp <;> omega) | (simp only [World.size_alloc] <;> omega)) _ | refine below_setRow ?_ (by first | omega | (simp <;> omega)) _ | refine Below.setCell ?_ (by first | omega | (simp <;> omega)) _)))
  have k0 : bk (((w.alloc (.cells (src.map B).toArray 23)).alloc (.cells (dst.map B).toArray 23)).alloc (.cells (sgc Sg.zero none 0 0) 30)) w.heap.size = some (.cells (src.map B).toArray 23 (0, 0)) := by rw [bk_alloc_past _ _ _ (by simp <;> omega), bk_alloc_past _ _ _ (by simp)]; exact bk_alloc_at _ _ _ rfl
  have k1 : bk (((w.alloc (.cells (src.map B).toArray 23)).alloc (.cells (dst.map B).toArray 23)).alloc (.cells (sgc Sg.zero none 0 0) 30)) (w.heap.size + 1) = some (.cells (dst.map B).toArray 23 (0, 0)) := by rw [bk_alloc_past _ _ _ (by simp)]; exact bk_alloc_at _ _ _ (by simp)
  have k2 : bk (((w.alloc (.cells (src.map B).toArray 23)).alloc (.cells (dst.map B).toArray 23)).alloc (.cells (sgc Sg.zero none 0 0) 30)) (w.heap.size + 1 + 1) = some (.cells (sgc Sg.zero none 0 0) 30 (0, 0)) := bk_alloc_at _ _ _ (by simp)
  have hz : (#[.int .u16 0, .int .u16 0, .int .u32 0, .int .u32 0, .int .u8 0, .int .u16 0, .int .u16 0, .slice none 0 0] : Array Value) = sgc Sg.zero none 0 0 := rfl
  go_upto_region 3 with fail
  have A3 := Lib.hid a3
  have K2 := Lib.hid k2
  clear a3 k2
  generalize (((w.alloc (.cells (src.map B).toArray 23)).alloc (.cells (dst.map B).toArray 23)).alloc (.cells (sgc Sg.zero none 0 0) 30)) = wa at *
  clear hz
  have hx := bk_lt K2.out
  go_wp2_with fail
  refine (good_any src dst 6 A l c wa h1 h2 ((H.out.below A3.out (Nat.le_refl _)).mono A3.out.size) hl).mono ?_
  rintro e wb ⟨rfl, b0⟩
  generalize hge : decide (sumOf (ovr src dst 6 l) = 0) = good at *
  have HGE := Lib.hid hge
  replace A3 := Lib.hid (A3.out.trans (b0.mono A3.out.size))
  replace K2 := Lib.hid (bk_keep b0 hx K2.out)
  clear k0 k1 b0 hge
  replace hx := bk_lt K2.out
  cases good
  · have kz := K2.out
    go_wp2_with fail
    refine ret_two (cs := sgc Sg.zero none 0 0) rfl rfl rfl rfl ?_ Try.underlying30 rfl (by kernel_rfl) ?_
    rotate_left
    · exact SGot.bad (zE_sum h20 (by simpa using HGE.out)) (by decide) rfl (below_setRow A3.out (by omega) _)
    · rw [bk_setRow_same, kz]; rfl
  have HS : Hid (sumOf (ovr src dst 6 l) = 0) := Lib.hid (by simpa using HGE.out)
  clear HGE
  go_wp2_with fail
  refine (of_PK A l c wb ((H.out.below A3.out (Nat.le_refl _)).mono A3.out.size) HA.out (by omega) w.heap.size (by omega)).mono ?_
  rintro e wc ⟨gc, gb, rfl, hgc, _, hgg, hgb, hP, hB, b1⟩
  have hgb := hgb (by omega)
  have F := Lib.hid (A3.out.trans (b1.mono A3.out.size))
  replace K2 := Lib.hid (bk_keep b1 hx K2.out)
  have hne2 : ¬ w.heap.size + 1 + 1 = gc := by omega
  have hlo : w.heap.size ≤ gc := by omega
  have HP := Lib.hid hP; have HB := Lib.hid hB
  clear hP hB b1 A3 hgc H HA
  obtain ⟨vf, hvf⟩ : ∃ v, v = val ((l.drop 0).take 2) := ⟨_, rfl⟩
  obtain ⟨vt, hvt⟩ : ∃ v, v = val ((l.drop 2).take 2) := ⟨_, rfl⟩
  obtain ⟨vs, hvs⟩ : ∃ v, v = val ((l.drop 4).take 4) := ⟨_, rfl⟩
  obtain ⟨va, hva⟩ : ∃ v, v = val ((l.drop 8).take 4) := ⟨_, rfl⟩
  obtain ⟨vd, hvd⟩ : ∃ v, v = val ((l.drop 12).take 1) := ⟨_, rfl⟩
  obtain ⟨vl, hvl⟩ : ∃ v, v = val ((l.drop 13).take 1) := ⟨_, rfl⟩
  obtain ⟨vw, hvw⟩ : ∃ v, v = val ((l.drop 14).take 2) := ⟨_, rfl⟩
  obtain ⟨vx, hvx⟩ : ∃ v, v = val ((l.drop 16).take 4) := ⟨_, rfl⟩
  have bl : ∀ q m, q + m ≤ l.length → val ((l.drop q).take m) < 256 ^ m := fun q m hq => by
    have := val_lt ((l.drop q).take m)
    rwa [List.length_take, List.length_drop, show min m (l.length - q) = m by omega] at this
  have bf := bl 0 2 (by omega); have bt := bl 2 2 (by omega); have bs := bl 4 4 (by omega); have ba := bl 8 4 (by omega); have bd := bl 12 1 (by omega); have bg := bl 13 1 (by omega); have bw := bl 14 2 (by omega)
  rw [← hvf] at bf; rw [← hvt] at bt; rw [← hvs] at bs; rw [← hva] at ba; rw [← hvd] at bd; rw [← hvl] at bg; rw [← hvw] at bw
  have wf : IntKind.u16.wrap (vf : Int) = vf := by rw [IntKind.wrap_u16]; omega
  have wt : IntKind.u16.wrap (vt : Int) = vt := by rw [IntKind.wrap_u16]; omega
  have ws : IntKind.u32.wrap (vs : Int) = vs := by rw [IntKind.wrap_u32]; omega
  have wk : IntKind.u32.wrap (va : Int) = va := by rw [IntKind.wrap_u32]; omega
  have ww : IntKind.u16.wrap (vw : Int) = vw := by rw [IntKind.wrap_u16]; omega
  have HF := Lib.hid hvf; have HT := Lib.hid hvt; have HQ := Lib.hid hvs; have HK := Lib.hid hva; have HD := Lib.hid hvd; have HL := Lib.hid hvl; have HW := Lib.hid hvw; have HX := Lib.hid hvx
  clear hvf hvt hvs hva hvd hvl hvw hvx bl
  have C := num_at gc gb l 0 2 wc HP.out HB.out hgg (by omega) (by decide) (by decide)
  rw [← (HF).out] at C
  have HC := Lib.hid C
  clear C
  go_wp2_with fail
  refine HC.out.mono ?_
  rintro e w1 ⟨rfl, hP2, hg2⟩
  replace HB := Lib.hid (HB.out.grown hg2 (by omega))
  replace K2 := Lib.hid ((show bk w1 (w.heap.size + 1 + 1) = bk wc (w.heap.size + 1 + 1) from hg2.block _ (bk_lt K2.out) (fun e => hne2 (by injection e))).trans K2.out)
  replace F := Lib.hid (F.out.grown hg2 F.out.size fun k hk => by cases hk; exact hlo)
  replace HP := Lib.hid hP2
  clear hP2 hg2 HC
  have C := num_at gc gb l (0 + 2) 2 w1 HP.out HB.out hgg (by omega) (by decide) (by decide)
  rw [← (HT).out] at C
  have HC := Lib.hid C
  clear C
  go_wp2_with fail
  refine HC.out.mono ?_
  rintro e w2 ⟨rfl, hP2, hg2⟩
  replace HB := Lib.hid (HB.out.grown hg2 (by omega))
  replace K2 := Lib.hid ((show bk w2 (w.heap.size + 1 + 1) = bk w1 (w.heap.size + 1 + 1) from hg2.block _ (bk_lt K2.out) (fun e => hne2 (by injection e))).trans K2.out)
  replace F := Lib.hid (F.out.grown hg2 F.out.size fun k hk => by cases hk; exact hlo)
  replace HP := Lib.hid hP2
  clear hP2 hg2 HC
  have C := num_at gc gb l (0 + 2 + 2) 4 w2 HP.out HB.out hgg (by omega) (by decide) (by decide)
  rw [← (HQ).out] at C
  have HC := Lib.hid C
  clear C
  go_wp2_with fail
  refine HC.out.mono ?_
  rintro e w3 ⟨rfl, hP2, hg2⟩
  replace HB := Lib.hid (HB.out.grown hg2 (by omega))
  replace K2 := Lib.hid ((show bk w3 (w.heap.size + 1 + 1) = bk w2 (w.heap.size + 1 + 1) from hg2.block _ (bk_lt K2.out) (fun e => hne2 (by injection e))).trans K2.out)
  replace F := Lib.hid (F.out.grown hg2 F.out.size fun k hk => by cases hk; exact hlo)
  replace HP := Lib.hid hP2
  clear hP2 hg2 HC
  have C := num_at gc gb l (0 + 2 + 2 + 4) 4 w3 HP.out HB.out hgg (by omega) (by decide) (by decide)
  rw [← (HK).out] at C
  have HC := Lib.hid C
  clear C
  go_wp2_with fail
  refine HC.out.mono ?_
  rintro e w4 ⟨rfl, hP2, hg2⟩
  replace HB := Lib.hid (HB.out.grown hg2 (by omega))
  replace K2 := Lib.hid ((show bk w4 (w.heap.size + 1 + 1) = bk w3 (w.heap.size + 1 + 1) from hg2.block _ (bk_lt K2.out) (fun e => hne2 (by injection e))).trans K2.out)
  replace F := Lib.hid (F.out.grown hg2 F.out.size fun k hk => by cases hk; exact hlo)
  replace HP := Lib.hid hP2
  clear hP2 hg2 HC
  go_wp2_with fail
  obtain ⟨z9, hz9⟩ : ∃ z, z = w4.heap.size := ⟨_, rfl⟩
  have b5 : Below w4.heap.size w4 (w4.alloc (.cells (sgc ⟨vf, vt, vs, va, 0, 0, 0⟩ none 0 0) 30)) := (Below.refl _ _).alloc (Nat.le_refl _) _
  have KZ : Hid (bk (w4.alloc (.cells (sgc ⟨vf, vt, vs, va, 0, 0, 0⟩ none 0 0) 30)) z9 = some (.cells (sgc ⟨vf, vt, vs, va, 0, 0, 0⟩ none 0 0) 30 (0, 0))) := Lib.hid (bk_alloc_at _ _ _ hz9)
  have hgcl : gc < w4.heap.size := by obtain ⟨cs, hc⟩ := HP.out.obj; exact bk_lt hc
  have hnez : ¬ z9 = gc := by omega
  have hloz : w.heap.size ≤ z9 := by have := F.out.size; omega
  have hz2 : ¬ z9 = w.heap.size + 1 + 1 := by have := bk_lt K2.out; omega
  have hzb : ¬ z9 = gb := by omega
  replace HB := Lib.hid (HB.out.keep fun h => bk_keep b5 h rfl)
  replace HP := Lib.hid (HP.out.keep (bk_keep b5 hgcl rfl))
  replace K2 := Lib.hid (bk_keep b5 (bk_lt K2.out) K2.out)
  replace F := Lib.hid (F.out.trans (b5.mono F.out.size))
  rw [← hz9]
  clear hz9 b5 hgcl
  generalize w4.alloc (.cells (sgc ⟨vf, vt, vs, va, 0, 0, 0⟩ none 0 0) 30) = w5 at *
  have C := num_at gc gb l (0 + 2 + 2 + 4 + 4) 1 w5 HP.out HB.out hgg (by omega) (by decide) (by decide)
  rw [← (HD).out] at C
  have HC := Lib.hid C
  clear C
  go_wp2_with fail
  refine HC.out.mono ?_
  rintro e w6 ⟨rfl, hP2, hg2⟩
  replace HB := Lib.hid (HB.out.grown hg2 (by omega))
  replace K2 := Lib.hid ((show bk w6 (w.heap.size + 1 + 1) = bk w5 (w.heap.size + 1 + 1) from hg2.block _ (bk_lt K2.out) (fun e => hne2 (by injection e))).trans K2.out)
  replace KZ := Lib.hid ((show bk w6 z9 = bk w5 z9 from hg2.block _ (bk_lt KZ.out) (fun e => hnez (by injection e))).trans KZ.out)
  replace F := Lib.hid (F.out.grown hg2 F.out.size fun k hk => by cases hk; exact hlo)
  replace HP := Lib.hid hP2
  clear hP2 hg2 HC
  obtain ⟨ah, hah⟩ : ∃ ah, ah = ahd l := ⟨_, rfl⟩
  have hvd := (HD.out).trans (ob_val (show 12 < l.length by omega))
  have eA : (vd : Int) / 16 * 4 = (ah : Int) := by rw [hah]; unfold ahd; rw [← hvd]; push_cast; omega
  obtain ⟨y13, hy13⟩ : ∃ y, y = UInt8.ofNat (ob l 13) &&& 63 := ⟨_, rfl⟩
  have hvl := (HL.out).trans (ob_val (show 13 < l.length by omega))
  have e13 : bits BinOp.and IntKind.u8 (vl : Int) 63 = (y13.toNat : Int) := by
    have e := bits_and63 (UInt8.ofNat vl)
    rw [UInt8.toNat_ofNat', Nat.mod_eq_of_lt (by omega)] at e
    rw [e, hy13, hvl]
  have wl : IntKind.u8.wrap (vl : Int) = vl := by rw [IntKind.wrap_u8]; omega
  have a60 := ahd_lt (l := l)
  rw [← hah] at a60
  have HAH := Lib.hid hah; have HY := Lib.hid hy13
  clear hvd hvl hah hy13
  have C := num_at gc gb l (0 + 2 + 2 + 4 + 4 + 1) 1 w6 HP.out HB.out hgg (by omega) (by decide) (by decide)
  rw [← (HL).out] at C
  have HC := Lib.hid C
  clear C
  go_wp2_with fail
  refine HC.out.mono ?_
  rintro e w7 ⟨rfl, hP2, hg2⟩
  replace HB := Lib.hid (HB.out.grown hg2 (by omega))
  replace K2 := Lib.hid ((show bk w7 (w.heap.size + 1 + 1) = bk w6 (w.heap.size + 1 + 1) from hg2.block _ (bk_lt K2.out) (fun e => hne2 (by injection e))).trans K2.out)
  replace KZ := Lib.hid ((show bk w7 z9 = bk w6 z9 from hg2.block _ (bk_lt KZ.out) (fun e => hnez (by injection e))).trans KZ.out)
  replace F := Lib.hid (F.out.grown hg2 F.out.size fun k hk => by cases hk; exact hlo)
  replace HP := Lib.hid hP2
  clear hP2 hg2 HC
  have C := num_at gc gb l (0 + 2 + 2 + 4 + 4 + 1 + 1) 2 w7 HP.out HB.out hgg (by omega) (by decide) (by decide)
  rw [← (HW).out] at C
  have HC := Lib.hid C
  clear C
  go_wp2_with fail
  refine HC.out.mono ?_
  rintro e w8 ⟨rfl, hP2, hg2⟩
  replace HB := Lib.hid (HB.out.grown hg2 (by omega))
  replace K2 := Lib.hid ((show bk w8 (w.heap.size + 1 + 1) = bk w7 (w.heap.size + 1 + 1) from hg2.block _ (bk_lt K2.out) (fun e => hne2 (by injection e))).trans K2.out)
  replace KZ := Lib.hid ((show bk w8 z9 = bk w7 z9 from hg2.block _ (bk_lt KZ.out) (fun e => hnez (by injection e))).trans KZ.out)
  replace F := Lib.hid (F.out.grown hg2 F.out.size fun k hk => by cases hk; exact hlo)
  replace HP := Lib.hid hP2
  clear hP2 hg2 HC
  have z4 := (bk_cell KZ.out 4).trans sgc_4
  have z5 := (bk_cell KZ.out 5).trans sgc_5
  have f4 := bk_frozen KZ.out 4
  have f5 := bk_frozen KZ.out 5
  have lz := bk_lt KZ.out
  go_wp2_with fail
  have KZ2 : Hid (bk ((w8.setCell ⟨z9, 4, none⟩ (.int .u8 (y13.toNat : Int))).setCell ⟨z9, 5, none⟩ (.int .u16 (vw : Int))) z9 = some (.cells (sgc ⟨vf, vt, vs, va, y13, vw, 0⟩ none 0 0) 30 (0, 0))) := Lib.hid (by
    rw [bk_setCell_same, bk_setCell_same, (show bk w8 z9 = _ from KZ.out)]; rfl)
  replace HB := Lib.hid (HB.out.keep (w' := ((w8.setCell ⟨z9, 4, none⟩ (.int .u8 (y13.toNat : Int))).setCell ⟨z9, 5, none⟩ (.int .u16 (vw : Int)))) fun h => by rw [bk_setCell_other _ _ _ _ _ (by omega), bk_setCell_other _ _ _ _ _ (by omega)])
  replace HP := Lib.hid (HP.out.keep (w' := ((w8.setCell ⟨z9, 4, none⟩ (.int .u8 (y13.toNat : Int))).setCell ⟨z9, 5, none⟩ (.int .u16 (vw : Int)))) (by rw [bk_setCell_other _ _ _ _ _ (by omega), bk_setCell_other _ _ _ _ _ (by omega)]))
  replace K2 := Lib.hid (show bk ((w8.setCell ⟨z9, 4, none⟩ (.int .u8 (y13.toNat : Int))).setCell ⟨z9, 5, none⟩ (.int .u16 (vw : Int))) (w.heap.size + 1 + 1) = some (.cells (sgc Sg.zero none 0 0) 30 (0, 0)) by rw [bk_setCell_other _ _ _ _ _ (by omega), bk_setCell_other _ _ _ _ _ (by omega)]; exact K2.out)
  replace F := Lib.hid ((F.out.setCell (p := ⟨z9, 4, none⟩) hloz (.int .u8 (y13.toNat : Int))).setCell (p := ⟨z9, 5, none⟩) hloz (.int .u16 (vw : Int)))
  clear z4 z5 f4 f5 lz KZ
  have KZ := KZ2
  clear KZ2
  generalize ((w8.setCell ⟨z9, 4, none⟩ (.int .u8 (y13.toNat : Int))).setCell ⟨z9, 5, none⟩ (.int .u16 (vw : Int))) = w9 at *
  have C := num_at gc gb l (0 + 2 + 2 + 4 + 4 + 1 + 1 + 2) 4 w9 HP.out HB.out hgg (by omega) (by decide) (by decide)
  rw [← (HX).out] at C
  have HC := Lib.hid C
  clear C
  go_wp2_with fail
  refine HC.out.mono ?_
  rintro e w10 ⟨rfl, hP2, hg2⟩
  replace HB := Lib.hid (HB.out.grown hg2 (by omega))
  replace K2 := Lib.hid ((show bk w10 (w.heap.size + 1 + 1) = bk w9 (w.heap.size + 1 + 1) from hg2.block _ (bk_lt K2.out) (fun e => hne2 (by injection e))).trans K2.out)
  replace KZ := Lib.hid ((show bk w10 z9 = bk w9 z9 from hg2.block _ (bk_lt KZ.out) (fun e => hnez (by injection e))).trans KZ.out)
  replace F := Lib.hid (F.out.grown hg2 F.out.size fun k hk => by cases hk; exact hlo)
  replace HP := Lib.hid hP2
  clear hP2 hg2 HC
  by_cases hf : ah < 20 ∨ l.length < ah
  · have E4 : Hid (zE src dst l = 4) := Lib.hid (zE_form h20 HS.out (by rw [← HAH.out]; exact hf))
    have kz := K2.out
    by_cases hf1 : ah < 20
    · have e2 : decide ((ah : Int) < 20) = true := by simp; omega
      go_wp2_with fail
      refine ret_two (cs := sgc Sg.zero none 0 0) rfl rfl rfl rfl ?_ Try.underlying30 rfl (by kernel_rfl) ?_
      rotate_left
      · exact SGot.bad E4.out (by decide) rfl (below_setRow F.out (by omega) _)
      · rw [bk_setRow_same, kz]; rfl
    · have e2 : decide ((ah : Int) < 20) = false := by simp; omega
      have e3 : decide ((l.length : Int) < (ah : Int)) = true := by simp; omega
      go_wp2_with fail
      refine ret_two (cs := sgc Sg.zero none 0 0) rfl rfl rfl rfl ?_ Try.underlying30 rfl (by kernel_rfl) ?_
      rotate_left
      · exact SGot.bad E4.out (by decide) rfl (below_setRow F.out (by omega) _)
      · rw [bk_setRow_same, kz]; rfl
  have e2 : decide ((ah : Int) < 20) = false := by simp; omega
  have e3 : decide ((l.length : Int) < (ah : Int)) = false := by simp; omega
  have e4 : IntKind.i64.wrap ((ah : Int) - 20) = ((ah - 20 : Nat) : Int) := by rw [IntKind.wrap_i64]; omega
  have HP6 := pbytes_any gc gb l (some (0 + 2 + 2 + 4 + 4 + 1 + 1 + 2 + 4)) ((ah - 20 : Nat) : Int) w10 HP.out
  have e8 : cutB ((ah - 20 : Nat) : Int) (stOf l (some (0 + 2 + 2 + 4 + 4 + 1 + 1 + 2 + 4))) = ((l.drop 20).take (ah - 20), some ((l.drop 20).drop (ah - 20))) := cutB_good (by rw [List.length_drop]; omega)
  have eO : (l.drop 20).take (ah - 20) = opt l := by unfold opt; rw [← HAH.out]
  have eP : posB ((ah - 20 : Nat) : Int) l (some (0 + 2 + 2 + 4 + 4 + 1 + 1 + 2 + 4)) = some ah := by
    simp only [posB]; rw [if_neg (by omega)]; congr 1; omega
  rw [eO] at e8
  obtain ⟨O, hO⟩ : ∃ O, O = opt l := ⟨_, rfl⟩
  have lO : O.length = ah - 20 := by have e := opt_length (l := l) (by rw [← HAH.out]; omega) (by rw [← HAH.out]; omega); rw [hO, e, ← HAH.out]
  rw [← hO] at e8 eO
  obtain ⟨nO, hnO⟩ : ∃ n, n = O.length := ⟨_, rfl⟩
  have C8 : Calls Try.prog 34 #[.pointer (some ⟨gc, 0, none⟩), .int .i64 ((ah - 20 : Nat) : Int)] w10 fun e w' => ∃ A', e = .returned (.slice A' nO nO) ∧ (0 < nO → A' = some ⟨gb, 20, none⟩) ∧ PK w' gc gb l (some ah) ∧ w10.grownBy w' (some gc) := by
    refine HP6.mono ?_
    rintro e w' ⟨A', he, hA', hpk, hg⟩
    rw [e8] at he hA'
    rw [eP] at hpk
    rw [hnO]
    exact ⟨A', he, fun h => by obtain ⟨q, hq, h', _⟩ := hA' h; cases hq; exact h', hpk, hg⟩
  have HC8 := Lib.hid C8
  have HO := Lib.hid hO; have LO := Lib.hid lO; have NO := Lib.hid hnO; have EO := Lib.hid eO
  clear HP6 e8 eP C8 hO lO hnO eO
  go_wp2_with fail
  refine HC8.out.mono ?_
  rintro e w11 ⟨AO, rfl, hAO, hP2, hg2⟩
  replace HB := Lib.hid (HB.out.grown hg2 (by omega))
  replace K2 := Lib.hid ((show bk w11 (w.heap.size + 1 + 1) = bk w10 (w.heap.size + 1 + 1) from hg2.block _ (bk_lt K2.out) (fun e => hne2 (by injection e))).trans K2.out)
  replace KZ := Lib.hid ((show bk w11 z9 = bk w10 z9 from hg2.block _ (bk_lt KZ.out) (fun e => hnez (by injection e))).trans KZ.out)
  replace F := Lib.hid (F.out.grown hg2 F.out.size fun k hk => by cases hk; exact hlo)
  replace HP := Lib.hid hP2
  clear hP2 hg2 HC8
  have hgcl : gc < w11.heap.size := by obtain ⟨cs, hc⟩ := HP.out.obj; exact bk_lt hc
  have RO : Rd w11 w11.heap.size AO O := fun h0 => by
    have := HB.out.rd (q := 20) (m := ah - 20) (n := w11.heap.size) (by omega)
    rw [EO.out] at this
    rw [hAO (by rw [NO.out]; exact h0)]
    exact this h0
  have CS := (callsIn_wide (n := 4)).1 (size_in 4 (by decide) AO O nO gb 20 w11 RO (fun h => hAO (by rw [NO.out]; exact h)) (by rw [LO.out]; omega) (by rw [NO.out]; exact Nat.le_refl _) (by rw [NO.out, LO.out]; omega))
  rw [← NO.out] at CS
  obtain ⟨ms, hms⟩ : ∃ ms, ms = omss O := ⟨_, rfl⟩
  rw [← hms] at CS
  have HCS := Lib.hid CS
  have HMS := Lib.hid hms
  clear CS RO hAO hms
  go_wp2_with fail
  refine HCS.out.mono ?_
  rintro e w12 ⟨rfl, b12⟩
  have lz := bk_lt KZ.out
  have l2 := bk_lt K2.out
  replace HB := Lib.hid (HB.out.keep fun h => bk_keep b12 h rfl)
  replace HP := Lib.hid (HP.out.keep (bk_keep b12 hgcl rfl))
  replace K2 := Lib.hid (bk_keep b12 l2 K2.out)
  replace KZ := Lib.hid (bk_keep b12 lz KZ.out)
  replace F := Lib.hid (F.out.trans (b12.mono F.out.size))
  clear b12 lz l2 HCS hgcl
  have hf' : ¬ (ahd l < 20 ∨ l.length < ahd l) := by rw [← HAH.out]; exact hf
  have HF' := Lib.hid hf'
  clear hf'
  cases ms with
  | none =>
    have E4 : Hid (zE src dst l = 4) := Lib.hid (zE_opt h20 HS.out HF'.out (by rw [← HO.out]; exact HMS.out.symm))
    have kz := K2.out
    simp only [Option.getD_none, Option.isSome_none]
    go_wp2_with fail
    refine ret_two (cs := sgc Sg.zero none 0 0) rfl rfl rfl rfl ?_ Try.underlying30 rfl (by kernel_rfl) ?_
    rotate_left
    · exact SGot.bad E4.out (by decide) rfl (below_setRow F.out (by omega) _)
    · rw [bk_setRow_same, kz]; rfl
  | some ms =>
    have E0 : Hid (zE src dst l = 0) := Lib.hid (zE_ok h20 HS.out HF'.out (by rw [← HO.out, ← HMS.out]; simp))
    simp only [Option.getD_some, Option.isSome_some]
    have C := rest_at gc gb l ah w12 HP.out
    obtain ⟨nD, hnD⟩ : ∃ n, n = l.length - ah := ⟨_, rfl⟩
    rw [← hnD] at C
    have HC := Lib.hid C
    have ND := Lib.hid hnD
    clear C hnD
    go_wp2_with fail
    refine HC.out.mono ?_
    rintro e w13 ⟨AR, rfl, hAR, hP2, hg2⟩
    replace HB := Lib.hid (HB.out.grown hg2 (by omega))
    have kz := ((show bk w13 (w.heap.size + 1 + 1) = bk w12 (w.heap.size + 1 + 1) from hg2.block _ (bk_lt K2.out) (fun e => hne2 (by injection e))).trans K2.out)
    have ky := ((show bk w13 z9 = bk w12 z9 from hg2.block _ (bk_lt KZ.out) (fun e => hnez (by injection e))).trans KZ.out)
    replace F := Lib.hid (F.out.grown hg2 F.out.size fun k hk => by cases hk; exact hlo)
    have HAR := Lib.hid hAR
    have z6 := (bk_cell ky 6).trans sgc_6
    have z7 := (bk_cell ky 7).trans sgc_7
    have f6 := bk_frozen ky 6
    have f7 := bk_frozen ky 7
    have lz := bk_lt ky
    have l2 := bk_lt kz
    have KY := Lib.hid ky
    have hgbl : gb < w13.heap.size := by have := hg2.size; have := bk_lt K2.out; have h := HP.out.obj; obtain ⟨cs, hc⟩ := h; have := bk_lt hc; omega
    clear hP2 hg2 HC K2 KZ ky HP hAR
    go_upto_region 16 with fail
    have WW := (w13.setCell ⟨z9, 6, none⟩ (.int .u16 (ms : Int))).setCell ⟨z9, 7, none⟩ (.slice AR nD nD)
    have ky : bk ((w13.setCell ⟨z9, 6, none⟩ (.int .u16 (ms : Int))).setCell ⟨z9, 7, none⟩ (.slice AR nD nD)) z9 = some (.cells (sgc ⟨vf, vt, vs, va, y13, vw, ms⟩ AR nD nD) 30 (0, 0)) := by
      rw [bk_setCell_same, bk_setCell_same, (show bk w13 z9 = _ from KY.out)]; rfl
    have kq : bk ((w13.setCell ⟨z9, 6, none⟩ (.int .u16 (ms : Int))).setCell ⟨z9, 7, none⟩ (.slice AR nD nD)) (w.heap.size + 1 + 1) = some (.cells (sgc Sg.zero none 0 0) 30 (0, 0)) := by
      rw [bk_setCell_other _ _ _ _ _ (by omega), bk_setCell_other _ _ _ _ _ (by omega)]; exact kz
    replace HB := Lib.hid (HB.out.keep (w' := ((w13.setCell ⟨z9, 6, none⟩ (.int .u16 (ms : Int))).setCell ⟨z9, 7, none⟩ (.slice AR nD nD))) fun h => by rw [bk_setCell_other _ _ _ _ _ (by omega), bk_setCell_other _ _ _ _ _ (by omega)])
    replace F := Lib.hid ((F.out.setCell (p := ⟨z9, 6, none⟩) hloz (.int .u16 (ms : Int))).setCell (p := ⟨z9, 7, none⟩) hloz (.slice AR nD nD))
    have hgbl : gb < ((w13.setCell ⟨z9, 6, none⟩ (.int .u16 (ms : Int))).setCell ⟨z9, 7, none⟩ (.slice AR nD nD)).heap.size := by simp; exact hgbl
    clear z6 z7 f6 f7 lz l2 KY kz WW
    generalize ((w13.setCell ⟨z9, 6, none⟩ (.int .u16 (ms : Int))).setCell ⟨z9, 7, none⟩ (.slice AR nD nD)) = w14 at *
    go_wp2_with fail
    have eS : zS src dst l = ⟨vf, vt, vs, va, y13, vw, ms⟩ := by
      unfold zS gS; rw [if_pos E0.out, ← HF.out, ← HT.out, ← HQ.out, ← HK.out, ← HW.out, ← HY.out, ← HO.out, ← HMS.out]; rfl
    have eD : zD src dst l = l.drop ah := by unfold zD; rw [if_pos E0.out, HAH.out]
    have eL : (zD src dst l).length = nD := by rw [eD, List.length_drop, ND.out]
    refine ret_two (cs := sgc (zS src dst l) AR (zD src dst l).length (zD src dst l).length) rfl rfl rfl rfl ?_ Try.underlying30 rfl (by kernel_rfl) ?_
    rotate_left
    · refine ⟨AR, by rw [E0.out]; rfl, ?_, below_setRow F.out (by omega) _⟩
      · have e : zD src dst l = (l.drop ah).take nD := by rw [eD, ND.out, ← List.length_drop, List.take_length]
        rw [e]
        refine Gots.of_PB (gb := gb) (HB.out.keep fun h => ?_) (by simp; omega) (by omega) (fun h => HAR.out (by rw [List.length_take, List.length_drop] at h; omega))
        rw [bk_setRow_other _ _ _ _ (by omega)]
    · rw [bk_setRow_same, kq, eS, eL]; rfl
theorem sget_any (src dst : List UInt8) (A : Option Addr) (l : List UInt8) (c : Nat) (w : World) (h1 : src.length = 16) (h2 : dst.length = 16) (h : Rd w w.heap.size A l) (hA : A = none → l = [] ∧ c = 0) (hl : l.length < 2 ^ 32) :
    Calls Try.prog 17 #[av src, av dst, .slice A l.length c] w (SGot src dst l w) := by
  by_cases h20 : 20 ≤ l.length
  · exact sget_big src dst A l c w h1 h2 h hA h20 hl
  · refine (sget_short src dst A l.length c w h1 h2 (by omega)).mono ?_
    rintro e w' ⟨rfl, hb⟩
    exact SGot.bad (zE_short (by omega)) (by decide) rfl hb
end Go.Proofs.Ytojddfbbeiobpaa

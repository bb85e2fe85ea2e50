/- Segments got: the document's. -/
import Derived.Test.YtojddfbbeiobpaaQ6
import Derived.Test.YtojddfbbeiobpaaQ5
import Derived.Test.YtojddfbbeiobpaaS23
import Derived.Test.YtojddfbbeiobpaaV1
import Derived.BigRegion
import Derived.Deep.DeepCutAuto
namespace Go.Proofs.Ytojddfbbeiobpaa
open Go.RowKit
set_option maxRecDepth 100000
def RSGot (src dst l : List UInt8) (w : World) (e : Ending) (w' : World) : Prop :=
  ∃ A' c', e = .returned (.tuple #[.agg (sgc (zS src dst l) A' (zD src dst l).length c'), .int .i64 (zE src dst l)]) ∧ Rd w' w'.heap.size A' (zD src dst l) ∧ Below w.heap.size w w'
theorem RSGot.bad {src dst l : List UInt8} {w w' : World} {e : Ending} {x : Int} (hE : zE src dst l = x) (h0 : x ≠ 0) (he : e = .returned (.tuple #[zsg, .int .i64 x])) (hb : Below w.heap.size w w') : RSGot src dst l w e w' := by
  obtain ⟨A', h1, h2, h3⟩ := SGot.bad hE h0 he hb
  exact ⟨A', _, h1, h2.rd, h3⟩
theorem RS.kept {lo n : Nat} {w w' : World} {g : Nat} {st : Option (List UInt8)} (h : RS lo w g st) (hb : Below n w w') (hg : g < n) : RS lo w' g st := by
  cases st with
  | none => exact bk_keep hb hg h
  | some l =>
    obtain ⟨A, c, h1, h2, h3, h4⟩ := h
    exact ⟨A, c, bk_keep hb hg h1, h2.below hb (by omega), h3, h4⟩
theorem rnum_at (lo g : Nat) (l : List UInt8) (q m : Nat) (w : World) (h : RS lo w g (some (l.drop q))) (hl : l.length < 2 ^ 36) (hm : q + m ≤ l.length) (h1 : 1 ≤ m) (h8 : m ≤ 8) :
    Calls Try.prog 38 #[.pointer (some ⟨g, 0, none⟩), .int .i64 m] w fun e w' => e = .returned (.int .u64 (val ((l.drop q).take m))) ∧ RS lo w' g (some (l.drop (q + m))) ∧ w.grownBy w' (some g) := by
  refine (rnum_any lo g _ m w h (fun x e => by cases e; rw [List.length_drop]; omega)).mono ?_
  have e0 : ask (m : Int) = m := by unfold ask; rw [if_neg (by omega)]
  have e1 : cutB (m : Int) (some (l.drop q)) = ((l.drop q).take m, some ((l.drop q).drop m)) := cutB_good (by rw [List.length_drop]; omega)
  rintro e w' ⟨he, h2, h3⟩
  rw [e0, e1] at he h2
  rw [List.drop_drop] at h2
  exact ⟨he, h2, h3⟩
@[go_sem] theorem built_ft (a b : Nat) : Try.prog.built 30 [(0, .int .u16 a), (1, .int .u16 b)] = some (sgc ⟨a, b, 0, 0, 0, 0, 0⟩ none 0 0) := by rw [builtSegment]; rfl
theorem mod64 (x : UInt8) : (x.toNat : Int) % 64 = ((x &&& 63).toNat : Int) := by
  have : ∀ a : Fin 256, (a.1 : Int) % 64 = ((UInt8.ofNat a.1 &&& 63).toNat : Int) := by decide +kernel
  have h := this ⟨x.toNat, x.toNat_lt⟩
  simpa using h
theorem val_2 {l : List UInt8} {i : Nat} (h : i + 1 < l.length) : val ((l.drop i).take 2) = 256 * ob l i + ob l (i + 1) := by
  rw [List.drop_eq_getElem_cons (by omega), List.take_succ_cons, List.drop_eq_getElem_cons (by omega), List.take_succ_cons, List.take_zero]
  simp [val, ob, List.getElem?_eq_getElem (show i < l.length by omega), List.getElem?_eq_getElem h]
theorem rsget_short (src dst : List UInt8) (A : Option Addr) (n c : Nat) (w : World) (_h1 : src.length = 16) (_h2 : dst.length = 16) (hl : n < 20) :
    Calls Try.prog 18 #[av src, av dst, .slice A n c] w fun e w' => e = .returned (.tuple #[zsg, .int .i64 5]) ∧ Below w.heap.size w w' := by
  have d1 : decide ((n : Int) < 20) = true := by simp; omega
  go_enter Try.func18, Try.ntmps18
  go_wp2_with fail
  refine ret_two (cs := sgc Sg.zero none 0 0) rfl rfl rfl rfl ?_ Try.underlying30 rfl (by kernel_rfl) ?_
  rotate_left
  · refine ⟨rfl, ?_⟩
    (repeat (first | exact Below.refl _ _ | assumption | refine Below.drew ?_ | refine bdrewN ?_ _ | refine Below.alloc ?_ (by first | omega | (simp <;> omega) | (simp only [World.size_alloc] <;> omega)) _ | refine below_setRow ?_ (by first | omega | (simp <;> omega)) _ | refine Below.setCell ?_ (by first | omega | (simp <;> omega)) _))
  · simp [go_sem]
set_option maxHeartbeats 2000000 in
theorem rsget_big (src dst : List UInt8) (A : Option Addr) (l : List UInt8) (c : Nat) (w : World) (h1 : src.length = 16) (h2 : dst.length = 16) (h : Rd w w.heap.size A l) (hA : A = none → l = [] ∧ c = 0) (hC : l.length ≤ c) (h20 : 20 ≤ l.length) (hl : l.length < 2 ^ 32) :
    Calls Try.prog 18 #[av src, av dst, .slice A l.length c] w (RSGot src dst l w) := by
  have H := Lib.hid h; have HA := Lib.hid hA
  obtain ⟨b, o, rfl, hbl, hce⟩ := h (by omega)
  have cc : ∀ j, j < l.length → w.cell? ⟨b, o + j, none⟩ = some (.int .u8 (ob l j : Nat)) := fun j hj => by
    rw [hce j hj]; simp [ob, List.getElem?_eq_getElem hj]
  have CC := Lib.hid cc
  clear hA hce h cc
  have d1 : decide ((l.length : Int) < 20) = false := by simp; omega
  go_enter Try.func18, Try.ntmps18
  have a3 : Below w.heap.size w (((w.alloc (.cells (src.map B).toArray 23)).alloc (.cells (dst.map B).toArray 23)).alloc (.cells (sgc Sg.zero none 0 0) 30)) := (by (repeat (first | exact Below.refl _ _ | assumption | refine Below.drew ?_ | refine bdrewN ?_ _ | refine Below.alloc ?_ (by first | omega | (simp <;> omega) | (simp only [World.size_alloc] <;> omega)) _ | refine below_setRow ?_ (by first | omega | (simp <;> omega)) _ | refine Below.setCell ?_ (by first | omega | (simp <;> omega)) _)))
  have k0 : bk (((w.alloc (.cells (src.map B).toArray 23)).alloc (.cells (dst.map B).toArray 23)).alloc (.cells (sgc Sg.zero none 0 0) 30)) w.heap.size = some (.cells (src.map B).toArray 23 (0, 0)) := by rw [bk_alloc_past _ _ _ (by simp <;> omega), bk_alloc_past _ _ _ (by simp)]; exact bk_alloc_at _ _ _ rfl
  have k1 : bk (((w.alloc (.cells (src.map B).toArray 23)).alloc (.cells (dst.map B).toArray 23)).alloc (.cells (sgc Sg.zero none 0 0) 30)) (w.heap.size + 1) = some (.cells (dst.map B).toArray 23 (0, 0)) := by rw [bk_alloc_past _ _ _ (by simp)]; exact bk_alloc_at _ _ _ (by simp)
  have k2 : bk (((w.alloc (.cells (src.map B).toArray 23)).alloc (.cells (dst.map B).toArray 23)).alloc (.cells (sgc Sg.zero none 0 0) 30)) (w.heap.size + 1 + 1) = some (.cells (sgc Sg.zero none 0 0) 30 (0, 0)) := bk_alloc_at _ _ _ (by simp)
  have hz : (#[.int .u16 0, .int .u16 0, .int .u32 0, .int .u32 0, .int .u8 0, .int .u16 0, .int .u16 0, .slice none 0 0] : Array Value) = sgc Sg.zero none 0 0 := rfl
  go_upto_region 3 with fail
  have A3 := Lib.hid a3
  have K2 := Lib.hid k2
  clear a3 k2
  generalize (((w.alloc (.cells (src.map B).toArray 23)).alloc (.cells (dst.map B).toArray 23)).alloc (.cells (sgc Sg.zero none 0 0) 30)) = wa at *
  clear hz
  have hx := bk_lt K2.out
  go_wp2_with fail
  refine (rover_any src dst 6 (some ⟨b, o, none⟩) l c wa h1 h2 ((H.out.below A3.out (Nat.le_refl _)).mono A3.out.size) (fun h => by cases h) hl).mono ?_
  rintro e wb ⟨rfl, b0⟩
  generalize hge : sumOf (ovr src dst 6 l) = S at *
  have HGE := Lib.hid hge
  have F := Lib.hid (A3.out.trans (b0.mono A3.out.size))
  replace K2 := Lib.hid (bk_keep b0 hx K2.out)
  clear k0 k1 b0 hge A3
  replace hx := bk_lt K2.out
  by_cases hS : S = 0
  rotate_left
  · have kz := K2.out
    have d2 : ((S : Int) != 0) = true := by simp; omega
    go_wp2_with fail
    refine ret_two (cs := sgc Sg.zero none 0 0) rfl rfl rfl rfl ?_ Try.underlying30 rfl (by kernel_rfl) ?_
    rotate_left
    · exact RSGot.bad (zE_sum h20 (by rw [HGE.out]; exact hS)) (by decide) rfl (below_setRow F.out (by omega) _)
    · rw [bk_setRow_same, kz]; rfl
  have HS : Hid (sumOf (ovr src dst 6 l) = 0) := Lib.hid (HGE.out.trans hS)
  have d2 : ((S : Int) != 0) = false := by simp; omega
  clear HGE hS
  obtain ⟨x12, hx12⟩ : ∃ x, x = ob l 12 := ⟨_, rfl⟩
  have c12 := (F.out.cell (p := ⟨b, o + 12, none⟩) hbl).trans (CC.out 12 (by omega))
  have i12 : 12 < l.length := by omega
  rw [← hx12] at c12
  have b12 : x12 < 256 := by rw [hx12]; exact ob_lt _ _
  obtain ⟨ah, hah⟩ : ∃ ah, ah = ahd l := ⟨_, rfl⟩
  have eA : 4 * ((x12 : Int) / 16) = (ah : Int) := by rw [hah]; unfold ahd; rw [← hx12]; push_cast; omega
  have a60 := ahd_lt (l := l)
  rw [← hah] at a60
  have HAH := Lib.hid hah
  clear hx12 hah
  by_cases hf : ah < 20 ∨ l.length < ah
  · have E4 : Hid (zE src dst l = 4) := Lib.hid (zE_form h20 HS.out (by rw [← HAH.out]; exact hf))
    have kz := K2.out
    by_cases hf1 : ah < 20
    · have e2 : decide ((ah : Int) < 20) = true := by simp; omega
      go_wp2_with fail
      refine ret_two (cs := sgc Sg.zero none 0 0) rfl rfl rfl rfl ?_ Try.underlying30 rfl (by kernel_rfl) ?_
      rotate_left
      · exact RSGot.bad E4.out (by decide) rfl (below_setRow F.out (by omega) _)
      · rw [bk_setRow_same, kz]; rfl
    · have e2 : decide ((ah : Int) < 20) = false := by simp; omega
      have e3 : decide ((l.length : Int) < (ah : Int)) = true := by simp; omega
      go_wp2_with fail
      refine ret_two (cs := sgc Sg.zero none 0 0) rfl rfl rfl rfl ?_ Try.underlying30 rfl (by kernel_rfl) ?_
      rotate_left
      · exact RSGot.bad E4.out (by decide) rfl (below_setRow F.out (by omega) _)
      · rw [bk_setRow_same, kz]; rfl
  have e2 : decide ((ah : Int) < 20) = false := by simp; omega
  have e3 : decide ((l.length : Int) < (ah : Int)) = false := by simp; omega
  have HF' : Hid (¬ (ahd l < 20 ∨ l.length < ahd l)) := Lib.hid (by rw [← HAH.out]; exact hf)
  have s1 : 20 ≤ ah := by omega
  have s2 : ah ≤ c := by omega
  have s3 : ah ≤ l.length := by omega
  have s4 : decide (20 ≤ ah) = true := by simp; omega
  have s5 : decide (ah ≤ c) = true := by simp; omega
  obtain ⟨O, hO⟩ : ∃ O, O = opt l := ⟨_, rfl⟩
  have lO : O.length = ah - 20 := by have e := opt_length (l := l) (by rw [← HAH.out]; omega) (by rw [← HAH.out]; omega); rw [hO, e, ← HAH.out]
  have eO : (l.drop 20).take (ah - 20) = O := by rw [hO]; unfold opt; rw [← HAH.out]
  obtain ⟨ms, hms⟩ : ∃ ms, ms = omss O := ⟨_, rfl⟩
  have CM : ∀ QA CQ, (20 < l.length → QA = some ⟨b, o + 20, none⟩) → Calls Try.prog 36 #[.slice QA (ah - 20) CQ] wb fun e w' => e = .returned (.tuple #[.int .u16 ((ms).getD 0 : Nat), .bool (ms).isSome]) ∧ Below wb.heap.size wb w' := fun QA CQ hQ => by
    have RL := (H.out.below F.out (Nat.le_refl _)).mono F.out.size
    have RO : Rd wb wb.heap.size QA O := by
      rw [← eO]
      intro h0
      rw [List.length_take, List.length_drop] at h0
      obtain ⟨b', o', e', hlt', hj'⟩ := RL (by omega)
      cases e'
      refine ⟨b, o + 20, hQ (by omega), hlt', fun j hj => ?_⟩
      rw [List.length_take, List.length_drop] at hj
      have := hj' (20 + j) (by omega)
      simpa [Nat.add_assoc] using this
    have CM := rmss_any QA O CQ wb RO (by rw [lO]; omega)
    rw [lO, ← hms] at CM
    exact CM
  have HCM := Lib.hid CM
  have HO := Lib.hid hO; have LO := Lib.hid lO; have HMS := Lib.hid hms
  clear CM hO lO hms eO
  go_upto_region 8 with fail
  go_cut [9, 10] (fun n k wx => n = .int .u16 ((ms).getD 0 : Nat) ∧ k = .bool (ms).isSome ∧ Hid (Below wb.heap.size wb wx))
  case first =>
    by_cases hc20 : c = 20
    · subst hc20
      have C := HCM.out (some ⟨b, o, none⟩) 0 (fun h => by omega)
      rw [show ah - 20 = 0 by omega] at C
      have HC := Lib.hid C
      clear C
      go_wp2_with fail
      refine HC.out.mono ?_
      rintro e wn ⟨rfl, bn⟩
      go_wp2_with fail
      go_meet
      exact ⟨rfl, rfl, Lib.hid bn⟩
    · go_wp2_with fail
      refine (HCM.out _ _ (fun _ => rfl)).mono ?_
      rintro e wn ⟨rfl, bn⟩
      go_wp2_with fail
      go_meet
      exact ⟨rfl, rfl, Lib.hid bn⟩
  case rest =>
    obtain ⟨rfl, rfl, BC⟩ := hcut
    replace F := Lib.hid (F.out.trans (BC.out.mono F.out.size))
    replace K2 := Lib.hid (bk_keep BC.out hx K2.out)
    clear BC HCM
    replace hx := bk_lt K2.out
    cases ms with
    | none =>
      have E4 : Hid (zE src dst l = 4) := Lib.hid (zE_opt h20 HS.out HF'.out (by rw [← HO.out]; exact HMS.out.symm))
      have kz := K2.out
      simp only [Option.getD_none, Option.isSome_none]
      go_wp2_with fail
      refine ret_two (cs := sgc Sg.zero none 0 0) rfl rfl rfl rfl ?_ Try.underlying30 rfl (by kernel_rfl) ?_
      rotate_left
      · exact RSGot.bad E4.out (by decide) rfl (below_setRow F.out (by omega) _)
      · rw [bk_setRow_same, kz]; rfl
    | some ms =>
      have E0 : Hid (zE src dst l = 0) := Lib.hid (zE_ok h20 HS.out HF'.out (by rw [← HO.out, ← HMS.out]; simp))
      simp only [Option.getD_some, Option.isSome_some]
      go_wp2_with fail
      refine (rcof_any (some ⟨b, o, none⟩) l c wc ((H.out.below F.out (Nat.le_refl _)).mono F.out.size) (fun h => by cases h) (by omega)).mono ?_
      rintro e w0 ⟨gc, rfl, hgc, hR, b1⟩
      have hx' := bk_lt K2.out
      replace K2 := Lib.hid (bk_keep b1 hx' K2.out)
      replace F := Lib.hid (F.out.trans (b1.mono F.out.size))
      have hlo : w.heap.size ≤ gc := by have := hx'; omega
      have hne2 : ¬ w.heap.size + 1 + 1 = gc := by omega
      have HR := Lib.hid (show RS wc.heap.size w0 gc (some (l.drop 0)) from hR)
      clear b1 hR hx'
      obtain ⟨vf, hvf⟩ : ∃ v, v = val ((l.drop 0).take 2) := ⟨_, rfl⟩
      obtain ⟨vt, hvt⟩ : ∃ v, v = val ((l.drop 2).take 2) := ⟨_, rfl⟩
      obtain ⟨vs, hvs⟩ : ∃ v, v = val ((l.drop 4).take 4) := ⟨_, rfl⟩
      obtain ⟨va, hva⟩ : ∃ v, v = val ((l.drop 8).take 4) := ⟨_, rfl⟩
      have bl : ∀ q m, q + m ≤ l.length → val ((l.drop q).take m) < 256 ^ m := fun q m hq => by
        have := val_lt ((l.drop q).take m)
        rwa [List.length_take, List.length_drop, show min m (l.length - q) = m by omega] at this
      have bf := bl 0 2 (by omega); have bt := bl 2 2 (by omega); have bs := bl 4 4 (by omega); have ba := bl 8 4 (by omega)
      rw [← hvf] at bf; rw [← hvt] at bt; rw [← hvs] at bs; rw [← hva] at ba
      have wf : IntKind.u16.wrap (vf : Int) = vf := by rw [IntKind.wrap_u16]; omega
      have wt : IntKind.u16.wrap (vt : Int) = vt := by rw [IntKind.wrap_u16]; omega
      have ws : IntKind.u32.wrap (vs : Int) = vs := by rw [IntKind.wrap_u32]; omega
      have wk : IntKind.u32.wrap (va : Int) = va := by rw [IntKind.wrap_u32]; omega
      have HF := Lib.hid hvf; have HT := Lib.hid hvt; have HQ := Lib.hid hvs; have HK := Lib.hid hva
      clear hvf hvt hvs hva bl
      have C := rnum_at wc.heap.size gc l 0 2 w0 HR.out (by omega) (by omega) (by decide) (by decide)
      rw [← (HF).out] at C
      have HC := Lib.hid C
      clear C
      go_wp2_with fail
      refine HC.out.mono ?_
      rintro e w1 ⟨rfl, hP2, hg2⟩
      replace K2 := Lib.hid ((show bk w1 (w.heap.size + 1 + 1) = bk w0 (w.heap.size + 1 + 1) from hg2.block _ (bk_lt K2.out) (fun e => hne2 (by injection e))).trans K2.out)
      replace F := Lib.hid (F.out.grown hg2 F.out.size fun k hk => by cases hk; exact hlo)
      replace HR := Lib.hid hP2
      clear hP2 hg2 HC
      have C := rnum_at wc.heap.size gc l (0 + 2) 2 w1 HR.out (by omega) (by omega) (by decide) (by decide)
      rw [← (HT).out] at C
      have HC := Lib.hid C
      clear C
      go_wp2_with fail
      refine HC.out.mono ?_
      rintro e w2 ⟨rfl, hP2, hg2⟩
      replace K2 := Lib.hid ((show bk w2 (w.heap.size + 1 + 1) = bk w1 (w.heap.size + 1 + 1) from hg2.block _ (bk_lt K2.out) (fun e => hne2 (by injection e))).trans K2.out)
      replace F := Lib.hid (F.out.grown hg2 F.out.size fun k hk => by cases hk; exact hlo)
      replace HR := Lib.hid hP2
      clear hP2 hg2 HC
      go_wp2_with fail
      obtain ⟨z9, hz9⟩ : ∃ z, z = w2.heap.size := ⟨_, rfl⟩
      have b5 : Below w2.heap.size w2 (w2.alloc (.cells (sgc ⟨vf, vt, 0, 0, 0, 0, 0⟩ none 0 0) 30)) := (Below.refl _ _).alloc (Nat.le_refl _) _
      have KZ : Hid (bk (w2.alloc (.cells (sgc ⟨vf, vt, 0, 0, 0, 0, 0⟩ none 0 0) 30)) z9 = some (.cells (sgc ⟨vf, vt, 0, 0, 0, 0, 0⟩ none 0 0) 30 (0, 0))) := Lib.hid (bk_alloc_at _ _ _ hz9)
      have hgcl : gc < w2.heap.size := by obtain ⟨A, cs, hc, _⟩ := HR.out; exact bk_lt hc
      have hnez : ¬ z9 = gc := by omega
      have hloz : w.heap.size ≤ z9 := by have := F.out.size; omega
      have hz2 : ¬ z9 = w.heap.size + 1 + 1 := by have := bk_lt K2.out; omega
      have hgz : gc < z9 := by omega
      replace HR := Lib.hid (HR.out.kept b5 hgcl)
      replace K2 := Lib.hid (bk_keep b5 (bk_lt K2.out) K2.out)
      replace F := Lib.hid (F.out.trans (b5.mono F.out.size))
      have lzz : z9 < (w2.alloc (.cells (sgc ⟨vf, vt, 0, 0, 0, 0, 0⟩ none 0 0) 30)).heap.size := bk_lt KZ.out
      rw [← hz9]
      clear hz9 b5 hgcl
      generalize w2.alloc (.cells (sgc ⟨vf, vt, 0, 0, 0, 0, 0⟩ none 0 0) 30) = w3 at *
      have C := rnum_at wc.heap.size gc l (0 + 2 + 2) 4 w3 HR.out (by omega) (by omega) (by decide) (by decide)
      rw [← (HQ).out] at C
      have HC := Lib.hid C
      clear C
      go_wp2_with fail
      refine HC.out.mono ?_
      rintro e w4 ⟨rfl, hP2, hg2⟩
      replace K2 := Lib.hid ((show bk w4 (w.heap.size + 1 + 1) = bk w3 (w.heap.size + 1 + 1) from hg2.block _ (bk_lt K2.out) (fun e => hne2 (by injection e))).trans K2.out)
      replace KZ := Lib.hid ((show bk w4 z9 = bk w3 z9 from hg2.block _ (bk_lt KZ.out) (fun e => hnez (by injection e))).trans KZ.out)
      replace F := Lib.hid (F.out.grown hg2 F.out.size fun k hk => by cases hk; exact hlo)
      replace HR := Lib.hid hP2
      clear hP2 hg2 HC
      have z2 := (bk_cell KZ.out 2).trans sgc_2
      have f2 := bk_frozen KZ.out 2
      have lz := bk_lt KZ.out
      go_upto_region 14 with fail
      have KZ2 : Hid (bk ((w4).setCell ⟨z9, 2, none⟩ (.int .u32 (vs : Int))) z9 = some (.cells (sgc ⟨vf, vt, vs, 0, 0, 0, 0⟩ none 0 0) 30 (0, 0))) := Lib.hid (by
        rw [bk_setCell_same, (show bk w4 z9 = _ from KZ.out)]; rfl)
      replace HR := Lib.hid (HR.out.kept ((Below.refl z9 w4).setCell (p := ⟨z9, 2, none⟩) (Nat.le_refl _) (.int .u32 (vs : Int))) hgz)
      replace K2 := Lib.hid (show bk ((w4).setCell ⟨z9, 2, none⟩ (.int .u32 (vs : Int))) (w.heap.size + 1 + 1) = some (.cells (sgc Sg.zero none 0 0) 30 (0, 0)) by rw [bk_setCell_other _ _ _ _ _ (by omega)]; exact K2.out)
      replace F := Lib.hid (F.out.setCell (p := ⟨z9, 2, none⟩) hloz (.int .u32 (vs : Int)))
      clear KZ
      have KZ := KZ2
      clear KZ2
      generalize ((w4).setCell ⟨z9, 2, none⟩ (.int .u32 (vs : Int))) = w5 at *
      clear z2 f2 lz
      have C := rnum_at wc.heap.size gc l (0 + 2 + 2 + 4) 4 w5 HR.out (by omega) (by omega) (by decide) (by decide)
      rw [← (HK).out] at C
      have HC := Lib.hid C
      clear C
      go_wp2_with fail
      refine HC.out.mono ?_
      rintro e w6 ⟨rfl, hP2, hg2⟩
      replace K2 := Lib.hid ((show bk w6 (w.heap.size + 1 + 1) = bk w5 (w.heap.size + 1 + 1) from hg2.block _ (bk_lt K2.out) (fun e => hne2 (by injection e))).trans K2.out)
      replace KZ := Lib.hid ((show bk w6 z9 = bk w5 z9 from hg2.block _ (bk_lt KZ.out) (fun e => hnez (by injection e))).trans KZ.out)
      replace F := Lib.hid (F.out.grown hg2 F.out.size fun k hk => by cases hk; exact hlo)
      replace HR := Lib.hid hP2
      clear hP2 hg2 HC
      have z3 := (bk_cell KZ.out 3).trans sgc_3
      have f3 := bk_frozen KZ.out 3
      have lz := bk_lt KZ.out
      go_upto_region 15 with fail
      have KZ2 : Hid (bk ((w6).setCell ⟨z9, 3, none⟩ (.int .u32 (va : Int))) z9 = some (.cells (sgc ⟨vf, vt, vs, va, 0, 0, 0⟩ none 0 0) 30 (0, 0))) := Lib.hid (by
        rw [bk_setCell_same, (show bk w6 z9 = _ from KZ.out)]; rfl)
      replace HR := Lib.hid (HR.out.kept ((Below.refl z9 w6).setCell (p := ⟨z9, 3, none⟩) (Nat.le_refl _) (.int .u32 (va : Int))) hgz)
      replace K2 := Lib.hid (show bk ((w6).setCell ⟨z9, 3, none⟩ (.int .u32 (va : Int))) (w.heap.size + 1 + 1) = some (.cells (sgc Sg.zero none 0 0) 30 (0, 0)) by rw [bk_setCell_other _ _ _ _ _ (by omega)]; exact K2.out)
      replace F := Lib.hid (F.out.setCell (p := ⟨z9, 3, none⟩) hloz (.int .u32 (va : Int)))
      clear KZ
      have KZ := KZ2
      clear KZ2
      generalize ((w6).setCell ⟨z9, 3, none⟩ (.int .u32 (va : Int))) = w7 at *
      clear z3 f3 lz
      obtain ⟨x13, hx13⟩ : ∃ x, x = ob l 13 := ⟨_, rfl⟩
      obtain ⟨y13, hy13⟩ : ∃ y, y = UInt8.ofNat (ob l 13) &&& 63 := ⟨_, rfl⟩
      have b13 : x13 < 256 := by rw [hx13]; exact ob_lt _ _
      have e13 : (x13 : Int) % 64 = (y13.toNat : Int) := by
        have e := mod64 (UInt8.ofNat x13)
        rw [UInt8.toNat_ofNat', Nat.mod_eq_of_lt (by omega)] at e
        rw [e, hy13, hx13]
      have HY := Lib.hid hy13
      have c13 := (F.out.cell (p := ⟨b, o + 13, none⟩) hbl).trans (CC.out 13 (by omega))
      have i13 : 13 < l.length := by omega
      rw [← hx13] at c13
      have z4 := (bk_cell KZ.out 4).trans sgc_4
      have f4 := bk_frozen KZ.out 4
      have lz := bk_lt KZ.out
      clear hx13 hy13 HR
      go_upto_region 16 with fail
      have KZ2 : Hid (bk ((w7).setCell ⟨z9, 4, none⟩ (.int .u8 (y13.toNat : Int))) z9 = some (.cells (sgc ⟨vf, vt, vs, va, y13, 0, 0⟩ none 0 0) 30 (0, 0))) := Lib.hid (by
        rw [bk_setCell_same, (show bk w7 z9 = _ from KZ.out)]; rfl)
      replace K2 := Lib.hid (show bk ((w7).setCell ⟨z9, 4, none⟩ (.int .u8 (y13.toNat : Int))) (w.heap.size + 1 + 1) = some (.cells (sgc Sg.zero none 0 0) 30 (0, 0)) by rw [bk_setCell_other _ _ _ _ _ (by omega)]; exact K2.out)
      replace F := Lib.hid (F.out.setCell (p := ⟨z9, 4, none⟩) hloz (.int .u8 (y13.toNat : Int)))
      clear KZ
      have KZ := KZ2
      clear KZ2
      generalize ((w7).setCell ⟨z9, 4, none⟩ (.int .u8 (y13.toNat : Int))) = w8 at *
      clear z4 f4 lz c13 i13
      obtain ⟨x14, hx14⟩ : ∃ x, x = ob l 14 := ⟨_, rfl⟩
      obtain ⟨x15, hx15⟩ : ∃ x, x = ob l 15 := ⟨_, rfl⟩
      have b14 : x14 < 256 := by rw [hx14]; exact ob_lt _ _
      have b15 : x15 < 256 := by rw [hx15]; exact ob_lt _ _
      have c14 := (F.out.cell (p := ⟨b, o + 14, none⟩) hbl).trans (CC.out 14 (by omega))
      have c15 := (F.out.cell (p := ⟨b, o + 15, none⟩) hbl).trans (CC.out 15 (by omega))
      have hb8 : b < w8.heap.size := by have := F.out.size; omega
      have i14 : 14 < l.length := by omega
      have i15 : 15 < l.length := by omega
      rw [← hx14] at c14
      rw [← hx15] at c15
      have ew : val ((l.drop 14).take 2) = 256 * x14 + x15 := by rw [val_2 (by omega), hx14, hx15]
      obtain ⟨vw, hvw⟩ : ∃ v, v = val ((l.drop 14).take 2) := ⟨_, rfl⟩
      rw [← hvw] at ew
      have n1 : IntKind.u16.wrap (256 * (x14 : Int)) = 256 * (x14 : Int) := by rw [IntKind.wrap_u16]; omega
      have n2 : IntKind.u16.wrap (256 * (x14 : Int) + (x15 : Int)) = (vw : Int) := by rw [IntKind.wrap_u16]; omega
      have HW := Lib.hid hvw
      clear hx14 hx15 ew hvw
      refine wp_region_later_tail (w8.heap.size) 10 (by kernel_rfl) (by kernel_rfl) ?_
      simp only [List.take_succ_cons, List.take_zero, List.drop_succ_cons, List.drop_zero]
      repeat (go_big_quiet_step ((fail)))
      (first | refine wpQuiet_nil ?_ | (go_big_quiet_want; (try go_big_quiet_op); trace_state; fail))
      intro w9 hw'
      have q9 := later_elim hw'
      clear hw'
      replace KZ := Lib.hid (bk_keep q9 (bk_lt KZ.out) KZ.out)
      replace K2 := Lib.hid (bk_keep q9 (bk_lt K2.out) K2.out)
      replace F := Lib.hid (F.out.trans (q9.mono F.out.size))
      have z5 := (bk_cell KZ.out 5).trans sgc_5
      have f5 := bk_frozen KZ.out 5
      have lz := bk_lt KZ.out
      clear q9 c14 c15 i14 i15 hb8
      go_upto_region 17 with fail
      have KZ2 : Hid (bk ((w9).setCell ⟨z9, 5, none⟩ (.int .u16 (vw : Int))) z9 = some (.cells (sgc ⟨vf, vt, vs, va, y13, vw, 0⟩ none 0 0) 30 (0, 0))) := Lib.hid (by
        rw [bk_setCell_same, (show bk w9 z9 = _ from KZ.out)]; rfl)
      replace K2 := Lib.hid (show bk ((w9).setCell ⟨z9, 5, none⟩ (.int .u16 (vw : Int))) (w.heap.size + 1 + 1) = some (.cells (sgc Sg.zero none 0 0) 30 (0, 0)) by rw [bk_setCell_other _ _ _ _ _ (by omega)]; exact K2.out)
      replace F := Lib.hid (F.out.setCell (p := ⟨z9, 5, none⟩) hloz (.int .u16 (vw : Int)))
      clear KZ
      have KZ := KZ2
      clear KZ2
      generalize ((w9).setCell ⟨z9, 5, none⟩ (.int .u16 (vw : Int))) = w10 at *
      clear z5 f5 lz n1 n2
      have z6 := (bk_cell KZ.out 6).trans sgc_6
      have f6 := bk_frozen KZ.out 6
      have lz := bk_lt KZ.out
      go_upto_region 18 with fail
      have KZ2 : Hid (bk ((w10).setCell ⟨z9, 6, none⟩ (.int .u16 (ms : Int))) z9 = some (.cells (sgc ⟨vf, vt, vs, va, y13, vw, ms⟩ none 0 0) 30 (0, 0))) := Lib.hid (by
        rw [bk_setCell_same, (show bk w10 z9 = _ from KZ.out)]; rfl)
      replace K2 := Lib.hid (show bk ((w10).setCell ⟨z9, 6, none⟩ (.int .u16 (ms : Int))) (w.heap.size + 1 + 1) = some (.cells (sgc Sg.zero none 0 0) 30 (0, 0)) by rw [bk_setCell_other _ _ _ _ _ (by omega)]; exact K2.out)
      replace F := Lib.hid (F.out.setCell (p := ⟨z9, 6, none⟩) hloz (.int .u16 (ms : Int)))
      clear KZ
      have KZ := KZ2
      clear KZ2
      generalize ((w10).setCell ⟨z9, 6, none⟩ (.int .u16 (ms : Int))) = w11 at *
      clear z6 f6 lz
      have RL := (H.out.below F.out (Nat.le_refl _)).mono F.out.size
      have RA : ∀ QA, (ah < l.length → QA = some ⟨b, o + ah, none⟩) → Rd w11 w11.heap.size QA (l.drop ah) := fun QA hQ h0 => by
        rw [List.length_drop] at h0
        obtain ⟨b', o', e', hlt', hj'⟩ := RL (by omega)
        cases e'
        refine ⟨b, o + ah, hQ (by omega), hlt', fun j hj => ?_⟩
        rw [List.length_drop] at hj
        have := hj' (ah + j) (by omega)
        simpa [Nat.add_assoc] using this
      have HRA := Lib.hid RA
      clear RL RA
      obtain ⟨dt, hdt⟩ : ∃ dt, dt = l.drop ah := ⟨_, rfl⟩
      have eln : dt.length = l.length - ah := by rw [hdt, List.length_drop]
      rw [← hdt] at HRA
      have ELN := Lib.hid eln
      have HDT := Lib.hid hdt
      clear eln hdt
      have s6 : decide (ah ≤ l.length) = true := by simp; omega
      by_cases hcA : c = ah
      · have RA : Hid (Rd w11 w11.heap.size (some ⟨b, o, none⟩) dt) := Lib.hid (HRA.out _ (fun h => by omega))
        have hcz : c - ah = 0 := by omega
        go_wp2_with (at_builtin; refine append_rd rfl _ _ rfl w11.heap.size (.slice none 0 0) 0 [] rfl (World.ownsRow_nil _ _ _ _) (some ⟨b, o, none⟩) dt (c - ah) (by rw [ELN.out]; first | rfl | (rw [hcz]; rfl)) (fun h => by cases h) RA.out (by rw [ELN.out]; omega) (Nat.le_refl _) ?_)
        intro v1 w12 hown hgrow
        obtain ⟨A1, c1, rfl, hR1, _, hle1⟩ := Rd.of_own hown rfl
        have HLO := Lib.hid (own_lo hown)
        have b1 : Below w11.heap.size w11 w12 := (Below.refl _ _).grown hgrow (Nat.le_refl _) (fun k hk => by simp [Value.ownBlock] at hk)
        have ky := bk_keep b1 (bk_lt KZ.out) KZ.out
        have kz := bk_keep b1 (bk_lt K2.out) K2.out
        replace F := Lib.hid (F.out.trans (b1.mono F.out.size))
        have z7 := (bk_cell ky 7).trans sgc_7
        have f7 := bk_frozen ky 7
        have lz := bk_lt ky
        have lz11 : z9 < w11.heap.size := bk_lt KZ.out
        have lw11 : w.heap.size + 1 + 1 < w11.heap.size := bk_lt K2.out
        have HR1 := Lib.hid hR1
        have KY := Lib.hid ky
        clear b1 hown hgrow hR1 RA HRA K2 KZ ky
        go_upto_region 19 with fail
        have ky : bk (w12.setCell ⟨z9, 7, none⟩ (.slice A1 dt.length c1)) z9 = some (.cells (sgc ⟨vf, vt, vs, va, y13, vw, ms⟩ A1 dt.length c1) 30 (0, 0)) := by
          rw [bk_setCell_same, (show bk w12 z9 = _ from KY.out)]; rfl
        have kq : bk (w12.setCell ⟨z9, 7, none⟩ (.slice A1 dt.length c1)) (w.heap.size + 1 + 1) = some (.cells (sgc Sg.zero none 0 0) 30 (0, 0)) := by
          rw [bk_setCell_other _ _ _ _ _ (by omega)]; exact kz
        replace F := Lib.hid (F.out.setCell (p := ⟨z9, 7, none⟩) hloz (.slice A1 dt.length c1))
        have hR : Rd (w12.setCell ⟨z9, 7, none⟩ (.slice A1 dt.length c1)) (w12.setCell ⟨z9, 7, none⟩ (.slice A1 dt.length c1)).heap.size A1 dt := HR1.out.turn (fun b o e j => cell_of_bk (bk_setCell_other _ _ _ _ _ (by have := HLO.out b o e; omega)) _) (by simp [World.setCell])
        have HR := Lib.hid hR
        clear z7 f7 lz KY kz hR HR1
        generalize (w12.setCell ⟨z9, 7, none⟩ (.slice A1 dt.length c1)) = w13 at *
        go_wp2_with fail
        have eS : zS src dst l = ⟨vf, vt, vs, va, y13, vw, ms⟩ := by
          unfold zS gS; rw [if_pos E0.out, ← HF.out, ← HT.out, ← HQ.out, ← HK.out, ← HW.out, ← HY.out, ← HO.out, ← HMS.out]; rfl
        have eD : zD src dst l = dt := by unfold zD; rw [if_pos E0.out, HDT.out, HAH.out]
        refine ret_two (cs := sgc (zS src dst l) A1 (zD src dst l).length c1) rfl rfl rfl rfl ?_ Try.underlying30 rfl (by kernel_rfl) ?_
        rotate_left
        · refine ⟨A1, c1, by rw [E0.out]; rfl, ?_, below_setRow F.out (by omega) _⟩
          rw [eD]
          refine HR.out.turn (fun b o e j => ?_) (by simp [World.setRow])
          have hlo := HLO.out b o e
          refine cell_of_bk ?_ _
          rw [bk_setRow_other _ _ _ _ (by omega)]
        · rw [bk_setRow_same, kq, eS, eD]; rfl
      · have RA : Hid (Rd w11 w11.heap.size (some ⟨b, o + ah, none⟩) dt) := Lib.hid (HRA.out _ (fun h => rfl))
        go_wp2_with (at_builtin; refine append_rd rfl _ _ rfl w11.heap.size (.slice none 0 0) 0 [] rfl (World.ownsRow_nil _ _ _ _) (some ⟨b, o + ah, none⟩) dt (c - ah) (by rw [ELN.out]; first | rfl | (rw [hcz]; rfl)) (fun h => by cases h) RA.out (by rw [ELN.out]; omega) (Nat.le_refl _) ?_)
        intro v1 w12 hown hgrow
        obtain ⟨A1, c1, rfl, hR1, _, hle1⟩ := Rd.of_own hown rfl
        have HLO := Lib.hid (own_lo hown)
        have b1 : Below w11.heap.size w11 w12 := (Below.refl _ _).grown hgrow (Nat.le_refl _) (fun k hk => by simp [Value.ownBlock] at hk)
        have ky := bk_keep b1 (bk_lt KZ.out) KZ.out
        have kz := bk_keep b1 (bk_lt K2.out) K2.out
        replace F := Lib.hid (F.out.trans (b1.mono F.out.size))
        have z7 := (bk_cell ky 7).trans sgc_7
        have f7 := bk_frozen ky 7
        have lz := bk_lt ky
        have lz11 : z9 < w11.heap.size := bk_lt KZ.out
        have lw11 : w.heap.size + 1 + 1 < w11.heap.size := bk_lt K2.out
        have HR1 := Lib.hid hR1
        have KY := Lib.hid ky
        clear b1 hown hgrow hR1 RA HRA K2 KZ ky
        go_upto_region 19 with fail
        have ky : bk (w12.setCell ⟨z9, 7, none⟩ (.slice A1 dt.length c1)) z9 = some (.cells (sgc ⟨vf, vt, vs, va, y13, vw, ms⟩ A1 dt.length c1) 30 (0, 0)) := by
          rw [bk_setCell_same, (show bk w12 z9 = _ from KY.out)]; rfl
        have kq : bk (w12.setCell ⟨z9, 7, none⟩ (.slice A1 dt.length c1)) (w.heap.size + 1 + 1) = some (.cells (sgc Sg.zero none 0 0) 30 (0, 0)) := by
          rw [bk_setCell_other _ _ _ _ _ (by omega)]; exact kz
        replace F := Lib.hid (F.out.setCell (p := ⟨z9, 7, none⟩) hloz (.slice A1 dt.length c1))
        have hR : Rd (w12.setCell ⟨z9, 7, none⟩ (.slice A1 dt.length c1)) (w12.setCell ⟨z9, 7, none⟩ (.slice A1 dt.length c1)).heap.size A1 dt := HR1.out.turn (fun b o e j => cell_of_bk (bk_setCell_other _ _ _ _ _ (by have := HLO.out b o e; omega)) _) (by simp [World.setCell])
        have HR := Lib.hid hR
        clear z7 f7 lz KY kz hR HR1
        generalize (w12.setCell ⟨z9, 7, none⟩ (.slice A1 dt.length c1)) = w13 at *
        go_wp2_with fail
        have eS : zS src dst l = ⟨vf, vt, vs, va, y13, vw, ms⟩ := by
          unfold zS gS; rw [if_pos E0.out, ← HF.out, ← HT.out, ← HQ.out, ← HK.out, ← HW.out, ← HY.out, ← HO.out, ← HMS.out]; rfl
        have eD : zD src dst l = dt := by unfold zD; rw [if_pos E0.out, HDT.out, HAH.out]
        refine ret_two (cs := sgc (zS src dst l) A1 (zD src dst l).length c1) rfl rfl rfl rfl ?_ Try.underlying30 rfl (by kernel_rfl) ?_
        rotate_left
        · refine ⟨A1, c1, by rw [E0.out]; rfl, ?_, below_setRow F.out (by omega) _⟩
          rw [eD]
          refine HR.out.turn (fun b o e j => ?_) (by simp [World.setRow])
          have hlo := HLO.out b o e
          refine cell_of_bk ?_ _
          rw [bk_setRow_other _ _ _ _ (by omega)]
        · rw [bk_setRow_same, kq, eS, eD]; rfl
theorem rsget_any (src dst : List UInt8) (A : Option Addr) (l : List UInt8) (c : Nat) (w : World) (h1 : src.length = 16) (h2 : dst.length = 16) (h : Rd w w.heap.size A l) (hA : A = none → l = [] ∧ c = 0) (hC : l.length ≤ c) (hl : l.length < 2 ^ 32) :
    Calls Try.prog 18 #[av src, av dst, .slice A l.length c] w (RSGot src dst l w) := by
  by_cases h20 : 20 ≤ l.length
  · exact rsget_big src dst A l c w h1 h2 h hA hC h20 hl
  · refine (rsget_short src dst A l.length c w h1 h2 (by omega)).mono ?_
    rintro e w' ⟨rfl, hb⟩
    exact RSGot.bad (zE_short (by omega)) (by decide) rfl hb
end Go.Proofs.Ytojddfbbeiobpaa

/- Infos: the document answers: what stands behind its names. -/
import Derived.Test.YtfldoihindbdmaaG12
namespace Go.Proofs.Ytfldoihindbdmaa
open Go.RowKit
set_option maxRecDepth 100000
set_option maxHeartbeats 2000000
/-- A function's code from a region on. -/
def firstReg : Code → Option Nat
  | .region k _ _ => some k
  | .seq a _ => firstReg a
  | .block _ c => firstReg c
  | .loop c => firstReg c
  | .scope c => firstReg c
  | _ => none
def fromReg (n : Nat) : Code → Option Code
  | .seq a b => if firstReg a = some n then some (.seq a b) else match fromReg n b with
    | some c => some c
    | none => fromReg n a
  | .block _ c => fromReg n c
  | .scope c => fromReg n c
  | _ => none
noncomputable def rtail (n : Nat) : Code := ((Try.f39.body.bind (fromReg n)).getD .skip)
def raC (SA DA : Option Addr) (a sc d dc F : Nat) : Array Value := #[.slice SA a sc, .slice DA d dc, .int .u32 (F : Int)]
theorem raC_ones (SA DA : Option Addr) (a sc d dc F : Nat) : ones (raC SA DA a sc d dc F).toList = true := rfl
theorem raC_size (SA DA : Option Addr) (a sc d dc F : Nat) : (raC SA DA a sc d dc F).size = 3 := rfl
/-- What holds while it answers. -/
structure Ac (w0 w : World) (M n y ra : Nat) (C : Cl) (SA DA : Option Addr) (sc dc F : Nat) (sv ds : List (List UInt8)) : Prop where
  cl : RClB w y C
  kr : bk w w0.heap.size = some (.cells (ansC 0) 91 (0, 0))
  ka : bk w ra = some (.cells (raC SA DA sv.length sc ds.length dc F) 91 (0, 0))
  hs : OutA w n (.slice SA sv.length sc) sv
  hd : OutT w n (.slice DA ds.length dc) ds
  tn : Tn (fun k => k = y) w0 w
  o1 : y < w0.heap.size
  o2 : w0.heap.size < M
  o3 : M ≤ ra
  o4 : ra < n
  o5 : n ≤ w.heap.size
theorem Ac.below {w0 w w' : World} {M n y ra : Nat} {C : Cl} {SA DA : Option Addr} {sc dc F : Nat} {sv ds : List (List UInt8)} (h : Ac w0 w M n y ra C SA DA sc dc F sv ds) (hb : Below w.heap.size w w') : Ac w0 w' M n y ra C SA DA sc dc F sv ds :=
  ⟨h.cl.below hb, bk_keep hb (bk_lt h.kr) h.kr, bk_keep hb (bk_lt h.ka) h.ka, own_below h.hs hb, own_below h.hd hb, h.tn.trans (Tn.of (F := fun _ => False) hb) fun k hk => hk.elim, h.o1, h.o2, h.o3, h.o4, Nat.le_trans h.o5 hb.size⟩
theorem Ac.fresh {w0 w : World} {M n y ra : Nat} {C : Cl} {SA DA : Option Addr} {sc dc F F' : Nat} {sv ds : List (List UInt8)} (h : Ac w0 w M n y ra C SA DA sc dc F sv ds) : Ac w0 (w.setCell ⟨ra, 2, none⟩ (.int .u32 (F' : Int))) M n y ra C SA DA sc dc F' sv ds := by
  have o1 := h.o1; have o2 := h.o2; have o3 := h.o3; have o4 := h.o4
  have t : Tn (fun k => k = ra) w (w.setCell ⟨ra, 2, none⟩ (.int .u32 (F' : Int))) := (Tn.refl (fun k => k = ra) w).set (.inl rfl)
  refine ⟨h.cl.keep t (by omega), t.keep (by omega) h.kr, by rw [bk_setCell_same, h.ka]; rfl, own_turnS h.hs fun k hk => t.old k (h.hs.lt k hk).2 (fun e => by have := (h.hs.lt k hk).1; omega), own_turnS h.hd fun k hk => t.old k (h.hd.lt k hk).2 (fun e => by have := (h.hd.lt k hk).1; omega), h.tn.trans t fun k hk => .inr (by omega), h.o1, h.o2, h.o3, h.o4, by simpa using h.o5⟩
theorem val4 (d : List UInt8) (h : d.length = 4) : val d = ((d[0].toNat * 256 + d[1].toNat) * 256 + d[2].toNat) * 256 + d[3].toNat := by
  match d, h with
  | [a, b, c, e], _ =>
    show 256 * (256 * (256 * (256 * 0 + a.toNat) + b.toNat) + c.toNat) + e.toNat = _
    simp only [List.getElem_cons_zero, List.getElem_cons_succ]
    omega
theorem four32 (a b c d : UInt8) (E : Nat) (h : E = ((a.toNat * 256 + b.toNat) * 256 + c.toNat) * 256 + d.toNat) : ∃ z1 z2 z3 z12 z123 : Nat,
    IntKind.u32.wrap (a.toNat : Int) = (a.toNat : Int) ∧ IntKind.u32.wrap (b.toNat : Int) = (b.toNat : Int) ∧ IntKind.u32.wrap (c.toNat : Int) = (c.toNat : Int) ∧ IntKind.u32.wrap (d.toNat : Int) = (d.toNat : Int) ∧
    IntKind.u32.wrap ((a.toNat : Int) * 16777216) = (z1 : Int) ∧ IntKind.u32.wrap ((b.toNat : Int) * 65536) = (z2 : Int) ∧ IntKind.u32.wrap ((c.toNat : Int) * 256) = (z3 : Int) ∧ IntKind.u32.wrap ((z1 : Int) + (z2 : Int)) = (z12 : Int) ∧ IntKind.u32.wrap ((z12 : Int) + (z3 : Int)) = (z123 : Int) ∧ IntKind.u32.wrap ((z123 : Int) + (d.toNat : Int)) = (E : Int) ∧ E < 4294967296 := by
  have h1 := a.toNat_lt
  have h2 := b.toNat_lt
  have h3 := c.toNat_lt
  have h4 := d.toNat_lt
  simp only [IntKind.wrap_u32]
  exact ⟨a.toNat * 16777216, b.toNat * 65536, c.toNat * 256, a.toNat * 16777216 + b.toNat * 65536, a.toNat * 16777216 + b.toNat * 65536 + c.toNat * 256, by omega, by omega, by omega, by omega, by omega, by omega, by omega, by omega, by omega, by omega, by omega⟩
theorem rrep_mk {w w' : World} {y now c1 c2 F : Nat} {c : Cl} {ol : List (Nat × List UInt8)} {SA DA : Option Addr} {sv ds : List (List UInt8)} (hsv : sv = srv' (ol.lookup 23)) (hds : ds = dnm (ol.lookup 24)) (hF : frsh (ol.lookup 32) = F) (q1 : RClB w' y { c.goes now with asks := false, fresh := true, next := addT (max c.tm now) (secT F) }) (q2 : OutA w' w.heap.size (.slice SA sv.length c1) sv) (q3 : OutT w' w.heap.size (.slice DA ds.length c2) ds) (q4 : Tn (fun k => k = y) w w') :
    RRep w y c now (.returned (.tuple #[.agg (raC SA DA sv.length c1 ds.length c2 F), .bool true])) w' (some ol) := by
  subst hsv hds hF
  exact ⟨SA, DA, c1, c2, rfl, q1, q2, q3, q4⟩
theorem far_add (T F : Nat) (hT : T ≤ far) (hF : F = 4294967295) : addT T (secT F) = far := by
  have : secT F = far := by unfold secT; rw [if_pos hF]
  rw [this]
  unfold addT
  split <;> omega
theorem rtail21 (w0 wr : World) (M n y ra now lc sc dc : Nat) (c C : Cl) (LA SA DA : Option Addr) (sv ds : List (List UInt8)) (ol : List (Nat × List UInt8)) (hA : Ac w0 wr M n y ra C SA DA sc dc 86400 sv ds) (hro : RO wr M (.slice LA ol.length lc) ol ∧ ol.length < 2 ^ 30) (hC : C = c.goes now) (hT : max c.tm now ≤ far) (hsv : sv = srv' (ol.lookup 23) ∧ ds = dnm (ol.lookup 24))
    (u1 u2 u3 u4 u5 u7 u9 u10 u11 u12 u13 u15 u16 u17 u18 u19 u20 u21 u22 u23 u24 u25 u26 u27 u28 u29 u30 u31 u32 u33 u34 u35 u36 u37 u38 u39 u40 u41 u42 u43 u44 u45 u46 u47 u48 u49 u50 u51 u52 u53 u54 u55 u56 u57 u58 u59 u60 u61 u62 u63 u64 u65 u66 u67 u68 u69 u70 u71 u72 u73 u74 u75 u76 u77 u78 u79 u80 u81 u82 u83 u84 u85 u86 u87 u88 u89 u90 u91 u92 u93 u94 u95 u96 u97 u98 u99 u100 u101 u102 u103 u104 u105 u106 u107 u108 u109 u110 u111 u112 u113 u114 u115 u116 u117 u118 u119 u120 u121 u122 u123 u124 u125 u126 u127 u128 u129 u130 u131 u132 u133 u134 u135 u136 u137 u138 u139 u140 u141 u142 u143 u144 u145 u146 u147 u148 u149 u150 u151 u152 u153 u154 u155 u156 u157 u158 u159 u160 u161 u162 u163 u164 u165 u166 u167 u168 u169 u170 u171 u172 u173 u174 u175 u176 u177 u178 u179 u180 u181 u182 u183 u184 u185 u186 u187 u188 u189 u190 u191 u192 u193 u194 u195 u196 u197 u198 u199 u200 u201 u202 u203 u204 u205 u206 u207 u208 u209 u210 u211 u212 u213 u214 u215 u216 u217 : Value) :
    Code.wp Try.prog (rtail 21) (bodyPost Try.prog Try.f39 fun e w' => RRep w0 y c now e w' (some ol)) ⟨#[.pointer (some ⟨y, 0, none⟩), u1, u2, u3, u4, u5, .pointer (some ⟨w0.heap.size, 0, none⟩), u7, .slice LA ol.length lc, u9, u10, u11, u12, u13, .pointer (some ⟨ra, 0, none⟩), u15, u16, u17, u18, u19, u20, u21, u22, u23, u24, u25, u26, u27, u28, u29, u30, u31, u32, u33, u34, u35, u36, u37, u38, u39, u40, u41, u42, u43, u44, u45, u46, u47, u48, u49, u50, u51, u52, u53, u54, u55, u56, u57, u58, u59, u60, u61, u62, u63, u64, u65, u66, u67, u68, u69, u70, u71, u72, u73, u74, u75, u76, u77, u78, u79, u80, u81, u82, u83, u84, u85, u86, u87, u88, u89, u90, u91, u92, u93, u94, u95, u96, u97, u98, u99, u100, u101, u102, u103, u104, u105, u106, u107, u108, u109, u110, u111, u112, u113, u114, u115, u116, u117, u118, u119, u120, u121, u122, u123, u124, u125, u126, u127, u128, u129, u130, u131, u132, u133, u134, u135, u136, u137, u138, u139, u140, u141, u142, u143, u144, u145, u146, u147, u148, u149, u150, u151, u152, u153, u154, u155, u156, u157, u158, u159, u160, u161, u162, u163, u164, u165, u166, u167, u168, u169, u170, u171, u172, u173, u174, u175, u176, u177, u178, u179, u180, u181, u182, u183, u184, u185, u186, u187, u188, u189, u190, u191, u192, u193, u194, u195, u196, u197, u198, u199, u200, u201, u202, u203, u204, u205, u206, u207, u208, u209, u210, u211, u212, u213, u214, u215, u216, u217], []⟩ wr := by
  have HA := Lib.hid hA
  have HRO := Lib.hid hro
  have HCC := Lib.hid hC
  have HTF := Lib.hid hT
  have HSV := Lib.hid hsv
  have CF := Lib.hid (rfind_any M 32 LA lc ol wr hro.1 (by decide) hro.2)
  clear hA hro hC hT hsv
  conv => arg 2; whnf
  go_wp2_with fail
  refine CF.out.mono ?_
  rintro e w3' ⟨hf, rfl⟩
  obtain ⟨A, cc, rfl, hr, _, _⟩ := hf.case
  clear hf CF
  obtain ⟨L, hL⟩ : ∃ L, L = ((ol.lookup 32).getD []).length := ⟨_, rfl⟩
  obtain ⟨i32, hi32⟩ : ∃ L, L = (ol.lookup 32).isSome := ⟨_, rfl⟩
  rw [← hL, ← hi32]
  by_cases h4 : L = 4
  · have n4 : ((L : Int) == 4) = true := by rw [h4]; rfl
    obtain ⟨d, hd⟩ : ∃ d, ol.lookup 32 = some d := by
      cases hk : ol.lookup 32 with
      | none => rw [hk] at hL; simp at hL; omega
      | some d => exact ⟨d, rfl⟩
    rw [hd, Option.getD_some] at hL hr
    have hl4 : d.length = 4 := by omega
    obtain ⟨bs, os, rfl, hbs, hcs⟩ := hr (by omega)
    have o3 := HA.out.o3
    have o4 := HA.out.o4
    have lbs : bs < wr.heap.size := Nat.lt_of_lt_of_le hbs (Nat.le_trans o3 (Nat.le_of_lt (bk_lt HA.out.ka)))
    have hne : bs ≠ ra := by omega
    have u0 := hcs 0 (by omega)
    have u1 := hcs 1 (by omega)
    have u2 := hcs 2 (by omega)
    have u3 := hcs 3 (by omega)
    obtain ⟨x0, hx0⟩ : ∃ x, x = d[0] := ⟨_, rfl⟩
    obtain ⟨x1, hx1⟩ : ∃ x, x = d[1] := ⟨_, rfl⟩
    obtain ⟨x2, hx2⟩ : ∃ x, x = d[2] := ⟨_, rfl⟩
    obtain ⟨x3, hx3⟩ : ∃ x, x = d[3] := ⟨_, rfl⟩
    rw [← hx0, Nat.add_zero] at u0
    rw [← hx1] at u1
    rw [← hx2] at u2
    rw [← hx3] at u3
    obtain ⟨V, hV⟩ : ∃ V, V = val d := ⟨_, rfl⟩
    have hV4 := val4 d hl4
    rw [← hV, ← hx0, ← hx1, ← hx2, ← hx3] at hV4
    obtain ⟨z1, z2, z3, z12, z123, p1, p2, p3, p4, p5, p6, p7, p8, p9, p10, hV32⟩ := four32 x0 x1 x2 x3 V hV4
    have q0 : (0 : Int) < (L : Int) := by omega
    have q1 : (1 : Int) < (L : Int) := by omega
    have q2 : (2 : Int) < (L : Int) := by omega
    have q3 : (3 : Int) < (L : Int) := by omega
    have c2 : wr.cell? ⟨ra, 2, none⟩ = some (.int .u32 86400) := bk_cell HA.out.ka 2
    have f2 := bk_frozen HA.out.ka 2
    have la := bk_lt HA.out.ka
    have HFV : Hid (frsh (ol.lookup 32) = max 600 V) := Lib.hid (by rw [hd]; unfold frsh; simp only; rw [if_pos hl4, hV])
    have HA1 : Hid (Ac w0 (wr.setCell ⟨ra, 2, none⟩ (.int .u32 (V : Int))).drew M n y ra C SA DA sc dc V sv ds) := Lib.hid (HA.out.fresh.below (Below.refl _ _).drew)
    have HV32 := Lib.hid hV32
    clear h4 hL hi32 hr hd hl4 hbs hcs hx0 hx1 hx2 hx3 hV hV4 o3 o4
    go_upto_region 23 with fail
    clear n4
    go_region
    clear p1 p2 p3 p4 p5 p6 p7 p8 p9 p10 u0 u1 u2 u3 q0 q1 q2 q3 c2 f2 la lbs hne HA
    generalize (wr.setCell ⟨ra, 2, none⟩ (.int .u32 (V : Int))).drew = wv at *
    have c2 : wv.cell? ⟨ra, 2, none⟩ = some (.int .u32 (V : Int)) := bk_cell HA1.out.ka 2
    have f2 := bk_frozen HA1.out.ka 2
    have la := bk_lt HA1.out.ka
    by_cases h600 : V < 600
    · have d6 : decide ((V : Int) < 600) = true := by simp; omega
      have d6' : decide (V < 600) = true := by simp; omega
      obtain ⟨F, hF⟩ : ∃ F, F = 600 := ⟨_, rfl⟩
      have HFR : Hid (frsh (ol.lookup 32) = F) := Lib.hid (by rw [HFV.out, hF]; omega)
      have HA2 : Hid (Ac w0 (wv.setCell ⟨ra, 2, none⟩ (.int .u32 (F : Int))) M n y ra C SA DA sc dc F sv ds) := Lib.hid HA1.out.fresh
      have hF' : (600 : Int) = (F : Int) := by omega
      have HFE := Lib.hid hF'
      clear h600 hF hF'
      go_upto_region 26 with fail
      rw [HFE.out]
      clear c2 f2 la d6 d6' HA1
      change Code.wp _ _ _ _ (wv.setCell ⟨ra, 2, none⟩ (.int .u32 (F : Int)))
      generalize wv.setCell ⟨ra, 2, none⟩ (.int .u32 (F : Int)) = wr at *
      have HFF : Hid (F < 4294967296) := Lib.hid (by rw [← HFR.out]; exact frsh_lt _)
      -- stores 26, 27, 28
      have o1 := HA2.out.o1; have o2 := HA2.out.o2; have o3 := HA2.out.o3; have o4 := HA2.out.o4
      have c6 := bk_cell HA2.out.cl.box 6
      have c7 := bk_cell HA2.out.cl.box 7
      have c8 := bk_cell HA2.out.cl.box 8
      simp [rcC] at c6 c7 c8
      have f6 := bk_frozen HA2.out.cl.box 6
      have f7 := bk_frozen HA2.out.cl.box 7
      have f8 := bk_frozen HA2.out.cl.box 8
      have ly := bk_lt HA2.out.cl.box
      have t5 : Tn (fun k => k = y) wr (((wr.setCell ⟨y, 6, none⟩ (.bool false)).setCell ⟨y, 7, none⟩ (.bool true)).setCell ⟨y, 8, none⟩ (.int .u64 9223372036854775807)) := (((Tn.refl (fun k => k = y) wr).set (.inl rfl)).set (.inl rfl)).set (.inl rfl)
      have HA5 : Hid (Ac w0 (((wr.setCell ⟨y, 6, none⟩ (.bool false)).setCell ⟨y, 7, none⟩ (.bool true)).setCell ⟨y, 8, none⟩ (.int .u64 9223372036854775807)) M n y ra { C with asks := false, fresh := true, next := far } SA DA sc dc F sv ds) := Lib.hid (by
        have h := HA2.out
        exact ⟨⟨by rw [bk_setCell_same, bk_setCell_same, bk_setCell_same, h.cl.box]; rfl, Nat.le_refl _, h.cl.t64, h.cl.i24, h.cl.s64, h.cl.w22⟩, t5.keep (by omega) h.kr, t5.keep (by omega) h.ka, own_turnS h.hs fun k hk => t5.old k (h.hs.lt k hk).2 (fun e => by have := (h.hs.lt k hk).1; omega), own_turnS h.hd fun k hk => t5.old k (h.hd.lt k hk).2 (fun e => by have := (h.hd.lt k hk).1; omega), h.tn.trans t5 fun k hk => .inl hk, h.o1, h.o2, h.o3, h.o4, by simpa using h.o5⟩)
      clear t5 HA2
      go_upto_region 29 with fail
      clear c6 c7 c8 f6 f7 f8 ly
      change Code.wp _ _ _ _ (((wr.setCell ⟨y, 6, none⟩ (.bool false)).setCell ⟨y, 7, none⟩ (.bool true)).setCell ⟨y, 8, none⟩ (.int .u64 9223372036854775807))
      generalize ((wr.setCell ⟨y, 6, none⟩ (.bool false)).setCell ⟨y, 7, none⟩ (.bool true)).setCell ⟨y, 8, none⟩ (.int .u64 9223372036854775807) = w5 at *
      have e2 : w5.cell? ⟨ra, 2, none⟩ = some (.int .u32 (F : Int)) := bk_cell HA5.out.ka 2
      have la := bk_lt HA5.out.ka
      by_cases hmax : F = 4294967295
      · have d1 : decide ((F : Int) < 4294967295) = false := by simp; omega
        have d1' : decide (F < 4294967295) = false := by simp; omega
        have HEQ : Hid (({ C with asks := false, fresh := true, next := far } : Cl) = { c.goes now with asks := false, fresh := true, next := addT (max c.tm now) (secT F) }) := Lib.hid (by
          have e := far_add (max c.tm now) F HTF.out hmax
          rw [e, HCC.out])
        clear hmax
        go_upto_region 31 with fail
        clear d1 d1' e2 la
        have kr := HA5.out.kr
        have ka := HA5.out.ka
        have os1 := raC_ones SA DA sv.length sc ds.length dc F
        have os2 := raC_size SA DA sv.length sc ds.length dc F
        have os3 := ansC_size 0
        have lr := bk_lt kr
        have la2 := bk_lt ka
        go_wp2_with fail
        have F9 : Hid (RClB (w5.setRow w0.heap.size (raC SA DA sv.length sc ds.length dc F)) y { c.goes now with asks := false, fresh := true, next := addT (max c.tm now) (secT F) } ∧ OutA (w5.setRow w0.heap.size (raC SA DA sv.length sc ds.length dc F)) w0.heap.size (.slice SA sv.length sc) sv ∧ OutT (w5.setRow w0.heap.size (raC SA DA sv.length sc ds.length dc F)) w0.heap.size (.slice DA ds.length dc) ds ∧ Tn (fun k => k = y) w0 (w5.setRow w0.heap.size (raC SA DA sv.length sc ds.length dc F))) := Lib.hid (by
          have h := HA5.out
          have hcl := h.cl
          rw [HEQ.out] at hcl
          refine ⟨⟨(bk_setRow_other _ _ _ _ (by omega)).trans hcl.box, hcl.n64, hcl.t64, hcl.i24, hcl.s64, hcl.w22⟩, ?_, ?_, h.tn.setRow (Nat.le_refl _)⟩
          · exact OutA.mono (own_turnS h.hs fun k hk => bk_setRow_other _ _ _ _ (by have := (h.hs.lt k hk).1; omega)) (by omega)
          · exact OutT.mono (own_turnS h.hd fun k hk => bk_setRow_other _ _ _ _ (by have := (h.hd.lt k hk).1; omega)) (by omega))
        refine ret_two (cs := raC SA DA sv.length sc ds.length dc F) rfl rfl rfl rfl (by rw [bk_setRow_same, kr]; rfl) Try.underlying91 rfl (by rw [raC_size]; kernel_rfl) ?_
        obtain ⟨q1, q2, q3, q4⟩ := F9.out
        exact rrep_mk HSV.out.1 HSV.out.2 HFR.out q1 q2 q3 q4
      · have d1 : decide ((F : Int) < 4294967295) = true := by have := HFF.out; simp; omega
        have d1' : decide (F < 4294967295) = true := by have := HFF.out; simp; omega
        obtain ⟨G, hG⟩ : ∃ G, G = 1000 * F := ⟨_, rfl⟩
        have mF : IntKind.u64.wrap (F : Int) = (F : Int) := by rw [IntKind.wrap_u64]; have := HFF.out; omega
        have mG : IntKind.u64.wrap (1000 * (F : Int)) = (G : Int) := by rw [IntKind.wrap_u64]; have := HFF.out; omega
        obtain ⟨T, hT⟩ : ∃ T, T = C.tm := ⟨_, rfl⟩
        obtain ⟨s, hs⟩ : ∃ s, s = addT T G := ⟨_, rfl⟩
        have e9 : w5.cell? ⟨y, 9, none⟩ = some (.int .u64 (T : Int)) := by rw [bk_cell HA5.out.cl.box, hT]; rfl
        have ly := bk_lt HA5.out.cl.box
        have hT64 : T < 2 ^ 64 := by have := HA5.out.cl.t64; unfold far at this; rw [hT]; simp only at this; omega
        have hG64 : G < 2 ^ 64 := by have := HFF.out; omega
        have CA : Hid (∀ X, Calls Try.prog 65 #[.int .u64 (T : Int), .int .u64 (G : Int)] X fun e w' => e = .returned (.int .u64 (s : Int)) ∧ Below X.heap.size X w') := Lib.hid fun X => (by
          rw [hs]
          exact (radd_any T G X hT64 hG64).mono fun e w' q => ⟨q.1, by rw [← q.2]; exact Below.refl _ _⟩)
        have HEQ : Hid (({ C with asks := false, fresh := true, next := s } : Cl) = { c.goes now with asks := false, fresh := true, next := addT (max c.tm now) (secT F) }) := Lib.hid (by
          have e : addT (max c.tm now) (secT F) = s := by
            rw [hs, hG, hT, HCC.out]; unfold secT; rw [if_neg hmax]; rfl
          rw [e, HCC.out])
        have hsf : s ≤ far := by rw [hs]; exact addT_le T G
        have HSF := Lib.hid hsf
        clear hmax hG hT hs hT64 hG64 hsf
        go_upto_region 30 with fail
        clear d1 d1'
        refine wp_region_later_tail (w5.heap.size) 12 (by kernel_rfl) (by kernel_rfl) ?_
        simp only [List.take_succ_cons, List.take_zero, List.drop_succ_cons, List.drop_zero]
        repeat (go_big_quiet_step (((rename_i xq; with_reducible exact later_call xq (Nat.le_refl _) (CA.out xq.w)))))
        (first | refine wpQuiet_nil ?_ | (go_big_quiet_want; (try go_big_quiet_op); trace_state; fail))
        intro w6 hw'
        have q6 := later_elim hw'
        clear hw'
        have HA6 := Lib.hid (HA5.out.below q6)
        have c8 := bk_cell HA6.out.cl.box 8
        simp [rcC] at c8
        have f8 := bk_frozen HA6.out.cl.box 8
        have ly := bk_lt HA6.out.cl.box
        have t7 : Tn (fun k => k = y) w6 (w6.setCell ⟨y, 8, none⟩ (.int .u64 (s : Int))) := (Tn.refl (fun k => k = y) w6).set (.inl rfl)
        have HA7 : Hid (Ac w0 (w6.setCell ⟨y, 8, none⟩ (.int .u64 (s : Int))) M n y ra { C with asks := false, fresh := true, next := s } SA DA sc dc F sv ds) := Lib.hid (by
          have h := HA6.out
          exact ⟨⟨by rw [bk_setCell_same, h.cl.box]; rfl, HSF.out, h.cl.t64, h.cl.i24, h.cl.s64, h.cl.w22⟩, t7.keep (by omega) h.kr, t7.keep (by omega) h.ka, own_turnS h.hs fun k hk => t7.old k (h.hs.lt k hk).2 (fun e => by have := (h.hs.lt k hk).1; omega), own_turnS h.hd fun k hk => t7.old k (h.hd.lt k hk).2 (fun e => by have := (h.hd.lt k hk).1; omega), h.tn.trans t7 fun k hk => .inl hk, h.o1, h.o2, h.o3, h.o4, by simpa using h.o5⟩)
        clear t7 q6 HA5 HA6 CA mF mG e9 e2 la
        go_upto_region 31 with fail
        clear c8 f8 ly
        change Code.wp _ _ _ _ (w6.setCell ⟨y, 8, none⟩ (.int .u64 (s : Int)))
        generalize w6.setCell ⟨y, 8, none⟩ (.int .u64 (s : Int)) = w7 at *
        have kr := HA7.out.kr
        have ka := HA7.out.ka
        have os1 := raC_ones SA DA sv.length sc ds.length dc F
        have os2 := raC_size SA DA sv.length sc ds.length dc F
        have os3 := ansC_size 0
        have lr := bk_lt kr
        have la2 := bk_lt ka
        go_wp2_with fail
        have F9 : Hid (RClB (w7.setRow w0.heap.size (raC SA DA sv.length sc ds.length dc F)) y { c.goes now with asks := false, fresh := true, next := addT (max c.tm now) (secT F) } ∧ OutA (w7.setRow w0.heap.size (raC SA DA sv.length sc ds.length dc F)) w0.heap.size (.slice SA sv.length sc) sv ∧ OutT (w7.setRow w0.heap.size (raC SA DA sv.length sc ds.length dc F)) w0.heap.size (.slice DA ds.length dc) ds ∧ Tn (fun k => k = y) w0 (w7.setRow w0.heap.size (raC SA DA sv.length sc ds.length dc F))) := Lib.hid (by
          have h := HA7.out
          have hcl := h.cl
          rw [HEQ.out] at hcl
          refine ⟨⟨(bk_setRow_other _ _ _ _ (by omega)).trans hcl.box, hcl.n64, hcl.t64, hcl.i24, hcl.s64, hcl.w22⟩, ?_, ?_, h.tn.setRow (Nat.le_refl _)⟩
          · exact OutA.mono (own_turnS h.hs fun k hk => bk_setRow_other _ _ _ _ (by have := (h.hs.lt k hk).1; omega)) (by omega)
          · exact OutT.mono (own_turnS h.hd fun k hk => bk_setRow_other _ _ _ _ (by have := (h.hd.lt k hk).1; omega)) (by omega))
        refine ret_two (cs := raC SA DA sv.length sc ds.length dc F) rfl rfl rfl rfl (by rw [bk_setRow_same, kr]; rfl) Try.underlying91 rfl (by rw [raC_size]; kernel_rfl) ?_
        obtain ⟨q1, q2, q3, q4⟩ := F9.out
        exact rrep_mk HSV.out.1 HSV.out.2 HFR.out q1 q2 q3 q4
    · have d6 : decide ((V : Int) < 600) = false := by simp; omega
      have d6' : decide (V < 600) = false := by simp; omega
      have HFR : Hid (frsh (ol.lookup 32) = V) := Lib.hid (by rw [HFV.out]; omega)
      clear h600
      go_upto_region 26 with fail
      clear c2 f2 la d6 d6'
      have HFF : Hid (V < 4294967296) := Lib.hid (by rw [← HFR.out]; exact frsh_lt _)
      -- stores 26, 27, 28
      have o1 := HA1.out.o1; have o2 := HA1.out.o2; have o3 := HA1.out.o3; have o4 := HA1.out.o4
      have c6 := bk_cell HA1.out.cl.box 6
      have c7 := bk_cell HA1.out.cl.box 7
      have c8 := bk_cell HA1.out.cl.box 8
      simp [rcC] at c6 c7 c8
      have f6 := bk_frozen HA1.out.cl.box 6
      have f7 := bk_frozen HA1.out.cl.box 7
      have f8 := bk_frozen HA1.out.cl.box 8
      have ly := bk_lt HA1.out.cl.box
      have t5 : Tn (fun k => k = y) wv (((wv.setCell ⟨y, 6, none⟩ (.bool false)).setCell ⟨y, 7, none⟩ (.bool true)).setCell ⟨y, 8, none⟩ (.int .u64 9223372036854775807)) := (((Tn.refl (fun k => k = y) wv).set (.inl rfl)).set (.inl rfl)).set (.inl rfl)
      have HA5 : Hid (Ac w0 (((wv.setCell ⟨y, 6, none⟩ (.bool false)).setCell ⟨y, 7, none⟩ (.bool true)).setCell ⟨y, 8, none⟩ (.int .u64 9223372036854775807)) M n y ra { C with asks := false, fresh := true, next := far } SA DA sc dc V sv ds) := Lib.hid (by
        have h := HA1.out
        exact ⟨⟨by rw [bk_setCell_same, bk_setCell_same, bk_setCell_same, h.cl.box]; rfl, Nat.le_refl _, h.cl.t64, h.cl.i24, h.cl.s64, h.cl.w22⟩, t5.keep (by omega) h.kr, t5.keep (by omega) h.ka, own_turnS h.hs fun k hk => t5.old k (h.hs.lt k hk).2 (fun e => by have := (h.hs.lt k hk).1; omega), own_turnS h.hd fun k hk => t5.old k (h.hd.lt k hk).2 (fun e => by have := (h.hd.lt k hk).1; omega), h.tn.trans t5 fun k hk => .inl hk, h.o1, h.o2, h.o3, h.o4, by simpa using h.o5⟩)
      clear t5 HA1
      go_upto_region 29 with fail
      clear c6 c7 c8 f6 f7 f8 ly
      change Code.wp _ _ _ _ (((wv.setCell ⟨y, 6, none⟩ (.bool false)).setCell ⟨y, 7, none⟩ (.bool true)).setCell ⟨y, 8, none⟩ (.int .u64 9223372036854775807))
      generalize ((wv.setCell ⟨y, 6, none⟩ (.bool false)).setCell ⟨y, 7, none⟩ (.bool true)).setCell ⟨y, 8, none⟩ (.int .u64 9223372036854775807) = w5 at *
      have e2 : w5.cell? ⟨ra, 2, none⟩ = some (.int .u32 (V : Int)) := bk_cell HA5.out.ka 2
      have la := bk_lt HA5.out.ka
      by_cases hmax : V = 4294967295
      · have d1 : decide ((V : Int) < 4294967295) = false := by simp; omega
        have d1' : decide (V < 4294967295) = false := by simp; omega
        have HEQ : Hid (({ C with asks := false, fresh := true, next := far } : Cl) = { c.goes now with asks := false, fresh := true, next := addT (max c.tm now) (secT V) }) := Lib.hid (by
          have e := far_add (max c.tm now) V HTF.out hmax
          rw [e, HCC.out])
        clear hmax
        go_upto_region 31 with fail
        clear d1 d1' e2 la
        have kr := HA5.out.kr
        have ka := HA5.out.ka
        have os1 := raC_ones SA DA sv.length sc ds.length dc V
        have os2 := raC_size SA DA sv.length sc ds.length dc V
        have os3 := ansC_size 0
        have lr := bk_lt kr
        have la2 := bk_lt ka
        go_wp2_with fail
        have F9 : Hid (RClB (w5.setRow w0.heap.size (raC SA DA sv.length sc ds.length dc V)) y { c.goes now with asks := false, fresh := true, next := addT (max c.tm now) (secT V) } ∧ OutA (w5.setRow w0.heap.size (raC SA DA sv.length sc ds.length dc V)) w0.heap.size (.slice SA sv.length sc) sv ∧ OutT (w5.setRow w0.heap.size (raC SA DA sv.length sc ds.length dc V)) w0.heap.size (.slice DA ds.length dc) ds ∧ Tn (fun k => k = y) w0 (w5.setRow w0.heap.size (raC SA DA sv.length sc ds.length dc V))) := Lib.hid (by
          have h := HA5.out
          have hcl := h.cl
          rw [HEQ.out] at hcl
          refine ⟨⟨(bk_setRow_other _ _ _ _ (by omega)).trans hcl.box, hcl.n64, hcl.t64, hcl.i24, hcl.s64, hcl.w22⟩, ?_, ?_, h.tn.setRow (Nat.le_refl _)⟩
          · exact OutA.mono (own_turnS h.hs fun k hk => bk_setRow_other _ _ _ _ (by have := (h.hs.lt k hk).1; omega)) (by omega)
          · exact OutT.mono (own_turnS h.hd fun k hk => bk_setRow_other _ _ _ _ (by have := (h.hd.lt k hk).1; omega)) (by omega))
        refine ret_two (cs := raC SA DA sv.length sc ds.length dc V) rfl rfl rfl rfl (by rw [bk_setRow_same, kr]; rfl) Try.underlying91 rfl (by rw [raC_size]; kernel_rfl) ?_
        obtain ⟨q1, q2, q3, q4⟩ := F9.out
        exact rrep_mk HSV.out.1 HSV.out.2 HFR.out q1 q2 q3 q4
      · have d1 : decide ((V : Int) < 4294967295) = true := by have := HFF.out; simp; omega
        have d1' : decide (V < 4294967295) = true := by have := HFF.out; simp; omega
        obtain ⟨G, hG⟩ : ∃ G, G = 1000 * V := ⟨_, rfl⟩
        have mF : IntKind.u64.wrap (V : Int) = (V : Int) := by rw [IntKind.wrap_u64]; have := HFF.out; omega
        have mG : IntKind.u64.wrap (1000 * (V : Int)) = (G : Int) := by rw [IntKind.wrap_u64]; have := HFF.out; omega
        obtain ⟨T, hT⟩ : ∃ T, T = C.tm := ⟨_, rfl⟩
        obtain ⟨s, hs⟩ : ∃ s, s = addT T G := ⟨_, rfl⟩
        have e9 : w5.cell? ⟨y, 9, none⟩ = some (.int .u64 (T : Int)) := by rw [bk_cell HA5.out.cl.box, hT]; rfl
        have ly := bk_lt HA5.out.cl.box
        have hT64 : T < 2 ^ 64 := by have := HA5.out.cl.t64; unfold far at this; rw [hT]; simp only at this; omega
        have hG64 : G < 2 ^ 64 := by have := HFF.out; omega
        have CA : Hid (∀ X, Calls Try.prog 65 #[.int .u64 (T : Int), .int .u64 (G : Int)] X fun e w' => e = .returned (.int .u64 (s : Int)) ∧ Below X.heap.size X w') := Lib.hid fun X => (by
          rw [hs]
          exact (radd_any T G X hT64 hG64).mono fun e w' q => ⟨q.1, by rw [← q.2]; exact Below.refl _ _⟩)
        have HEQ : Hid (({ C with asks := false, fresh := true, next := s } : Cl) = { c.goes now with asks := false, fresh := true, next := addT (max c.tm now) (secT V) }) := Lib.hid (by
          have e : addT (max c.tm now) (secT V) = s := by
            rw [hs, hG, hT, HCC.out]; unfold secT; rw [if_neg hmax]; rfl
          rw [e, HCC.out])
        have hsf : s ≤ far := by rw [hs]; exact addT_le T G
        have HSF := Lib.hid hsf
        clear hmax hG hT hs hT64 hG64 hsf
        go_upto_region 30 with fail
        clear d1 d1'
        refine wp_region_later_tail (w5.heap.size) 12 (by kernel_rfl) (by kernel_rfl) ?_
        simp only [List.take_succ_cons, List.take_zero, List.drop_succ_cons, List.drop_zero]
        repeat (go_big_quiet_step (((rename_i xq; with_reducible exact later_call xq (Nat.le_refl _) (CA.out xq.w)))))
        (first | refine wpQuiet_nil ?_ | (go_big_quiet_want; (try go_big_quiet_op); trace_state; fail))
        intro w6 hw'
        have q6 := later_elim hw'
        clear hw'
        have HA6 := Lib.hid (HA5.out.below q6)
        have c8 := bk_cell HA6.out.cl.box 8
        simp [rcC] at c8
        have f8 := bk_frozen HA6.out.cl.box 8
        have ly := bk_lt HA6.out.cl.box
        have t7 : Tn (fun k => k = y) w6 (w6.setCell ⟨y, 8, none⟩ (.int .u64 (s : Int))) := (Tn.refl (fun k => k = y) w6).set (.inl rfl)
        have HA7 : Hid (Ac w0 (w6.setCell ⟨y, 8, none⟩ (.int .u64 (s : Int))) M n y ra { C with asks := false, fresh := true, next := s } SA DA sc dc V sv ds) := Lib.hid (by
          have h := HA6.out
          exact ⟨⟨by rw [bk_setCell_same, h.cl.box]; rfl, HSF.out, h.cl.t64, h.cl.i24, h.cl.s64, h.cl.w22⟩, t7.keep (by omega) h.kr, t7.keep (by omega) h.ka, own_turnS h.hs fun k hk => t7.old k (h.hs.lt k hk).2 (fun e => by have := (h.hs.lt k hk).1; omega), own_turnS h.hd fun k hk => t7.old k (h.hd.lt k hk).2 (fun e => by have := (h.hd.lt k hk).1; omega), h.tn.trans t7 fun k hk => .inl hk, h.o1, h.o2, h.o3, h.o4, by simpa using h.o5⟩)
        clear t7 q6 HA5 HA6 CA mF mG e9 e2 la
        go_upto_region 31 with fail
        clear c8 f8 ly
        change Code.wp _ _ _ _ (w6.setCell ⟨y, 8, none⟩ (.int .u64 (s : Int)))
        generalize w6.setCell ⟨y, 8, none⟩ (.int .u64 (s : Int)) = w7 at *
        have kr := HA7.out.kr
        have ka := HA7.out.ka
        have os1 := raC_ones SA DA sv.length sc ds.length dc V
        have os2 := raC_size SA DA sv.length sc ds.length dc V
        have os3 := ansC_size 0
        have lr := bk_lt kr
        have la2 := bk_lt ka
        go_wp2_with fail
        have F9 : Hid (RClB (w7.setRow w0.heap.size (raC SA DA sv.length sc ds.length dc V)) y { c.goes now with asks := false, fresh := true, next := addT (max c.tm now) (secT V) } ∧ OutA (w7.setRow w0.heap.size (raC SA DA sv.length sc ds.length dc V)) w0.heap.size (.slice SA sv.length sc) sv ∧ OutT (w7.setRow w0.heap.size (raC SA DA sv.length sc ds.length dc V)) w0.heap.size (.slice DA ds.length dc) ds ∧ Tn (fun k => k = y) w0 (w7.setRow w0.heap.size (raC SA DA sv.length sc ds.length dc V))) := Lib.hid (by
          have h := HA7.out
          have hcl := h.cl
          rw [HEQ.out] at hcl
          refine ⟨⟨(bk_setRow_other _ _ _ _ (by omega)).trans hcl.box, hcl.n64, hcl.t64, hcl.i24, hcl.s64, hcl.w22⟩, ?_, ?_, h.tn.setRow (Nat.le_refl _)⟩
          · exact OutA.mono (own_turnS h.hs fun k hk => bk_setRow_other _ _ _ _ (by have := (h.hs.lt k hk).1; omega)) (by omega)
          · exact OutT.mono (own_turnS h.hd fun k hk => bk_setRow_other _ _ _ _ (by have := (h.hd.lt k hk).1; omega)) (by omega))
        refine ret_two (cs := raC SA DA sv.length sc ds.length dc V) rfl rfl rfl rfl (by rw [bk_setRow_same, kr]; rfl) Try.underlying91 rfl (by rw [raC_size]; kernel_rfl) ?_
        obtain ⟨q1, q2, q3, q4⟩ := F9.out
        exact rrep_mk HSV.out.1 HSV.out.2 HFR.out q1 q2 q3 q4
  · have n4 : ((L : Int) == 4) = false := beq_eq_false_iff_ne.2 (by omega)
    have HFR : Hid (frsh (ol.lookup 32) = 86400) := Lib.hid (by
      unfold frsh
      cases hk : ol.lookup 32 with
      | none => rfl
      | some d => rw [hk] at hL; simp only [Option.getD_some] at hL; simp only; rw [if_neg (by omega)])
    clear h4 hL hi32 hr
    obtain ⟨F, hF⟩ : ∃ F, F = 86400 := ⟨_, rfl⟩
    rw [← hF] at HA HFR
    clear hF
    go_upto_region 26 with fail
    clear n4
    have HFF : Hid (F < 4294967296) := Lib.hid (by rw [← HFR.out]; exact frsh_lt _)
    -- stores 26, 27, 28
    have o1 := HA.out.o1; have o2 := HA.out.o2; have o3 := HA.out.o3; have o4 := HA.out.o4
    have c6 := bk_cell HA.out.cl.box 6
    have c7 := bk_cell HA.out.cl.box 7
    have c8 := bk_cell HA.out.cl.box 8
    simp [rcC] at c6 c7 c8
    have f6 := bk_frozen HA.out.cl.box 6
    have f7 := bk_frozen HA.out.cl.box 7
    have f8 := bk_frozen HA.out.cl.box 8
    have ly := bk_lt HA.out.cl.box
    have t5 : Tn (fun k => k = y) wr (((wr.setCell ⟨y, 6, none⟩ (.bool false)).setCell ⟨y, 7, none⟩ (.bool true)).setCell ⟨y, 8, none⟩ (.int .u64 9223372036854775807)) := (((Tn.refl (fun k => k = y) wr).set (.inl rfl)).set (.inl rfl)).set (.inl rfl)
    have HA5 : Hid (Ac w0 (((wr.setCell ⟨y, 6, none⟩ (.bool false)).setCell ⟨y, 7, none⟩ (.bool true)).setCell ⟨y, 8, none⟩ (.int .u64 9223372036854775807)) M n y ra { C with asks := false, fresh := true, next := far } SA DA sc dc F sv ds) := Lib.hid (by
      have h := HA.out
      exact ⟨⟨by rw [bk_setCell_same, bk_setCell_same, bk_setCell_same, h.cl.box]; rfl, Nat.le_refl _, h.cl.t64, h.cl.i24, h.cl.s64, h.cl.w22⟩, t5.keep (by omega) h.kr, t5.keep (by omega) h.ka, own_turnS h.hs fun k hk => t5.old k (h.hs.lt k hk).2 (fun e => by have := (h.hs.lt k hk).1; omega), own_turnS h.hd fun k hk => t5.old k (h.hd.lt k hk).2 (fun e => by have := (h.hd.lt k hk).1; omega), h.tn.trans t5 fun k hk => .inl hk, h.o1, h.o2, h.o3, h.o4, by simpa using h.o5⟩)
    clear t5 HA
    go_upto_region 29 with fail
    clear c6 c7 c8 f6 f7 f8 ly
    change Code.wp _ _ _ _ (((wr.setCell ⟨y, 6, none⟩ (.bool false)).setCell ⟨y, 7, none⟩ (.bool true)).setCell ⟨y, 8, none⟩ (.int .u64 9223372036854775807))
    generalize ((wr.setCell ⟨y, 6, none⟩ (.bool false)).setCell ⟨y, 7, none⟩ (.bool true)).setCell ⟨y, 8, none⟩ (.int .u64 9223372036854775807) = w5 at *
    have e2 : w5.cell? ⟨ra, 2, none⟩ = some (.int .u32 (F : Int)) := bk_cell HA5.out.ka 2
    have la := bk_lt HA5.out.ka
    by_cases hmax : F = 4294967295
    · have d1 : decide ((F : Int) < 4294967295) = false := by simp; omega
      have d1' : decide (F < 4294967295) = false := by simp; omega
      have HEQ : Hid (({ C with asks := false, fresh := true, next := far } : Cl) = { c.goes now with asks := false, fresh := true, next := addT (max c.tm now) (secT F) }) := Lib.hid (by
        have e := far_add (max c.tm now) F HTF.out hmax
        rw [e, HCC.out])
      clear hmax
      go_upto_region 31 with fail
      clear d1 d1' e2 la
      have kr := HA5.out.kr
      have ka := HA5.out.ka
      have os1 := raC_ones SA DA sv.length sc ds.length dc F
      have os2 := raC_size SA DA sv.length sc ds.length dc F
      have os3 := ansC_size 0
      have lr := bk_lt kr
      have la2 := bk_lt ka
      go_wp2_with fail
      have F9 : Hid (RClB (w5.setRow w0.heap.size (raC SA DA sv.length sc ds.length dc F)) y { c.goes now with asks := false, fresh := true, next := addT (max c.tm now) (secT F) } ∧ OutA (w5.setRow w0.heap.size (raC SA DA sv.length sc ds.length dc F)) w0.heap.size (.slice SA sv.length sc) sv ∧ OutT (w5.setRow w0.heap.size (raC SA DA sv.length sc ds.length dc F)) w0.heap.size (.slice DA ds.length dc) ds ∧ Tn (fun k => k = y) w0 (w5.setRow w0.heap.size (raC SA DA sv.length sc ds.length dc F))) := Lib.hid (by
        have h := HA5.out
        have hcl := h.cl
        rw [HEQ.out] at hcl
        refine ⟨⟨(bk_setRow_other _ _ _ _ (by omega)).trans hcl.box, hcl.n64, hcl.t64, hcl.i24, hcl.s64, hcl.w22⟩, ?_, ?_, h.tn.setRow (Nat.le_refl _)⟩
        · exact OutA.mono (own_turnS h.hs fun k hk => bk_setRow_other _ _ _ _ (by have := (h.hs.lt k hk).1; omega)) (by omega)
        · exact OutT.mono (own_turnS h.hd fun k hk => bk_setRow_other _ _ _ _ (by have := (h.hd.lt k hk).1; omega)) (by omega))
      refine ret_two (cs := raC SA DA sv.length sc ds.length dc F) rfl rfl rfl rfl (by rw [bk_setRow_same, kr]; rfl) Try.underlying91 rfl (by rw [raC_size]; kernel_rfl) ?_
      obtain ⟨q1, q2, q3, q4⟩ := F9.out
      exact rrep_mk HSV.out.1 HSV.out.2 HFR.out q1 q2 q3 q4
    · have d1 : decide ((F : Int) < 4294967295) = true := by have := HFF.out; simp; omega
      have d1' : decide (F < 4294967295) = true := by have := HFF.out; simp; omega
      obtain ⟨G, hG⟩ : ∃ G, G = 1000 * F := ⟨_, rfl⟩
      have mF : IntKind.u64.wrap (F : Int) = (F : Int) := by rw [IntKind.wrap_u64]; have := HFF.out; omega
      have mG : IntKind.u64.wrap (1000 * (F : Int)) = (G : Int) := by rw [IntKind.wrap_u64]; have := HFF.out; omega
      obtain ⟨T, hT⟩ : ∃ T, T = C.tm := ⟨_, rfl⟩
      obtain ⟨s, hs⟩ : ∃ s, s = addT T G := ⟨_, rfl⟩
      have e9 : w5.cell? ⟨y, 9, none⟩ = some (.int .u64 (T : Int)) := by rw [bk_cell HA5.out.cl.box, hT]; rfl
      have ly := bk_lt HA5.out.cl.box
      have hT64 : T < 2 ^ 64 := by have := HA5.out.cl.t64; unfold far at this; rw [hT]; simp only at this; omega
      have hG64 : G < 2 ^ 64 := by have := HFF.out; omega
      have CA : Hid (∀ X, Calls Try.prog 65 #[.int .u64 (T : Int), .int .u64 (G : Int)] X fun e w' => e = .returned (.int .u64 (s : Int)) ∧ Below X.heap.size X w') := Lib.hid fun X => (by
        rw [hs]
        exact (radd_any T G X hT64 hG64).mono fun e w' q => ⟨q.1, by rw [← q.2]; exact Below.refl _ _⟩)
      have HEQ : Hid (({ C with asks := false, fresh := true, next := s } : Cl) = { c.goes now with asks := false, fresh := true, next := addT (max c.tm now) (secT F) }) := Lib.hid (by
        have e : addT (max c.tm now) (secT F) = s := by
          rw [hs, hG, hT, HCC.out]; unfold secT; rw [if_neg hmax]; rfl
        rw [e, HCC.out])
      have hsf : s ≤ far := by rw [hs]; exact addT_le T G
      have HSF := Lib.hid hsf
      clear hmax hG hT hs hT64 hG64 hsf
      go_upto_region 30 with fail
      clear d1 d1'
      refine wp_region_later_tail (w5.heap.size) 12 (by kernel_rfl) (by kernel_rfl) ?_
      simp only [List.take_succ_cons, List.take_zero, List.drop_succ_cons, List.drop_zero]
      repeat (go_big_quiet_step (((rename_i xq; with_reducible exact later_call xq (Nat.le_refl _) (CA.out xq.w)))))
      (first | refine wpQuiet_nil ?_ | (go_big_quiet_want; (try go_big_quiet_op); trace_state; fail))
      intro w6 hw'
      have q6 := later_elim hw'
      clear hw'
      have HA6 := Lib.hid (HA5.out.below q6)
      have c8 := bk_cell HA6.out.cl.box 8
      simp [rcC] at c8
      have f8 := bk_frozen HA6.out.cl.box 8
      have ly := bk_lt HA6.out.cl.box
      have t7 : Tn (fun k => k = y) w6 (w6.setCell ⟨y, 8, none⟩ (.int .u64 (s : Int))) := (Tn.refl (fun k => k = y) w6).set (.inl rfl)
      have HA7 : Hid (Ac w0 (w6.setCell ⟨y, 8, none⟩ (.int .u64 (s : Int))) M n y ra { C with asks := false, fresh := true, next := s } SA DA sc dc F sv ds) := Lib.hid (by
        have h := HA6.out
        exact ⟨⟨by rw [bk_setCell_same, h.cl.box]; rfl, HSF.out, h.cl.t64, h.cl.i24, h.cl.s64, h.cl.w22⟩, t7.keep (by omega) h.kr, t7.keep (by omega) h.ka, own_turnS h.hs fun k hk => t7.old k (h.hs.lt k hk).2 (fun e => by have := (h.hs.lt k hk).1; omega), own_turnS h.hd fun k hk => t7.old k (h.hd.lt k hk).2 (fun e => by have := (h.hd.lt k hk).1; omega), h.tn.trans t7 fun k hk => .inl hk, h.o1, h.o2, h.o3, h.o4, by simpa using h.o5⟩)
      clear t7 q6 HA5 HA6 CA mF mG e9 e2 la
      go_upto_region 31 with fail
      clear c8 f8 ly
      change Code.wp _ _ _ _ (w6.setCell ⟨y, 8, none⟩ (.int .u64 (s : Int)))
      generalize w6.setCell ⟨y, 8, none⟩ (.int .u64 (s : Int)) = w7 at *
      have kr := HA7.out.kr
      have ka := HA7.out.ka
      have os1 := raC_ones SA DA sv.length sc ds.length dc F
      have os2 := raC_size SA DA sv.length sc ds.length dc F
      have os3 := ansC_size 0
      have lr := bk_lt kr
      have la2 := bk_lt ka
      go_wp2_with fail
      have F9 : Hid (RClB (w7.setRow w0.heap.size (raC SA DA sv.length sc ds.length dc F)) y { c.goes now with asks := false, fresh := true, next := addT (max c.tm now) (secT F) } ∧ OutA (w7.setRow w0.heap.size (raC SA DA sv.length sc ds.length dc F)) w0.heap.size (.slice SA sv.length sc) sv ∧ OutT (w7.setRow w0.heap.size (raC SA DA sv.length sc ds.length dc F)) w0.heap.size (.slice DA ds.length dc) ds ∧ Tn (fun k => k = y) w0 (w7.setRow w0.heap.size (raC SA DA sv.length sc ds.length dc F))) := Lib.hid (by
        have h := HA7.out
        have hcl := h.cl
        rw [HEQ.out] at hcl
        refine ⟨⟨(bk_setRow_other _ _ _ _ (by omega)).trans hcl.box, hcl.n64, hcl.t64, hcl.i24, hcl.s64, hcl.w22⟩, ?_, ?_, h.tn.setRow (Nat.le_refl _)⟩
        · exact OutA.mono (own_turnS h.hs fun k hk => bk_setRow_other _ _ _ _ (by have := (h.hs.lt k hk).1; omega)) (by omega)
        · exact OutT.mono (own_turnS h.hd fun k hk => bk_setRow_other _ _ _ _ (by have := (h.hd.lt k hk).1; omega)) (by omega))
      refine ret_two (cs := raC SA DA sv.length sc ds.length dc F) rfl rfl rfl rfl (by rw [bk_setRow_same, kr]; rfl) Try.underlying91 rfl (by rw [raC_size]; kernel_rfl) ?_
      obtain ⟨q1, q2, q3, q4⟩ := F9.out
      exact rrep_mk HSV.out.1 HSV.out.2 HFR.out q1 q2 q3 q4
end Go.Proofs.Ytfldoihindbdmaa

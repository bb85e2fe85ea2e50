/- Infos: the document answers: its names. -/
import Derived.Test.YtfldoihindbdmaaG13A
import Derived.Test.YtfldoihindbdmaaG10
import Derived.Deep.DeepCutAuto
import Derived.Deep.CutBlock
namespace Go.Proofs.Ytfldoihindbdmaa
open Go.RowKit
set_option maxRecDepth 100000
set_option maxHeartbeats 2000000
theorem labs_suf : ∀ (n : Nat) (b : List UInt8) (ls : List (List UInt8)) (t : List UInt8), b.length ≤ n → labs b = some (ls, t) → t <:+ b
  | _, [], _, _, _, h => by rw [labs_nil] at h; cases h
  | 0, x :: r, _, _, hn, _ => by simp at hn
  | n + 1, x :: r, ls, t, hn, h => by
    by_cases hx : x.toNat ≤ 63 ∧ x.toNat ≤ r.length
    · by_cases h0 : x.toNat = 0
      · rw [labs_end h0] at h
        cases h
        exact List.suffix_cons _ _
      · rw [labs_more hx.1 hx.2 h0] at h
        cases hl : labs (r.drop x.toNat) with
        | none => rw [hl] at h; cases h
        | some p =>
          rw [hl] at h
          simp only [Option.map_some] at h
          cases h
          have h1 := labs_suf n (r.drop x.toNat) p.1 p.2 (by rw [List.length_drop]; simp at hn; omega) hl
          exact (h1.trans (List.drop_suffix _ _)).trans (List.suffix_cons _ _)
    · rw [labs_bad hx] at h; cases h
theorem nms_one (b : List UInt8) : (oneR b = none ∧ nms b = []) ∨ ∃ s n, oneR b = some (s, n) ∧ nms b = s :: nms (b.drop n) ∧ 1 ≤ n ∧ n ≤ b.length := by
  unfold oneR
  cases hl : labs b with
  | none => exact .inl ⟨rfl, nms_none hl⟩
  | some p =>
    obtain ⟨ls, t⟩ := p
    have h1 := nms_some hl
    have h2 := labs_len hl
    have h3 := List.suffix_iff_eq_drop.1 (labs_suf _ b ls t (Nat.le_refl _) hl)
    by_cases hc : jn ls = [] ∨ 255 < (jn ls).length
    · rw [if_pos hc] at h1
      exact .inl ⟨by simp only; rw [if_pos hc], h1⟩
    · rw [if_neg hc] at h1
      exact .inr ⟨jn ls, b.length - t.length, by simp only; rw [if_neg hc], by rw [← h3]; exact h1, by omega, by omega⟩
theorem Ac.text {w0 w w5 w6 : World} {M n y ra : Nat} {C : Cl} {SA DA A' : Option Addr} {sc dc F c' : Nat} {sv ds : List (List UInt8)} {u : List UInt8} (h : Ac w0 w M n y ra C SA DA sc dc F sv ds) (b5 : Below w.heap.size w w5) (ho : OutT w6 n (.slice A' (ds.length + 1) c') (ds ++ [u])) (hg : w5.grownBy w6 (Value.slice DA ds.length dc).ownBlock) :
    Ac w0 (w6.setCell ⟨ra, 1, none⟩ (.slice A' (ds.length + 1) c')) M n y ra C SA A' sc c' F sv (ds ++ [u]) ∧ w6.frozen? ⟨ra, 1, none⟩ = false ∧ ra < w6.heap.size ∧ ∃ v, w6.cell? ⟨ra, 1, none⟩ = some v := by
  have h5 := h.below b5
  have o1 := h.o1; have o2 := h.o2; have o3 := h.o3; have o4 := h.o4
  have t : Tn (fun k => (Value.slice DA ds.length dc).ownBlock = some k) w5 w6 := Tn.grownG hg
  have hn : ∀ k, (Value.slice DA ds.length dc).ownBlock = some k → n ≤ k := fun k hk => (h5.hd.lt k hk).1
  have ka6 := t.keep (fun e => by have := hn _ e; omega) h5.ka
  have hl : (ds ++ [u]).length = ds.length + 1 := by simp
  have t2 : Tn (fun k => k = ra) w6 (w6.setCell ⟨ra, 1, none⟩ (.slice A' (ds.length + 1) c')) := (Tn.refl (fun k => k = ra) w6).set (.inl rfl)
  have hs6 : OutA w6 n (.slice SA sv.length sc) sv := own_turnS h5.hs fun k hk => t.old k (h5.hs.lt k hk).2 (fun e => own_neG h5.hd h5.hs (by decide) k e hk)
  refine ⟨⟨(h5.cl.keep t (fun e => by have := hn _ e; omega)).keep t2 (by omega), t2.keep (by omega) (t.keep (fun e => by have := hn _ e; omega) h5.kr), ?_, own_turnS hs6 fun k hk => t2.old k (hs6.lt k hk).2 (fun e => by have := (hs6.lt k hk).1; omega), ?_, (h5.tn.trans t fun k hk => .inr (by have := hn k hk; have := h5.o1; omega)).trans t2 fun k hk => .inr (by omega), h.o1, h.o2, h.o3, h.o4, by simpa using Nat.le_trans h5.o5 t.size⟩, bk_frozen ka6 1, bk_lt ka6, ⟨_, bk_cell ka6 1⟩⟩
  · rw [bk_setCell_same, ka6, hl]; rfl
  · rw [hl]
    exact own_turnS ho fun k hk => t2.old k (ho.lt k hk).2 (fun e => by have := (ho.lt k hk).1; omega)
theorem RO.keep {w w' : World} {m : Nat} {v : Value} {ol : List (Nat × List UInt8)} (h : RO w m v ol) (hk : ∀ k, v.ownBlock = some k → w'.heap[k]? = w.heap[k]?) (hb : Below m w w') : RO w' m v ol := by
  obtain ⟨vs, h1, h2⟩ := h
  refine ⟨vs, own_turnS h1 hk, fun i hi => ?_⟩
  obtain ⟨A, c, e1, e2, hr, hc⟩ := h2 i hi
  exact ⟨A, c, e1, e2, hr.below hb (Nat.le_refl _), hc⟩
theorem own_not {w : World} {n s m k r : Nat} {e t : TypeId} {v : Value} {xs : List Value} {c : Array Value} {fr : Nat × Nat} (h : w.ownsRow n e s v m xs) (hk : v.ownBlock = some k) (hr : bk w r = some (.cells c t fr)) (he : e ≠ t) : k ≠ r := fun hkr => by
  subst hkr
  rcases h.2 with ⟨q, _⟩ | ⟨g, cap, cur, q, _, hb, _⟩
  · rw [q] at hk; cases hk
  · rw [q] at hk; cases hk
    have hb' : bk w g = some (.cells cur e (0, 0)) := hb
    rw [hb'] at hr
    cases hr
    exact he rfl
theorem bk_setCell_heap (w : World) {k r i : Nat} {v : Value} (h : k ≠ r) : (w.setCell ⟨r, i, none⟩ v).heap[k]? = w.heap[k]? := bk_setCell_other _ _ _ _ _ h
theorem rtail16 (w0 wr : World) (M n y ra now lc sc : Nat) (c C : Cl) (LA SA : Option Addr) (sv : List (List UInt8)) (ol : List (Nat × List UInt8)) (hA : Ac w0 wr M n y ra C SA none sc 0 86400 sv []) (hro : RO wr M (.slice LA ol.length lc) ol ∧ ol.length < 2 ^ 30) (hC : C = c.goes now) (hT : max c.tm now ≤ far) (hsv : sv = srv' (ol.lookup 23)) (hlen : ∀ k d, ol.lookup k = some d → d.length < 2 ^ 28)
    (u1 u2 u3 u4 u5 u7 u9 u10 u11 u12 u13 u15 u16 u17 u18 u19 u20 u21 u22 u23 u24 u25 u26 u27 u28 u29 u30 u31 u32 u33 u34 u35 u36 u37 u38 u39 u40 u41 u42 u43 u44 u45 u46 u47 u48 u49 u50 u51 u52 u53 u54 u55 u56 u57 u58 u59 u60 u61 u62 u63 u64 u65 u66 u67 u68 u69 u70 u71 u72 u73 u74 u75 u76 u77 u78 u79 u80 u81 u82 u83 u84 u85 u86 u87 u88 u89 u90 u91 u92 u93 u94 u95 u96 u97 u98 u99 u100 u101 u102 u103 u104 u105 u106 u107 u108 u109 u110 u111 u112 u113 u114 u115 u116 u117 u118 u119 u120 u121 u122 u123 u124 u125 u126 u127 u128 u129 u130 u131 u132 u133 u134 u135 u136 u137 u138 u139 u140 u141 u142 u143 u144 u145 u146 u147 u148 u149 u150 u151 u152 u153 u154 u155 u156 u157 u158 u159 u160 u161 u162 u163 u164 u165 u166 u167 u168 u169 u170 u171 u172 u173 u174 u175 u176 u177 u178 u179 u180 u181 u182 u183 u184 u185 u186 u187 u188 u189 u190 u191 u192 u193 u194 u195 u196 u197 u198 u199 u200 u201 u202 u203 u204 u205 u206 u207 u208 u209 u210 u211 u212 u213 u214 u215 u216 u217 : Value) :
    Code.wp Try.prog (rtail 16) (bodyPost Try.prog Try.f39 fun e w' => RRep w0 y c now e w' (some ol)) ⟨#[.pointer (some ⟨y, 0, none⟩), u1, u2, u3, u4, u5, .pointer (some ⟨w0.heap.size, 0, none⟩), u7, .slice LA ol.length lc, u9, u10, u11, u12, u13, .pointer (some ⟨ra, 0, none⟩), u15, u16, u17, u18, u19, u20, u21, u22, u23, u24, u25, u26, u27, u28, u29, u30, u31, u32, u33, u34, u35, u36, u37, u38, u39, u40, u41, u42, u43, u44, u45, u46, u47, u48, u49, u50, u51, u52, u53, u54, u55, u56, u57, u58, u59, u60, u61, u62, u63, u64, u65, u66, u67, u68, u69, u70, u71, u72, u73, u74, u75, u76, u77, u78, u79, u80, u81, u82, u83, u84, u85, u86, u87, u88, u89, u90, u91, u92, u93, u94, u95, u96, u97, u98, u99, u100, u101, u102, u103, u104, u105, u106, u107, u108, u109, u110, u111, u112, u113, u114, u115, u116, u117, u118, u119, u120, u121, u122, u123, u124, u125, u126, u127, u128, u129, u130, u131, u132, u133, u134, u135, u136, u137, u138, u139, u140, u141, u142, u143, u144, u145, u146, u147, u148, u149, u150, u151, u152, u153, u154, u155, u156, u157, u158, u159, u160, u161, u162, u163, u164, u165, u166, u167, u168, u169, u170, u171, u172, u173, u174, u175, u176, u177, u178, u179, u180, u181, u182, u183, u184, u185, u186, u187, u188, u189, u190, u191, u192, u193, u194, u195, u196, u197, u198, u199, u200, u201, u202, u203, u204, u205, u206, u207, u208, u209, u210, u211, u212, u213, u214, u215, u216, u217], []⟩ wr := by
  have HA := Lib.hid hA
  have HRO := Lib.hid hro
  have HCC := Lib.hid hC
  have HTF := Lib.hid hT
  have HSV := Lib.hid hsv
  have CF := Lib.hid (rfind_any M 24 LA lc ol wr hro.1 (by decide) hro.2)
  have HLN := Lib.hid (hlen 24)
  clear hA hro hC hT hsv hlen
  conv => arg 2; whnf
  go_wp2_with fail
  refine CF.out.mono ?_
  rintro e w3' ⟨hf, rfl⟩
  obtain ⟨A, cc, rfl, hr, hlc, hcc⟩ := hf.case
  clear hf CF
  obtain ⟨d0, hd0⟩ : ∃ d, d = (ol.lookup 24).getD [] := ⟨_, rfl⟩
  obtain ⟨i24, hi24⟩ : ∃ L, L = (ol.lookup 24).isSome := ⟨_, rfl⟩
  rw [← hd0] at hr hlc
  rw [← hd0, ← hi24]
  have HD0 : Hid (dnm (ol.lookup 24) = nms d0 ∧ d0.length < 2 ^ 28) := Lib.hid ⟨by unfold dnm; rw [hd0], by
    rw [hd0]
    cases hk : ol.lookup 24 with
    | none => show 0 < _; decide
    | some d => exact HLN.out d hk⟩
  have HR := Lib.hid (And.intro hr (And.intro hlc hcc))
  clear hd0 hi24 hr hlc hcc HLN
  go_upto_block 2 with fail
  go_cut [18, 20, 21] (fun _ _ _ wx => ∃ DA dc, Hid (Ac w0 wx M n y ra C SA DA sc dc 86400 sv (nms d0)) ∧ Hid (RO wx M (.slice LA ol.length lc) ol))
  case first =>
    go_wp2_with fail
    go_loopw [18, 20, 21] (fun dv _ _ wq => ∃ (rest : List UInt8) (A1 : Option Addr) (c1 : Nat) (ds : List (List UInt8)) (DA : Option Addr) (dc : Nat), dv = .slice A1 rest.length c1 ∧ Hid (Rd wq M A1 rest ∧ rest.length ≤ c1 ∧ c1 < 2 ^ 63) ∧ Hid (Ac w0 wq M n y ra C SA DA sc dc 86400 sv ds) ∧ Hid (RO wq M (.slice LA ol.length lc) ol) ∧ Hid (nms d0 = ds ++ nms rest) ∧ Hid (ds.length + rest.length < 2 ^ 28)) (fun dv _ _ _ => lenV dv)
    case atStart => exact ⟨d0, A, cc, [], none, 0, rfl, HR, HA, Lib.hid HRO.out.1, Lib.hid rfl, Lib.hid (by simpa using HD0.out.2)⟩
    case round =>
      clear HR HA HRO
      obtain ⟨rest, A1, c1, ds, DA, dc, rfl, HR, HA, HRO, HN, HL⟩ := hrel
      obtain ⟨L, hL⟩ : ∃ L, L = rest.length := ⟨_, rfl⟩
      have o1 := HA.out.o1; have o2 := HA.out.o2; have o3 := HA.out.o3; have o4 := HA.out.o4
      have HMW : Hid (M ≤ wr.heap.size ∧ n ≤ wr.heap.size) := Lib.hid ⟨by have := HA.out.o5; omega, HA.out.o5⟩
      have CO := Lib.hid (rone_any A1 rest c1 wr (HR.out.1.mono HMW.out.1) HR.out.2.1 (by have := HL.out; omega))
      rw [← hL] at CO ⊢
      have HLL := Lib.hid hL
      clear hL
      go_wp2_with fail
      refine CO.out.mono ?_
      rintro e w3 ⟨hone, rfl⟩
      clear CO
      rcases nms_one rest with ⟨h1, h2⟩ | ⟨s, k, h1, h2, h3, h4⟩
      · rw [h1] at hone
        obtain rfl := hone
        have HE : Hid (ds = nms d0) := Lib.hid (by rw [HN.out, h2, List.append_nil])
        clear h1 h2
        go_wp2_with fail
        go_meet
        refine ⟨DA, dc, ?_, HRO⟩
        rw [← HE.out]
        exact HA
      · rw [h1] at hone
        replace hone : e = .returned (.tuple #[.string ⟨s.toArray⟩, .int .i64 (k : Int)]) := hone
        subst hone
        have n0 : ((k : Int) == 0) = false := beq_eq_false_iff_ne.2 (by omega)
        have HK := Lib.hid (And.intro h2 (And.intro h3 (show k ≤ L by rw [HLL.out]; exact h4)))
        have e1 : wr.cell? ⟨ra, 1, none⟩ = some (.slice DA ds.length dc) := bk_cell HA.out.ka 1
        have la := bk_lt HA.out.ka
        clear h1 h2 h3 h4
        have b5 : Below wr.heap.size wr (wr.alloc (.cells #[.string ⟨s.toArray⟩] 9 (0, 0))) := (by (repeat (first | exact Below.refl _ _ | assumption | refine Below.drew ?_ | refine bdrewN ?_ _ | refine Below.alloc ?_ (by first | omega | (simp <;> omega) | (simp only [World.size_alloc] <;> omega)) _ | refine below_setRow ?_ (by first | omega | (simp <;> omega)) _ | refine Below.setCell ?_ (by first | omega | (simp <;> omega)) _)))
        have HD5 := Lib.hid (own_below HA.out.hd b5)
        have HK5 := Lib.hid (bk_cell (bk_alloc_at wr (.cells #[.string ⟨s.toArray⟩] 9 (0, 0)) _ rfl) 0)
        have B5 := Lib.hid b5
        clear b5
        go_wp2_with (at_builtin; refine wpList_snocT rfl _ _ rfl n (.slice DA ds.length dc) ds rfl HD5.out ⟨wr.heap.size, 0, none⟩ s rfl HK5.out (by have := HMW.out.2; simp; omega) (by have := HL.out; omega) ?_)
        intro A6 c6 w6 ho6 hg6 _
        obtain ⟨g1, fr6, l6, v6, e6⟩ := HA.out.text B5.out ho6 hg6
        have HA7 := Lib.hid g1
        have b7 : Below ra w6 (w6.setCell ⟨ra, 1, none⟩ (.slice A6 (ds.length + 1) c6)) := (Below.refl _ _).setCell (p := ⟨ra, 1, none⟩) (Nat.le_refl _) _
        have b57 : Below M wr (w6.setCell ⟨ra, 1, none⟩ (.slice A6 (ds.length + 1) c6)) := ((B5.out.mono HMW.out.1).grown hg6 (Nat.le_trans HMW.out.1 B5.out.size) (fun k hk => by have h1 := (HD5.out.lt k hk).1; have h2 := HA.out.o3; have h3 := HA.out.o4; omega)).trans (b7.mono HA.out.o3)
        have B57 := Lib.hid b57
        have HRO7 := Lib.hid (HRO.out.keep (fun q hq => by
          obtain ⟨vs, hown, _⟩ := HRO.out
          have hne : q ≠ ra := own_not hown hq HA.out.ka (by decide)
          have h1 := (hown.lt q hq).2
          have t := Tn.grownG hg6
          exact (bk_setCell_heap _ hne).trans ((t.old q (Nat.lt_of_lt_of_le h1 B5.out.size) (fun e => own_neG HD5.out (own_below hown B5.out) (by decide) q e hq)).trans (B5.out.block q h1))) b57)
        have HN7 : Hid (nms d0 = (ds ++ [s]) ++ nms (rest.drop k)) := Lib.hid (by rw [HN.out, HK.out.1, List.append_assoc]; rfl)
        have hrl : (rest.drop k).length = L - k := by rw [List.length_drop, HLL.out]
        have HL7 : Hid ((ds ++ [s]).length + (rest.drop k).length < 2 ^ 28) := Lib.hid (by have h1 := HL.out; have h2 := HK.out.2; have h3 := HLL.out; rw [hrl, List.length_append]; simp only [List.length_cons, List.length_nil]; omega)
        have HRL := Lib.hid hrl
        have hkL := HK.out.2.2
        have hLc : L ≤ c1 := by rw [HLL.out]; exact HR.out.2.1
        have HLP : Hid (0 < rest.length) := Lib.hid (by have := HLL.out; have := HK.out.2; omega)
        obtain ⟨bb, oo, rfl, hbb, hcl⟩ := HR.out.1 HLP.out
        clear ho6 hg6 g1 b7 b57 hrl hbb hcl HD5 HK5 B5 e1 la
        by_cases hck : c1 = k
        · have HRN : Hid (Rd (w6.setCell ⟨ra, 1, none⟩ (.slice A6 (ds.length + 1) c6)) M (some ⟨bb, oo, none⟩) (rest.drop k) ∧ (rest.drop k).length ≤ 0 ∧ (0 : Nat) < 2 ^ 63) := Lib.hid (by
            have h1 : rest.drop k = [] := List.drop_of_length_le (by have := HLL.out; omega)
            rw [h1]; exact ⟨Rd.nil, Nat.le_refl _, by decide⟩)
          have HCK := Lib.hid hck
          clear hck
          go_upto_region 20 with fail
          clear fr6 l6 e6
          change Code.wp _ _ _ _ (w6.setCell ⟨ra, 1, none⟩ (.slice A6 (ds.length + 1) c6))
          generalize w6.setCell ⟨ra, 1, none⟩ (.slice A6 (ds.length + 1) c6) = w7 at *
          have hck := HCK.out
          subst hck
          go_wp2_with fail
          refine ⟨⟨rest.drop c1, some ⟨bb, oo, none⟩, 0, ds ++ [s], A6, c6, ?_, HRN, HA7, HRO7, HN7, HL7⟩, ?_⟩
          · rw [HRL.out, show L - c1 = 0 by omega]
          · show 0 < L
            have := HLL.out; have := HLP.out; omega
        · have HRN : Hid (Rd (w6.setCell ⟨ra, 1, none⟩ (.slice A6 (ds.length + 1) c6)) M (some ⟨bb, oo + k, none⟩) (rest.drop k) ∧ (rest.drop k).length ≤ c1 - k ∧ c1 - k < 2 ^ 63) := Lib.hid ⟨(rd_off (HR.out.1) k).below B57.out (Nat.le_refl _), by rw [HRL.out]; omega, by have := HR.out.2.2; omega⟩
          have HCK := Lib.hid hck
          clear hck
          go_upto_region 20 with fail
          clear fr6 l6 e6
          change Code.wp _ _ _ _ (w6.setCell ⟨ra, 1, none⟩ (.slice A6 (ds.length + 1) c6))
          generalize w6.setCell ⟨ra, 1, none⟩ (.slice A6 (ds.length + 1) c6) = w7 at *
          have hck := HCK.out
          go_wp2_with fail
          refine ⟨⟨rest.drop k, some ⟨bb, oo + k, none⟩, c1 - k, ds ++ [s], A6, c6, ?_, HRN, HA7, HRO7, HN7, HL7⟩, ?_⟩
          · rw [HRL.out]
          · show L - k < L
            have := HLL.out; have := HLP.out; have := HK.out.2.1; omega
  obtain ⟨DA, dc, HA2, HRO2⟩ := hcut
  rename_i hkk
  apply hkk
  exact rtail21 w0 _ M n y ra now lc sc dc c C LA SA DA sv (nms d0) ol HA2.out ⟨HRO2.out, HRO.out.2⟩ HCC.out HTF.out ⟨HSV.out, HD0.out.1.symm⟩ _ _ _ _ _ _ _ _ _ _ _ _ _ _ _ _ _ _ _ _ _ _ _ _ _ _ _ _ _ _ _ _ _ _ _ _ _ _ _ _ _ _ _ _ _ _ _ _ _ _ _ _ _ _ _ _ _ _ _ _ _ _ _ _ _ _ _ _ _ _ _ _ _ _ _ _ _ _ _ _ _ _ _ _ _ _ _ _ _ _ _ _ _ _ _ _ _ _ _ _ _ _ _ _ _ _ _ _ _ _ _ _ _ _ _ _ _ _ _ _ _ _ _ _ _ _ _ _ _ _ _ _ _ _ _ _ _ _ _ _ _ _ _ _ _ _ _ _ _ _ _ _ _ _ _ _ _ _ _ _ _ _ _ _ _ _ _ _ _ _ _ _ _ _ _ _ _ _ _ _ _ _ _ _ _ _ _ _ _ _ _ _ _ _ _ _ _ _ _ _ _ _ _ _ _ _ _ _ _ _ _ _ _ _
end Go.Proofs.Ytfldoihindbdmaa

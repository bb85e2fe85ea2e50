/- Infos: the document answers: its servers. -/
import Derived.Test.YtfldoihindbdmaaG13B
namespace Go.Proofs.Ytfldoihindbdmaa
open Go.RowKit
set_option maxRecDepth 100000
set_option maxHeartbeats 2000000
@[go_sem ↓] theorem ldRAd (dst : Option Tmp) (x : Operand) (t : TypeId) (pos : String) (af : Array Edge) (g : Option (Nat × Bool)) (a : Act) (w : World) (K : Act → World → Prop) (Q : Exit → Act → World → Prop) :
    Oper.wp Try.prog ⟨dst, .load 110 x, t, pos, af, g⟩ a w K Q = ldPtr (wpHid Try.prog ⟨dst, .load 110 x, t, pos, af, g⟩ a w K Q) 16 w (fun c => K (a.put dst (.agg c)) w) (a.eval x) :=
  wp_load_bk 110 16 _ Try.underlying110 rfl (by kernel_rfl) dst x t pos af g a w K Q
@[go_sem ↓] theorem stRAd (dst : Option Tmp) (x y : Operand) (t : TypeId) (pos : String) (af : Array Edge) (g : Option (Nat × Bool)) (a : Act) (w : World) (K : Act → World → Prop) (Q : Exit → Act → World → Prop) :
    Oper.wp Try.prog ⟨dst, .store 110 x y, t, pos, af, g⟩ a w K Q = stPtr (wpHid Try.prog ⟨dst, .store 110 x y, t, pos, af, g⟩ a w K Q) 16 w (fun w' => K (a.put dst undef) w') (a.eval x) (a.eval y) :=
  wp_store_bk 110 16 (by kernel_rfl) dst x y t pos af g a w K Q
@[go_sem ↓] theorem qlRAd (dst : Option Tmp) (x : Operand) (t : TypeId) (pos : String) (af : Array Edge) (g : Option (Nat × Bool)) (a : Act) (m : Nat) (W : World) (K : Act → Prop) :
    Oper.quiet Try.prog ⟨dst, .load 110 x, t, pos, af, g⟩ a (fun w' => ∃ x : Later m W, w' = x.w) K =
      ldLater (quietHid Try.prog ⟨dst, .load 110 x, t, pos, af, g⟩ a (fun w' => ∃ x : Later m W, w' = x.w) K) m 16 W (fun c => K (a.put dst (.agg c))) (a.eval x) :=
  quiet_load_bk 110 16 _ Try.underlying110 rfl (by kernel_rfl) dst x t pos af g a m W K
@[go_sem ↓] theorem rcpBytes (dst : Option Tmp) (x y : Operand) (t : TypeId) (pos : String) (af : Array Edge) (gd : Option (Nat × Bool)) (a : Act) (w : World) (K : Act → World → Prop) (Q : Exit → Act → World → Prop) :
    Oper.wp Try.prog ⟨dst, .call { callee := .builtin .copy, args := #[x, y], argTypes := #[22, 22] }, t, pos, af, gd⟩ a w K Q =
      cpPtr (wpHid Try.prog ⟨dst, .call { callee := .builtin .copy, args := #[x, y], argTypes := #[22, 22] }, t, pos, af, gd⟩ a w K Q) w (fun n w' => K (a.put dst (.int .i64 n)) w') (a.eval x) (a.eval y) :=
  wp_copy_bk 22 22 5 Try.underlying22 (by kernel_rfl) dst x y t pos af gd a w K Q
theorem appA : App1 33 110 (.agg zero16) 16 16 := ⟨Try.underlying33, by kernel_rfl, rfl, by decide, by decide⟩
theorem spl_all (R : List UInt8) (h : R.length = 16) : spl zero16.toList 0 (List.map B R) = (List.map B R).toArray := by
  unfold spl
  rw [List.take_zero, List.nil_append, List.length_map, h, List.drop_of_length_le (by show zero16.toList.length ≤ 0 + 16; decide), List.append_nil]
theorem srv_end (d0 : List UInt8) (j : Nat) (h : 16 * j ≤ d0.length) (h2 : d0.length < 16 * (j + 1)) : svf d0 (List.range ((d0.length + 15) / 16)) = svf d0 (List.range j) := by
  by_cases e : (d0.length + 15) / 16 = j
  · rw [e]
  · have e2 : (d0.length + 15) / 16 = j + 1 := by omega
    rw [e2, List.range_succ, svf_snoc, if_neg (by omega), List.append_nil]
theorem srv_next (d0 : List UInt8) (j : Nat) (h : 16 * (j + 1) ≤ d0.length) : svf d0 (List.range (j + 1)) = svf d0 (List.range j) ++ [(d0.drop (16 * j)).take 16] := by
  rw [List.range_succ, svf_snoc, if_pos h]
theorem Ac.addr {w0 w w5 w6 : World} {M n y ra : Nat} {C : Cl} {SA DA A' : Option Addr} {sc dc F c' : Nat} {sv ds : List (List UInt8)} {u : List UInt8} (h : Ac w0 w M n y ra C SA DA sc dc F sv ds) (b5 : Below w.heap.size w w5) (ho : OutA w6 n (.slice A' (sv.length + 1) c') (sv ++ [u])) (hg : w5.grownBy w6 (Value.slice SA sv.length sc).ownBlock) :
    Ac w0 (w6.setCell ⟨ra, 0, none⟩ (.slice A' (sv.length + 1) c')) M n y ra C A' DA c' dc F (sv ++ [u]) ds ∧ w6.frozen? ⟨ra, 0, none⟩ = false ∧ ra < w6.heap.size ∧ ∃ v, w6.cell? ⟨ra, 0, none⟩ = some v := by
  have h5 := h.below b5
  have o1 := h.o1; have o2 := h.o2; have o3 := h.o3; have o4 := h.o4
  have t : Tn (fun k => (Value.slice SA sv.length sc).ownBlock = some k) w5 w6 := Tn.grownG hg
  have hn : ∀ k, (Value.slice SA sv.length sc).ownBlock = some k → n ≤ k := fun k hk => (h5.hs.lt k hk).1
  have ka6 := t.keep (fun e => by have := hn _ e; omega) h5.ka
  have hl : (sv ++ [u]).length = sv.length + 1 := by simp
  have t2 : Tn (fun k => k = ra) w6 (w6.setCell ⟨ra, 0, none⟩ (.slice A' (sv.length + 1) c')) := (Tn.refl (fun k => k = ra) w6).set (.inl rfl)
  have hd6 : OutT w6 n (.slice DA ds.length dc) ds := own_turnS h5.hd fun k hk => t.old k (h5.hd.lt k hk).2 (fun e => own_neG h5.hs h5.hd (by decide) k e hk)
  refine ⟨⟨(h5.cl.keep t (fun e => by have := hn _ e; omega)).keep t2 (by omega), t2.keep (by omega) (t.keep (fun e => by have := hn _ e; omega) h5.kr), ?_, ?_, own_turnS hd6 fun k hk => t2.old k (hd6.lt k hk).2 (fun e => by have := (hd6.lt k hk).1; omega), (h5.tn.trans t fun k hk => .inr (by have := hn k hk; have := h5.o1; omega)).trans t2 fun k hk => .inr (by omega), h.o1, h.o2, h.o3, h.o4, by simpa using Nat.le_trans h5.o5 t.size⟩, bk_frozen ka6 0, bk_lt ka6, ⟨_, bk_cell ka6 0⟩⟩
  · rw [bk_setCell_same, ka6, hl]; rfl
  · rw [hl]
    exact own_turnS ho fun k hk => t2.old k (ho.lt k hk).2 (fun e => by have := (ho.lt k hk).1; omega)
theorem Ac.past {F0 : Nat → Prop} {w0 w w' : World} {M n y ra : Nat} {C : Cl} {SA DA : Option Addr} {sc dc F : Nat} {sv ds : List (List UInt8)} (h : Ac w0 w M n y ra C SA DA sc dc F sv ds) (t : Tn F0 w w') (hF : ∀ k, F0 k → n ≤ k) (hs : ∀ k, (Value.slice SA sv.length sc).ownBlock = some k → ¬ F0 k) (hd : ∀ k, (Value.slice DA ds.length dc).ownBlock = some k → ¬ F0 k) : Ac w0 w' M n y ra C SA DA sc dc F sv ds := by
  have o1 := h.o1; have o2 := h.o2; have o3 := h.o3; have o4 := h.o4
  exact ⟨h.cl.keep t (fun e => by have := hF _ e; omega), t.keep (fun e => by have := hF _ e; omega) h.kr, t.keep (fun e => by have := hF _ e; omega) h.ka, own_turnS h.hs fun k hk => t.old k (h.hs.lt k hk).2 (hs k hk), own_turnS h.hd fun k hk => t.old k (h.hd.lt k hk).2 (hd k hk), h.tn.trans t fun k hk => .inr (by have := hF k hk; omega), h.o1, h.o2, h.o3, h.o4, Nat.le_trans h.o5 t.size⟩
theorem rtail10 (w0 wr : World) (M n y ra now lc : Nat) (c C : Cl) (LA : Option Addr) (ol : List (Nat × List UInt8)) (hA : Ac w0 wr M n y ra C none none 0 0 86400 [] []) (hro : RO wr M (.slice LA ol.length lc) ol ∧ ol.length < 2 ^ 30) (hC : C = c.goes now) (hT : max c.tm now ≤ far) (hlen : ∀ k d, ol.lookup k = some d → d.length < 2 ^ 28)
    (u1 u2 u3 u4 u5 u7 u9 u10 u11 u12 u13 u15 u16 u17 u18 u19 u20 u21 u22 u23 u24 u25 u26 u27 u28 u29 u30 u31 u32 u33 u34 u35 u36 u37 u38 u39 u40 u41 u42 u43 u44 u45 u46 u47 u48 u49 u50 u51 u52 u53 u54 u55 u56 u57 u58 u59 u60 u61 u62 u63 u64 u65 u66 u67 u68 u69 u70 u71 u72 u73 u74 u75 u76 u77 u78 u79 u80 u81 u82 u83 u84 u85 u86 u87 u88 u89 u90 u91 u92 u93 u94 u95 u96 u97 u98 u99 u100 u101 u102 u103 u104 u105 u106 u107 u108 u109 u110 u111 u112 u113 u114 u115 u116 u117 u118 u119 u120 u121 u122 u123 u124 u125 u126 u127 u128 u129 u130 u131 u132 u133 u134 u135 u136 u137 u138 u139 u140 u141 u142 u143 u144 u145 u146 u147 u148 u149 u150 u151 u152 u153 u154 u155 u156 u157 u158 u159 u160 u161 u162 u163 u164 u165 u166 u167 u168 u169 u170 u171 u172 u173 u174 u175 u176 u177 u178 u179 u180 u181 u182 u183 u184 u185 u186 u187 u188 u189 u190 u191 u192 u193 u194 u195 u196 u197 u198 u199 u200 u201 u202 u203 u204 u205 u206 u207 u208 u209 u210 u211 u212 u213 u214 u215 u216 u217 : Value) :
    Code.wp Try.prog (rtail 10) (bodyPost Try.prog Try.f39 fun e w' => RRep w0 y c now e w' (some ol)) ⟨#[.pointer (some ⟨y, 0, none⟩), u1, u2, u3, u4, u5, .pointer (some ⟨w0.heap.size, 0, none⟩), u7, .slice LA ol.length lc, u9, u10, u11, u12, u13, .pointer (some ⟨ra, 0, none⟩), u15, u16, u17, u18, u19, u20, u21, u22, u23, u24, u25, u26, u27, u28, u29, u30, u31, u32, u33, u34, u35, u36, u37, u38, u39, u40, u41, u42, u43, u44, u45, u46, u47, u48, u49, u50, u51, u52, u53, u54, u55, u56, u57, u58, u59, u60, u61, u62, u63, u64, u65, u66, u67, u68, u69, u70, u71, u72, u73, u74, u75, u76, u77, u78, u79, u80, u81, u82, u83, u84, u85, u86, u87, u88, u89, u90, u91, u92, u93, u94, u95, u96, u97, u98, u99, u100, u101, u102, u103, u104, u105, u106, u107, u108, u109, u110, u111, u112, u113, u114, u115, u116, u117, u118, u119, u120, u121, u122, u123, u124, u125, u126, u127, u128, u129, u130, u131, u132, u133, u134, u135, u136, u137, u138, u139, u140, u141, u142, u143, u144, u145, u146, u147, u148, u149, u150, u151, u152, u153, u154, u155, u156, u157, u158, u159, u160, u161, u162, u163, u164, u165, u166, u167, u168, u169, u170, u171, u172, u173, u174, u175, u176, u177, u178, u179, u180, u181, u182, u183, u184, u185, u186, u187, u188, u189, u190, u191, u192, u193, u194, u195, u196, u197, u198, u199, u200, u201, u202, u203, u204, u205, u206, u207, u208, u209, u210, u211, u212, u213, u214, u215, u216, u217], []⟩ wr := by
  have HA := Lib.hid hA
  have HRO := Lib.hid hro
  have HCC := Lib.hid hC
  have HTF := Lib.hid hT
  have CF := Lib.hid (rfind_any M 23 LA lc ol wr hro.1 (by decide) hro.2)
  have HLN := Lib.hid hlen
  clear hA hro hC hT hlen
  conv => arg 2; whnf
  go_wp2_with fail
  refine CF.out.mono ?_
  rintro e w3' ⟨hf, rfl⟩
  obtain ⟨A, cc, rfl, hr, hlc, hcc⟩ := hf.case
  clear hf CF
  obtain ⟨d0, hd0⟩ : ∃ d, d = (ol.lookup 23).getD [] := ⟨_, rfl⟩
  obtain ⟨i23, hi23⟩ : ∃ L, L = (ol.lookup 23).isSome := ⟨_, rfl⟩
  rw [← hd0] at hr hlc
  rw [← hd0, ← hi23]
  have HD0 : Hid (srv' (ol.lookup 23) = svf d0 (List.range ((d0.length + 15) / 16)) ∧ d0.length < 2 ^ 28) := Lib.hid ⟨by unfold srv'; rw [hd0], by
    rw [hd0]
    cases hk : ol.lookup 23 with
    | none => show 0 < _; decide
    | some d => exact HLN.out 23 d hk⟩
  have HR := Lib.hid (And.intro hr (And.intro hlc hcc))
  clear hd0 hi23 hr hlc hcc
  go_upto_block 0 with fail
  go_cut [15, 17] (fun _ _ wx => ∃ SA sc, Hid (Ac w0 wx M n y ra C SA none sc 0 86400 (srv' (ol.lookup 23)) []) ∧ Hid (RO wx M (.slice LA ol.length lc) ol))
  case first =>
    go_wp2_with fail
    go_loopw [15, 17] (fun dv _ wq => ∃ (j : Nat) (rest : List UInt8) (A1 : Option Addr) (c1 : Nat) (sv : List (List UInt8)) (SA : Option Addr) (sc : Nat), dv = .slice A1 rest.length c1 ∧ Hid (Rd wq M A1 rest ∧ rest.length ≤ c1 ∧ c1 < 2 ^ 63) ∧ Hid (Ac w0 wq M n y ra C SA none sc 0 86400 sv []) ∧ Hid (RO wq M (.slice LA ol.length lc) ol) ∧ Hid (rest = d0.drop (16 * j) ∧ 16 * j ≤ d0.length ∧ sv = svf d0 (List.range j))) (fun dv _ _ => lenV dv)
    case atStart => exact ⟨0, d0, A, cc, [], none, 0, rfl, HR, HA, Lib.hid HRO.out.1, Lib.hid ⟨by simp, by simp, rfl⟩⟩
    case round =>
      clear HR HA HRO
      obtain ⟨j, rest, A1, c1, sv, SA, sc, rfl, HR, HA, HRO, HJ⟩ := hrel
      obtain ⟨L, hL⟩ : ∃ L, L = rest.length := ⟨_, rfl⟩
      have o1 := HA.out.o1; have o2 := HA.out.o2; have o3 := HA.out.o3; have o4 := HA.out.o4
      have HMW : Hid (M ≤ wr.heap.size ∧ n ≤ wr.heap.size) := Lib.hid ⟨by have := HA.out.o5; omega, HA.out.o5⟩
      rw [← hL]
      have HLL : Hid (L = rest.length ∧ L = d0.length - 16 * j) := Lib.hid ⟨hL, by rw [hL, HJ.out.1, List.length_drop]⟩
      clear hL
      by_cases h16 : L < 16
      · have d1 : decide ((16 : Int) ≤ (L : Int)) = false := by simp; omega
        have d1' : decide (16 ≤ L) = false := by simp; omega
        have HE : Hid (sv = srv' (ol.lookup 23)) := Lib.hid (by rw [HD0.out.1, srv_end d0 j HJ.out.2.1 (by have := HLL.out.2; omega)]; exact HJ.out.2.2)
        clear h16
        go_wp2_with fail
        go_meet
        refine ⟨SA, sc, ?_, HRO⟩
        rw [← HE.out]
        exact HA
      · have d1 : decide ((16 : Int) ≤ (L : Int)) = true := by simp; omega
        have d1' : decide (16 ≤ L) = true := by simp; omega
        obtain ⟨bb, oo, rfl, hbb, hcl⟩ := HR.out.1 (by have := HLL.out.1; omega)
        obtain ⟨cs, tt, fr, hbk, hsz, hxt⟩ := Rd.obj HR.out.1 (by have := HLL.out.1; omega)
        have hx16 := hxt 0 16 (by have := HLL.out.1; omega)
        rw [Nat.add_zero, List.drop_zero] at hx16
        have HL16 : Hid (16 ≤ L ∧ L ≤ c1) := Lib.hid ⟨by omega, by have := HLL.out.1; have := HR.out.2.1; omega⟩
        have hb5 : Below wr.heap.size wr (wr.alloc (.cells zero16 110 (0, 0))) := (by (repeat (first | exact Below.refl _ _ | assumption | refine Below.drew ?_ | refine bdrewN ?_ _ | refine Below.alloc ?_ (by first | omega | (simp <;> omega) | (simp only [World.size_alloc] <;> omega)) _ | refine below_setRow ?_ (by first | omega | (simp <;> omega)) _ | refine Below.setCell ?_ (by first | omega | (simp <;> omega)) _)))
        have kg := bk_alloc_at wr (.cells zero16 110 (0, 0)) _ rfl
        obtain ⟨g1, hg1⟩ : ∃ g, g = wr.heap.size := ⟨_, rfl⟩
        rw [← hg1] at kg
        have HG1 := Lib.hid hg1
        have kb := bk_keep hb5 (bk_lt hbk) hbk
        have HA5 := Lib.hid (HA.out.below hb5)
        have HRO5 := Lib.hid (HRO.out.below hb5 HMW.out.1)
        have HB5 := Lib.hid hb5
        have hgb : g1 ≠ bb := by have := bk_lt hbk; omega
        have HSL : Hid (∀ k, (Value.slice SA sv.length sc).ownBlock = some k → k < g1) := Lib.hid fun k hk => by rw [HG1.out]; exact (HA.out.hs.lt k hk).2
        have HOL : Hid (∀ k, (Value.slice LA ol.length lc).ownBlock = some k → k < g1) := Lib.hid fun k hk => by rw [HG1.out]; obtain ⟨vs, ho, _⟩ := HRO.out; exact (ho.lt k hk).2
        have HSZ := Lib.hid hsz
        clear hbb hcl hxt hb5 hbk HA HRO hsz
        go_upto_region 13 with fail
        change Code.wp _ _ _ _ (wr.alloc (.cells zero16 110 (0, 0)))
        rw [← hg1]
        clear hg1
        generalize wr.alloc (.cells zero16 110 (0, 0)) = w5 at *
        have lg := bk_lt kg
        have lb := bk_lt kb
        have hsz := HSZ.out
        have hLL := HLL.out.1
        have h16' := HL16.out
        have i16c : (16 : Int) ≤ (c1 : Int) := by omega
        refine wp_region_later_tail (w5.heap.size) 3 (by kernel_rfl) (by kernel_rfl) ?_
        simp only [List.take_succ_cons, List.take_zero, List.drop_succ_cons, List.drop_zero]
        repeat (go_big_quiet_step ((fail)))
        (first | refine wpQuiet_nil ?_ | (go_big_quiet_want; (try go_big_quiet_op); trace_state; fail))
        intro w6 hw'
        have q6 := later_elim hw'
        clear hw'
        have HA6 := Lib.hid (HA5.out.below q6)
        have HRO6 := Lib.hid (HRO5.out.below q6 (Nat.le_trans HMW.out.1 HB5.out.size))
        have HB6 := Lib.hid (HB5.out.trans (q6.mono HB5.out.size))
        have kg6 := bk_keep q6 lg kg
        have kb6 := bk_keep q6 lb kb
        obtain ⟨R16, hR16⟩ : ∃ R, R = rest.take 16 := ⟨_, rfl⟩
        have hRl : R16.length = 16 := by rw [hR16, List.length_take]; omega
        rw [← hR16] at hx16
        have hspl := spl_all R16 hRl
        have HR16 := Lib.hid (And.intro hR16 hRl)
        have hs1 : oo + 16 ≤ cs.size := by omega
        have lg6 := bk_lt kg6
        have hz1 : 16 ≤ zero16.size := by decide
        have hon := ones_map R16
        clear q6 kg kb lg lb HA5 HRO5 HB5 hR16 hsz
        go_upto_region 14 with fail
        clear hspl hon hx16 hz1 hs1 kb6 i16c h16' hLL
        obtain ⟨row, hrow⟩ : ∃ r, r = (List.map B R16).toArray := ⟨_, rfl⟩
        rw [← hrow]
        have HROW : Hid (row.size = 16 ∧ row = (List.map B R16).toArray) := Lib.hid ⟨by rw [hrow]; simp [HR16.out.2], hrow⟩
        have kg7 : bk (w6.setRow g1 row) g1 = some (.cells row 110 (0, 0)) := by rw [bk_setRow_same, kg6]; rfl
        have hgr : g1 ≠ ra ∧ M ≤ g1 ∧ n ≤ g1 := by have h1 := HMW.out; have h2 := HG1.out; omega
        have t7 : Tn (fun k => k = g1) w6 (w6.setRow g1 row) := ⟨rfl, rfl, rfl, by simp [World.setRow], fun k hk hn => bk_setRow_other _ _ _ _ hn⟩
        have HA7 : Hid (Ac w0 (w6.setRow g1 row) M n y ra C SA none sc 0 86400 sv []) := Lib.hid (HA6.out.past t7 (fun k hk => by rw [hk]; exact hgr.2.2) (fun k hk e => by have := HSL.out k hk; omega) (fun k hk e => by cases hk))
        have HRO7 : Hid (RO (w6.setRow g1 row) M (.slice LA ol.length lc) ol) := Lib.hid (HRO6.out.keep (fun k hk => t7.old k (by obtain ⟨vs, ho, _⟩ := HRO6.out; exact (ho.lt k hk).2) (fun e => by have := HOL.out k hk; omega)) (t7.below (fun k hk => by rw [hk]; exact hgr.2.1) (by have := HB6.out.size; have := HMW.out.1; omega)))
        have HB7 : Hid (Below M wr (w6.setRow g1 row)) := Lib.hid ((HB6.out.mono HMW.out.1).trans (t7.below (fun k hk => by rw [hk]; exact hgr.2.1) (by have := HB6.out.size; have := HMW.out.1; omega)))
        clear kg6 lg6 HA6 HRO6 HB6 t7 hrow hgr hgb
        change Code.wp _ _ _ _ (w6.setRow g1 row)
        generalize w6.setRow g1 row = w7 at *
        have lg7 := bk_lt kg7
        have e0 : w7.cell? ⟨ra, 0, none⟩ = some (.slice SA sv.length sc) := bk_cell HA7.out.ka 0
        have la := bk_lt HA7.out.ka
        have b8 : Below w7.heap.size w7 (w7.alloc (.cells row 110 (0, 0))) := (by (repeat (first | exact Below.refl _ _ | assumption | refine Below.drew ?_ | refine bdrewN ?_ _ | refine Below.alloc ?_ (by first | omega | (simp <;> omega) | (simp only [World.size_alloc] <;> omega)) _ | refine below_setRow ?_ (by first | omega | (simp <;> omega)) _ | refine Below.setCell ?_ (by first | omega | (simp <;> omega)) _)))
        have B8 := Lib.hid b8
        have HS8 := Lib.hid (own_below HA7.out.hs b8)
        have HC8 : Hid (∀ q u, (List.map B R16)[q]? = some u → (w7.alloc (.cells row 110 (0, 0))).cell? ⟨w7.heap.size, q, none⟩ = some u) := Lib.hid fun q u hu => by
          rw [bk_cell (bk_alloc_at w7 (.cells row 110 (0, 0)) _ rfl), HROW.out.2, List.getElem?_toArray]
          exact hu
        have HM8 : Hid (n ≤ (w7.alloc (.cells row 110 (0, 0))).heap.size) := Lib.hid (Nat.le_trans HA7.out.o5 b8.size)
        have HSV30 : Hid (sv.length < 2 ^ 30) := Lib.hid (by have h1 := HJ.out.2.2; have h2 := svf_len d0 (List.range j); rw [← h1, List.length_range] at h2; have := HD0.out.2; have := HJ.out.2.1; omega)
        have hrs := HROW.out.1
        have hro : ones row.toList = true := by rw [HROW.out.2]; exact ones_map R16
        clear b8
        go_wp2_with (at_builtin; rw [fold_ad _ HROW.out.1]; refine wpList_app1 appA rfl _ _ rfl n (.slice SA sv.length sc) sv.length (adV sv) rfl HS8.out w7.heap.size 1 rfl (List.map B R16) (by simp [HR16.out.2]) HC8.out (B_one R16) HM8.out HSV30.out ?_)
        intro A6 c6 w9 ho9 hg9 _ _
        replace ho9 : OutA w9 n (.slice A6 (sv.length + 1) c6) (sv ++ [R16]) := by
          unfold OutA
          rw [adV_append, adV_one, List.length_append]
          exact ho9
        obtain ⟨q1, fr9, l9, v9, e9⟩ := HA7.out.addr B8.out ho9 hg9
        have HA9 := Lib.hid q1
        have b79 : Below M w7 (w9.setCell ⟨ra, 0, none⟩ (.slice A6 (sv.length + 1) c6)) := ((B8.out.mono (Nat.le_trans HMW.out.1 (by have := HG1.out; omega))).grown hg9 (Nat.le_trans (by have h1 := HA7.out.o3; have h2 := HA7.out.o4; have h3 := HA7.out.o5; omega : M ≤ w7.heap.size) B8.out.size) (fun k hk => by have h1 := (HS8.out.lt k hk).1; have h2 := HA7.out.o3; have h3 := HA7.out.o4; omega)).trans (((Below.refl ra w9).setCell (p := ⟨ra, 0, none⟩) (Nat.le_refl _) _).mono HA7.out.o3)
        have HRO9 := Lib.hid (HRO7.out.keep (fun q hq => by
          obtain ⟨vs, hown, _⟩ := HRO7.out
          have hne : q ≠ ra := own_not hown hq HA7.out.ka (by decide)
          have h1 := (hown.lt q hq).2
          have t := Tn.grownG hg9
          exact (bk_setCell_heap _ hne).trans ((t.old q (Nat.lt_of_lt_of_le h1 B8.out.size) (fun e => own_neG HS8.out (own_below hown B8.out) (by decide) q e hq)).trans (B8.out.block q h1))) b79)
        have HB9 : Hid (Below M wr (w9.setCell ⟨ra, 0, none⟩ (.slice A6 (sv.length + 1) c6))) := Lib.hid (HB7.out.trans b79)
        have HJ9 : Hid (rest.drop 16 = d0.drop (16 * (j + 1)) ∧ 16 * (j + 1) ≤ d0.length ∧ sv ++ [R16] = svf d0 (List.range (j + 1))) := Lib.hid (by
          have h1 := HL16.out.1
          have h2 := HLL.out.2
          have h3 := HJ.out.2.1
          refine ⟨by rw [HJ.out.1, List.drop_drop]; congr 1, by omega, ?_⟩
          rw [srv_next d0 j (by omega), ← HJ.out.2.2, HR16.out.1, HJ.out.1])
        have hrl : (rest.drop 16).length = L - 16 := by rw [List.length_drop, HLL.out.1]
        have HRL := Lib.hid hrl
        have hL16' := HL16.out
        clear ho9 hg9 q1 b79 hrl HS8 HC8 HM8 HSV30 HA7 HRO7 HB7 e0 la lg7 kg7 hrs hro d1 d1' h16
        by_cases hck : c1 = 16
        · have HRN : Hid (Rd (w9.setCell ⟨ra, 0, none⟩ (.slice A6 (sv.length + 1) c6)) M (some ⟨bb, oo, none⟩) (rest.drop 16) ∧ (rest.drop 16).length ≤ 0 ∧ (0 : Nat) < 2 ^ 63) := Lib.hid (by
            have h1 : rest.drop 16 = [] := List.drop_of_length_le (by have := HLL.out.1; omega)
            rw [h1]; exact ⟨Rd.nil, Nat.le_refl _, by decide⟩)
          subst hck
          obtain rfl : L = 16 := by omega
          go_upto_region 15 with fail
          clear fr9 l9 e9
          change Code.wp _ _ _ _ (w9.setCell ⟨ra, 0, none⟩ (.slice A6 (sv.length + 1) c6))
          generalize w9.setCell ⟨ra, 0, none⟩ (.slice A6 (sv.length + 1) c6) = wz at *
          go_wp2_with fail
          refine ⟨⟨j + 1, rest.drop 16, some ⟨bb, oo, none⟩, 0, sv ++ [R16], A6, c6, ?_, HRN, HA9, HRO9, HJ9⟩, ?_⟩
          · rw [HRL.out]
          · show 0 < 16
            decide
        · have HRN : Hid (Rd (w9.setCell ⟨ra, 0, none⟩ (.slice A6 (sv.length + 1) c6)) M (some ⟨bb, oo + 16, none⟩) (rest.drop 16) ∧ (rest.drop 16).length ≤ c1 - 16 ∧ c1 - 16 < 2 ^ 63) := Lib.hid ⟨(rd_off (HR.out.1) 16).below HB9.out (Nat.le_refl _), by rw [HRL.out]; omega, by have := HR.out.2.2; omega⟩
          go_upto_region 15 with fail
          clear fr9 l9 e9
          change Code.wp _ _ _ _ (w9.setCell ⟨ra, 0, none⟩ (.slice A6 (sv.length + 1) c6))
          generalize w9.setCell ⟨ra, 0, none⟩ (.slice A6 (sv.length + 1) c6) = wz at *
          go_wp2_with fail
          refine ⟨⟨j + 1, rest.drop 16, some ⟨bb, oo + 16, none⟩, c1 - 16, sv ++ [R16], A6, c6, ?_, HRN, HA9, HRO9, HJ9⟩, ?_⟩
          · rw [HRL.out]
          · show L - 16 < L
            omega
  obtain ⟨SA, sc, HA2, HRO2⟩ := hcut
  rename_i hkk
  apply hkk
  exact rtail16 w0 _ M n y ra now lc sc c C LA SA (srv' (ol.lookup 23)) ol HA2.out ⟨HRO2.out, HRO.out.2⟩ HCC.out HTF.out rfl HLN.out _ _ _ _ _ _ _ _ _ _ _ _ _ _ _ _ _ _ _ _ _ _ _ _ _ _ _ _ _ _ _ _ _ _ _ _ _ _ _ _ _ _ _ _ _ _ _ _ _ _ _ _ _ _ _ _ _ _ _ _ _ _ _ _ _ _ _ _ _ _ _ _ _ _ _ _ _ _ _ _ _ _ _ _ _ _ _ _ _ _ _ _ _ _ _ _ _ _ _ _ _ _ _ _ _ _ _ _ _ _ _ _ _ _ _ _ _ _ _ _ _ _ _ _ _ _ _ _ _ _ _ _ _ _ _ _ _ _ _ _ _ _ _ _ _ _ _ _ _ _ _ _ _ _ _ _ _ _ _ _ _ _ _ _ _ _ _ _ _ _ _ _ _ _ _ _ _ _ _ _ _ _ _ _ _ _ _ _ _ _ _ _ _ _ _ _ _ _ _ _ _ _ _ _ _ _ _ _ _ _ _ _ _ _
end Go.Proofs.Ytfldoihindbdmaa

/- Infos: a reply, whatever its options. -/
import Derived.Test.YtfldoihindbdmaaF22
namespace Go.Proofs.Ytfldoihindbdmaa
open Go.RowKit
set_option maxRecDepth 100000
set_option maxHeartbeats 1000000
theorem AnsR.mono {w : World} {n m : Nat} {SA DA : Option Addr} {sv ds : List (List UInt8)} {c1 c2 : Nat} (h : AnsR w n SA DA sv ds c1 c2) (hm : m ≤ n) : AnsR w m SA DA sv ds c1 c2 := ⟨h.hs.mono hm, h.hd.mono hm, h.ne⟩
theorem OptAt.of {w : World} {lo k n : Nat} {ol : List (Nat × List UInt8)} {M : Nat → Option Value} (h : DoneM w lo ol M) (hl : ∀ k d, ol.lookup k = some d → d.length < n) (hn : n ≤ 2 ^ 30) : OptAt w M k (ol.lookup k) := by
  have h1 := h k
  unfold OptAt
  cases e : ol.lookup k with
  | none => rw [e] at h1; exact h1
  | some d =>
    rw [e] at h1
    obtain ⟨b, o, c, h2, h3, _, h4, h5⟩ := h1
    exact ⟨b, o, c, h2, h3, h4, h5, Nat.lt_of_lt_of_le (hl k d e) hn⟩
/-- May it be: what a status tells. -/
def stOk (d : Option (List UInt8)) : Bool :=
  match d with
  | none => true
  | some s => decide (2 ≤ s.length) && s.getD 0 0 == 0 && s.getD 1 0 == 0
def okR (ol : List (Nat × List UInt8)) : Bool := (ol.lookup 2).isSome && stOk (ol.lookup 13)
def ReplyR (w : World) (x : Nat) (c : Cl) (now : Nat) (ol : List (Nat × List UInt8)) (e : Ending) (w' : World) : Prop :=
  if okR ol = false then e = .returned (.tuple #[.agg (ansC 0), .bool false]) ∧ ClB w' x (c.goes now) ∧ Tn (fun j => j = x) w w'
  else ∃ SA DA c1 c2, e = .returned (.tuple #[.agg (ansG SA DA (srv' (ol.lookup 23)).length (dnm (ol.lookup 24)).length (frsh (ol.lookup 32))), .bool true]) ∧ ClB w' x { c.goes now with asks := false, fresh := true, next := addT (max c.tm now) (secT (frsh (ol.lookup 32))) } ∧ AnsR w' w.heap.size SA DA (srv' (ol.lookup 23)) (dnm (ol.lookup 24)) c1 c2 ∧ Tn (fun j => j = x) w w'
theorem reply2_any (x : Nat) (c : Cl) (now : Nat) (A : Option Addr) (b rest : List UInt8) (cb : Nat) (ol : List (Nat × List UInt8)) (w : World) (h : ClB w x c) (hr : Rd w w.heap.size A b) (hn : now ≤ far) (hcb : b.length ≤ cb) (hbx : ∀ bb o, A = some ⟨bb, o, none⟩ → bb ≠ x) (hno : c.asks = true)
    (hb : b = headB c ++ rest) (hop : Opts rest ol) (hlen : b.length < 2 ^ 30) (hcc : cb < 2 ^ 63) :
    Calls Try.prog 9 #[.pointer (some ⟨x, 0, none⟩), .int .u64 (now : Int), .slice A b.length cb] w (ReplyR w x c now ol) := by
  have HNO := Lib.hid hno
  have HBX := Lib.hid hbx
  have HCB := Lib.hid (And.intro hcb (And.intro hlen hcc))
  have HB := Lib.hid hb
  have HOP := Lib.hid hop
  have HBL : Hid (b.length = 4 + rest.length) := Lib.hid (by rw [hb, List.length_append, headB_len])
  obtain ⟨ba, oa, rfl, _, _⟩ := hr (by have := HBL.out; omega)
  clear hno hbx hcb hb hop hlen hcc
  have C := Lib.hid (there_any x c (w.alloc (.cells (ansC 0) 36)) (h.below ((Below.refl _ _).alloc (Nat.le_refl _) _)))
  have CG := Lib.hid (goes_any x c now (w.alloc (.cells (ansC 0) 36)) (h.below ((Below.refl _ _).alloc (Nat.le_refl _) _)) hn)
  have HC := Lib.hid h
  have HR := Lib.hid hr
  have hxl := bk_lt h.box
  have HI24 := Lib.hid h.i24
  have HKR := Lib.hid (bk_alloc_at w (.cells (ansC 0) 36) _ rfl)
  have B0 : Hid (Below w.heap.size w (w.alloc (.cells (ansC 0) 36))) := Lib.hid ((Below.refl _ _).alloc (Nat.le_refl _) _)
  clear h hr hn
  go_enter Try.func9, Try.ntmps9
  go_wp2_with fail
  refine C.out.mono ?_
  rintro e w1 ⟨rfl, rfl⟩
  go_wp2_with fail
  refine CG.out.mono ?_
  rintro e w2 ⟨rfl, h2, t2⟩
  obtain ⟨T, hT⟩ : ∃ T, T = max c.tm now := ⟨_, rfl⟩
  rw [← hT] at h2 ⊢
  have HT := Lib.hid hT
  have H2 := Lib.hid h2
  have T2 := Lib.hid ((Tn.of B0.out (F := fun j => j = x)).trans t2 fun j hj => .inl hj)
  have K2 := Lib.hid (t2.keep (Nat.ne_of_gt hxl) HKR.out)
  have c11 := bk_cell h2.box 11
  simp [clC] at c11
  have lx2 := bk_lt h2.box
  have hid := HI24.out
  have R2 : Hid (Rd (w2.alloc (.cells #[.int .u8 7] 5)) (w2.alloc (.cells #[.int .u8 7] 5)).heap.size (some ⟨w2.heap.size, 0, none⟩) [7]) := Lib.hid (Rd.lit w2 [7] 5)
  have CP : Hid (Calls Try.prog 25 #[.slice (some ⟨w2.heap.size, 0, none⟩) 1 1, .int .u64 (c.id : Int), .int .i64 3] (w2.alloc (.cells #[.int .u8 7] 5)) fun e w' => ∃ g, e = .returned (.slice (some ⟨g, 0, none⟩) 4 4) ∧ (w2.alloc (.cells #[.int .u8 7] 5)).heap.size ≤ g ∧ Rd w' w'.heap.size (some ⟨g, 0, none⟩) (headB c) ∧ Below (w2.alloc (.cells #[.int .u8 7] 5)).heap.size (w2.alloc (.cells #[.int .u8 7] 5)) w') := Lib.hid (by
    have C := put_own (some ⟨w2.heap.size, 0, none⟩) [7] 1 c.id 3 3 (headB c) (w2.alloc (.cells #[.int .u8 7] 5)) R2.out (fun h => by cases h) (by decide) (by omega) (by decide) rfl rfl
    rw [headB_len] at C
    exact C)
  have b3 : Below w2.heap.size w2 (w2.alloc (.cells #[.int .u8 7] 5)) := (by (repeat (first | exact Below.refl _ _ | assumption | refine Below.drew ?_ | refine bdrewN ?_ _ | refine Below.alloc ?_ (by first | omega | (simp <;> omega) | (simp only [World.size_alloc] <;> omega)) _ | refine below_setRow ?_ (by first | omega | (simp <;> omega)) _ | refine Below.setCell ?_ (by first | omega | (simp <;> omega)) _)))
  have B3 := Lib.hid b3
  clear h2 t2 b3 CG C HKR B0 hT R2
  go_wp2_with fail
  refine CP.out.mono ?_
  rintro e w4 ⟨gh, rfl, _, r4, b4⟩
  have B24 := B3.out.trans (b4.mono B3.out.size)
  have H4 := Lib.hid (H2.out.below B24)
  have K4 := Lib.hid (bk_keep B24 (bk_lt K2.out) K2.out)
  have T4 := Lib.hid (T2.out.trans (Tn.of B24) (G := fun _ => False) fun j hj => hj.elim)
  have RH := Lib.hid r4
  have c7 := bk_cell H4.out.box 7
  simp [clC] at c7
  have lx4 := bk_lt H4.out.box
  clear c11 lx2 hid B24 b4 r4 H2 K2 T2 B3 CP
  rw [HNO.out] at c7
  have CX : Hid (Calls Try.prog 26 #[.slice (some ⟨ba, oa, none⟩) b.length cb, .slice (some ⟨gh, 0, none⟩) 4 4] w4 fun e w' => e = .returned (.bool true) ∧ w' = w4) := Lib.hid (by
    have C := prefix_any (some ⟨ba, oa, none⟩) (some ⟨gh, 0, none⟩) b (headB c) cb 4 w4 _ _ (rd_turn HR.out T4.out HBX.out) RH.out HCB.out.1
    have e : (headB c).isPrefixOf b = true := by rw [HB.out]; exact List.isPrefixOf_iff_prefix.2 (List.prefix_append _ _)
    rw [headB_len, e] at C
    exact C)
  have RB4 := Lib.hid (rd_turn HR.out T4.out HBX.out)
  obtain ⟨N, hN⟩ : ∃ N, N = b.length := ⟨_, rfl⟩
  have hN4 : N = 4 + rest.length := by rw [hN]; exact HBL.out
  have HN4 := Lib.hid hN4
  have hNc : N ≤ cb := by rw [hN]; exact HCB.out.1
  have h4N : 4 ≤ N := by omega
  have hcc := HCB.out.2.2
  have HN := Lib.hid hN
  rw [← hN] at CX ⊢
  clear hN hN4
  go_wp2_with fail
  refine CX.out.mono ?_
  rintro e w5 ⟨rfl, rfl⟩
  clear CX
  go_upto_region 7 with fail
  clear c7 lx4
  by_cases hc4 : cb = 4
  · subst hc4
    have hr0 : rest = [] := List.eq_nil_of_length_eq_zero (by have h1 := HN4.out; omega)
    have RR : Hid (Rd w5 w5.heap.size (some ⟨ba, oa, none⟩) rest) := Lib.hid (by rw [hr0]; exact Rd.nil)
    have hol : ol = [] := by
      rcases HOP.out.inv with ⟨_, q⟩ | ⟨n9, ol9, h9, _⟩
      · exact q
      · rw [hr0] at h9; simp at h9
    have h2 : ol.lookup 2 = none := by rw [hol]; rfl
    clear hol hr0
    go_wp2_with fail
    have hrl : 0 = rest.length := by have := HN4.out; omega
    have CO0 := (options_any ((some ⟨ba, oa, none⟩)) rest (0) w5 RR.out (fun h => by cases h) (by have h1 := HN4.out; have h2 := HN.out; have h3 := HCB.out.2.1; omega) ol HOP.out)
    rw [← hrl] at CO0
    have CO := Lib.hid CO0
    clear hrl CO0
    refine CO.out.mono ?_
    rintro e w6 ⟨g, n, M, lo, rfl, hg, hlo, hM, hD, b6⟩
    have H6 := Lib.hid (H4.out.below b6)
    have K6 := Lib.hid (bk_keep b6 (bk_lt K4.out) K4.out)
    have T6 := Lib.hid (T4.out.trans (Tn.of b6) (G := fun _ => False) fun j hj => hj.elim)
    have HM := Lib.hid hM
    have HD := Lib.hid hD
    have hl13 := hM.look_ok (k := 13) (by decide)
    have hl2 := hM.look (k := 2) (by decide)
    clear hg hlo hM hD b6 CO RR
    rw [HD.out.none h2] at hl2
    have hl2' : Sem.run Try.prog (Instr.lookup 70 (.map (some g)) (.int .u64 2) false) w6 = .ok (.slice none 0 0) w6 := hl2
    have HH2 := Lib.hid h2
    have HOKF : Hid (okR ol = false) := Lib.hid (by unfold okR; rw [h2]; rfl)
    obtain ⟨v13, hv13⟩ : ∃ v, v = (M 13).getD (.slice none 0 0) := ⟨_, rfl⟩
    obtain ⟨b13, hb13⟩ : ∃ b, b = (M 13).isSome := ⟨_, rfl⟩
    rw [← hv13, ← hb13] at hl13
    have hl13' : Sem.run Try.prog (Instr.lookup 70 (.map (some g)) (.int .u64 13) true) w6 = .ok (.tuple #[v13, .bool b13]) w6 := hl13
    clear hl2 h2 hl13 hv13 hb13
    have k6 := K6.out
    have os1 := ansC_ones 0
    have os2 := ansC_size 0
    have lr := bk_lt k6
    go_wp2_with fail
    all_goals first | (exact absurd HH2.out (by assumption)) | skip
    have F9 : Hid (ClB (w6.setRow w.heap.size (ansC 0)) x (c.goes now) ∧ Tn (fun j => j = x) w (w6.setRow w.heap.size (ansC 0))) := Lib.hid ⟨⟨(bk_setRow_other _ _ _ _ (Nat.ne_of_lt hxl)).trans (by have := H6.out.box; rw [HT.out] at this; exact this), H6.out.n64, by have := H6.out.t64; rw [HT.out] at this; exact this, H6.out.i24, H6.out.s64, H6.out.w22⟩, T6.out.setRow (Nat.le_refl _)⟩
    refine ret_two (cs := ansC 0) rfl rfl rfl rfl (by rw [bk_setRow_same, k6]; rfl) Try.underlying36 rfl (by rw [ansC_size]; kernel_rfl) ?_
    unfold ReplyR
    rw [if_pos HOKF.out]
    exact ⟨rfl, F9.out⟩
  · have RR : Hid (Rd w5 w5.heap.size (some ⟨ba, oa + 4, none⟩) rest) := Lib.hid (fun h0 => by
      obtain ⟨b9, o9, e9, hlt9, hc9⟩ := RB4.out (by have := HBL.out; omega)
      cases e9
      refine ⟨ba, oa + 4, rfl, hlt9, fun j hj => ?_⟩
      have h1 := hc9 (4 + j) (by have := HBL.out; omega)
      rw [Nat.add_assoc, h1]
      have e : b[4 + j]'(by have := HBL.out; omega) = rest[j] := by
        have hbb := HB.out
        subst hbb
        rw [List.getElem_append_right (by rw [headB_len]; omega)]
        congr 1
        rw [headB_len]; omega
      rw [e])
    go_wp2_with fail
    have hrl : N - 4 = rest.length := by have := HN4.out; omega
    have CO0 := (options_any ((some ⟨ba, oa + 4, none⟩)) rest ((cb - 4)) w5 RR.out (fun h => by cases h) (by have h1 := HN4.out; have h2 := HN.out; have h3 := HCB.out.2.1; omega) ol HOP.out)
    rw [← hrl] at CO0
    have CO := Lib.hid CO0
    clear hrl CO0
    refine CO.out.mono ?_
    rintro e w6 ⟨g, n, M, lo, rfl, hg, hlo, hM, hD, b6⟩
    have H6 := Lib.hid (H4.out.below b6)
    have K6 := Lib.hid (bk_keep b6 (bk_lt K4.out) K4.out)
    have T6 := Lib.hid (T4.out.trans (Tn.of b6) (G := fun _ => False) fun j hj => hj.elim)
    have HM := Lib.hid hM
    have HD := Lib.hid hD
    have hl13 := hM.look_ok (k := 13) (by decide)
    have hl2 := hM.look (k := 2) (by decide)
    clear hg hlo hM hD b6 CO RR
    cases h2 : ol.lookup 2 with
    | none =>
      rw [HD.out.none h2] at hl2
      have hl2' : Sem.run Try.prog (Instr.lookup 70 (.map (some g)) (.int .u64 2) false) w6 = .ok (.slice none 0 0) w6 := hl2
      have HH2 := Lib.hid h2
      have HOKF : Hid (okR ol = false) := Lib.hid (by unfold okR; rw [h2]; rfl)
      obtain ⟨v13, hv13⟩ : ∃ v, v = (M 13).getD (.slice none 0 0) := ⟨_, rfl⟩
      obtain ⟨b13, hb13⟩ : ∃ b, b = (M 13).isSome := ⟨_, rfl⟩
      rw [← hv13, ← hb13] at hl13
      have hl13' : Sem.run Try.prog (Instr.lookup 70 (.map (some g)) (.int .u64 13) true) w6 = .ok (.tuple #[v13, .bool b13]) w6 := hl13
      clear hl2 h2 hl13 hv13 hb13
      have k6 := K6.out
      have os1 := ansC_ones 0
      have os2 := ansC_size 0
      have lr := bk_lt k6
      go_wp2_with fail
      all_goals first | (exact absurd HH2.out (by assumption)) | skip
      have F9 : Hid (ClB (w6.setRow w.heap.size (ansC 0)) x (c.goes now) ∧ Tn (fun j => j = x) w (w6.setRow w.heap.size (ansC 0))) := Lib.hid ⟨⟨(bk_setRow_other _ _ _ _ (Nat.ne_of_lt hxl)).trans (by have := H6.out.box; rw [HT.out] at this; exact this), H6.out.n64, by have := H6.out.t64; rw [HT.out] at this; exact this, H6.out.i24, H6.out.s64, H6.out.w22⟩, T6.out.setRow (Nat.le_refl _)⟩
      refine ret_two (cs := ansC 0) rfl rfl rfl rfl (by rw [bk_setRow_same, k6]; rfl) Try.underlying36 rfl (by rw [ansC_size]; kernel_rfl) ?_
      unfold ReplyR
      rw [if_pos HOKF.out]
      exact ⟨rfl, F9.out⟩
    | some d2 =>
      obtain ⟨b2, o2, c2', e2, _, _⟩ : ∃ b o c, M 2 = some (.slice (some ⟨b, o, none⟩) d2.length c) ∧ Rd w6 w6.heap.size (some ⟨b, o, none⟩) d2 ∧ lo ≤ b ∧ d2.length ≤ c ∧ c < 2 ^ 63 := by
        have h1 := HD.out 2
        rw [h2] at h1
        exact h1
      rw [e2] at hl2
      have hl2' : Sem.run Try.prog (Instr.lookup 70 (.map (some g)) (.int .u64 2) false) w6 = .ok (.slice (some ⟨b2, o2, none⟩) d2.length c2') w6 := hl2
      have HH2 : Hid (ol.lookup 2 ≠ none) := Lib.hid (by rw [h2]; exact fun h => by cases h)
      cases h13 : ol.lookup 13 with
      | none =>
        rw [HD.out.none h13] at hl13
        have hl13' : Sem.run Try.prog (Instr.lookup 70 (.map (some g)) (.int .u64 13) true) w6 = .ok (.tuple #[.slice none 0 0, .bool false]) w6 := hl13
        have HOKT : Hid (okR ol = true) := Lib.hid (by unfold okR; rw [h2, h13]; rfl)
        clear hl13 h13
        have hlen30 : ∀ k d, ol.lookup k = some d → d.length < 2 ^ 30 := fun k d hk => by have h1 := HOP.out.len k d hk; have h2 := HCB.out.2.1; have h3 := HBL.out; omega
        have CA := Lib.hid (answer2_any g n M (ol.lookup 23) (ol.lookup 24) (ol.lookup 32) w6 HM.out (OptAt.of HD.out hlen30 (Nat.le_refl _)) (OptAt.of HD.out hlen30 (Nat.le_refl _)) (OptAt.of HD.out hlen30 (Nat.le_refl _)))
        obtain ⟨F, hF⟩ : ∃ F, F = frsh (ol.lookup 32) := ⟨_, rfl⟩
        have hFl : F < 4294967296 := by rw [hF]; exact frsh_lt _
        have HF := Lib.hid hF
        obtain ⟨sv, hsv⟩ : ∃ s, s = srv' (ol.lookup 23) := ⟨_, rfl⟩
        obtain ⟨ds, hds⟩ : ∃ s, s = dnm (ol.lookup 24) := ⟨_, rfl⟩
        have HSD := Lib.hid (And.intro hsv hds)
        rw [← hF, ← hsv, ← hds] at CA
        clear hF hl2 h2 e2 hsv hds hlen30
        go_wp2_with fail
        refine CA.out.mono ?_
        rintro e w7 ⟨SA, DA, c1, c2, rfl, hAR, b7⟩
        obtain ⟨ns, hns⟩ : ∃ n, n = sv.length := ⟨_, rfl⟩
        obtain ⟨nd, hnd⟩ : ∃ n, n = ds.length := ⟨_, rfl⟩
        have HNN2 := Lib.hid (And.intro hns hnd)
        rw [← hns, ← hnd]
        have b8 : Below w7.heap.size w7 (w7.alloc (.cells (ansG SA DA ns nd F) 36 (0, 0))) := (by (repeat (first | exact Below.refl _ _ | assumption | refine Below.drew ?_ | refine bdrewN ?_ _ | refine Below.alloc ?_ (by first | omega | (simp <;> omega) | (simp only [World.size_alloc] <;> omega)) _ | refine below_setRow ?_ (by first | omega | (simp <;> omega)) _ | refine Below.setCell ?_ (by first | omega | (simp <;> omega)) _)))
        have B68 := b7.trans (b8.mono b7.size)
        have H8 := Lib.hid (H6.out.below B68)
        have K8 := Lib.hid (bk_keep B68 (bk_lt K6.out) K6.out)
        have T8 := Lib.hid (T6.out.trans (Tn.of B68) (G := fun _ => False) fun j hj => hj.elim)
        have KA := Lib.hid (bk_alloc_at w7 (.cells (ansG SA DA ns nd F) 36 (0, 0)) _ rfl)
        have A8 := Lib.hid (hAR.below b8)
        have hs7 : x < w7.heap.size := Nat.lt_of_lt_of_le (bk_lt H6.out.box) b7.size
        have hr7 : w.heap.size < w7.heap.size := Nat.lt_of_lt_of_le (bk_lt K6.out) b7.size
        have HX6 := Lib.hid (And.intro (bk_lt H6.out.box) (bk_lt K6.out))
        have os1 := ansG_ones SA DA ns nd F
        have os2 := ansG_size SA DA ns nd F
        clear CA b7 b8 B68 hl13' hl2' HM HD H6 K6 T6 hAR hns hnd
        go_upto_region 12 with fail
        change Code.wp _ _ _ _ (w7.alloc (.cells (ansG SA DA ns nd F) 36 (0, 0)))
        obtain ⟨ra, hra⟩ : ∃ r, r = w7.heap.size := ⟨_, rfl⟩
        rw [← hra] at KA hs7 hr7 ⊢
        clear hra
        generalize w7.alloc (.cells (ansG SA DA ns nd F) 36 (0, 0)) = w8 at *
        have cF : w8.cell? ⟨ra, 2, none⟩ = some (.int .u32 (F : Int)) := bk_cell KA.out 2
        have la := bk_lt KA.out
        have lx8 := bk_lt H8.out.box
        have f7 := bk_frozen H8.out.box 7; have f8 := bk_frozen H8.out.box 8; have f9 := bk_frozen H8.out.box 9
        have c7 := bk_cell H8.out.box 7; have c8 := bk_cell H8.out.box 8; have c9 := bk_cell H8.out.box 9
        simp [clC] at c7 c8 c9
        have CS := Lib.hid (csecs_any F w8 hFl)
        have hsc : secT F < 2 ^ 64 := by unfold secT far; split <;> omega
        have hT64 : T < 2 ^ 64 := by have := H8.out.t64; unfold far at this; simp only at this; omega
        have CA2 := Lib.hid (cadd_any T (secT F) w8 hT64 hsc)
        have hadd := addT_le T (secT F)
        obtain ⟨sc, hsc2⟩ : ∃ s, s = secT F := ⟨_, rfl⟩
        obtain ⟨nx, hnx⟩ : ∃ n, n = addT T sc := ⟨_, rfl⟩
        rw [← hsc2] at CS CA2 hadd
        rw [← hnx] at CA2 hadd
        have HNX : Hid (nx = addT (max c.tm now) (secT F)) := Lib.hid (by rw [hnx, hsc2, HT.out])
        have H9 : Hid (ClB (((w8.setCell ⟨x, 7, none⟩ (.bool false)).setCell ⟨x, 8, none⟩ (.bool true)).setCell ⟨x, 9, none⟩ (.int .u64 (nx : Int))) x { c.goes now with asks := false, fresh := true, next := nx }) := Lib.hid (by
          have h0 := H8.out
          rw [HT.out] at h0
          exact ⟨by rw [bk_setCell_same, bk_setCell_same, bk_setCell_same, h0.box]; rfl, hadd, h0.t64, h0.i24, h0.s64, h0.w22⟩)
        have t9 : Tn (fun j => j = x) w8 (((w8.setCell ⟨x, 7, none⟩ (.bool false)).setCell ⟨x, 8, none⟩ (.bool true)).setCell ⟨x, 9, none⟩ (.int .u64 (nx : Int))) := (((Tn.refl (fun j => j = x) w8).set (g := x) (.inl rfl)).set (g := x) (.inl rfl)).set (g := x) (.inl rfl)
        have T9 := Lib.hid (T8.out.trans t9 fun j hj => .inl hj)
        have K9 := Lib.hid (t9.keep (Nat.ne_of_gt hxl) K8.out)
        have KA9 := Lib.hid (t9.keep (Nat.ne_of_gt hs7) KA.out)
        have A9 := Lib.hid (A8.out.turn t9 (fun k e => by rw [e]; exact Nat.lt_succ_of_lt HX6.out.1))
        clear hsc hT64 hadd hsc2 hnx t9 T8 K8 H8 KA A8
        go_wp2_with fail
        refine CS.out.mono ?_
        rintro e w8' ⟨rfl, rfl⟩
        go_wp2_with fail
        refine CA2.out.mono ?_
        rintro e w8' ⟨rfl, rfl⟩
        go_upto_region 13 with fail
        clear cF c7 c8 c9 f7 f8 f9 lx8 la CS CA2
        change Code.wp _ _ _ _ (((w8.setCell ⟨x, 7, none⟩ (.bool false)).setCell ⟨x, 8, none⟩ (.bool true)).setCell ⟨x, 9, none⟩ (.int .u64 (nx : Int)))
        generalize ((w8.setCell ⟨x, 7, none⟩ (.bool false)).setCell ⟨x, 8, none⟩ (.bool true)).setCell ⟨x, 9, none⟩ (.int .u64 (nx : Int)) = w9 at *
        have os3 := ansC_size 0
        have k9 := K9.out
        have ka9 := KA9.out
        have lr9 := bk_lt k9
        have la9 := bk_lt ka9
        go_wp2_with fail
        all_goals first | (exact absurd (by assumption) HH2.out) | skip
        have F9 : Hid (ClB (w9.setRow w.heap.size (ansG SA DA ns nd F)) x { c.goes now with asks := false, fresh := true, next := nx } ∧ AnsR (w9.setRow w.heap.size (ansG SA DA ns nd F)) w.heap.size SA DA sv ds c1 c2 ∧ Tn (fun j => j = x) w (w9.setRow w.heap.size (ansG SA DA ns nd F))) := Lib.hid ⟨⟨(bk_setRow_other _ _ _ _ (Nat.ne_of_lt hxl)).trans H9.out.box, H9.out.n64, H9.out.t64, H9.out.i24, H9.out.s64, H9.out.w22⟩, (A9.out.setRow (Nat.lt_succ_of_lt HX6.out.2)).mono (Nat.le_succ_of_le (Nat.le_of_lt HX6.out.2)), T9.out.setRow (Nat.le_refl _)⟩
        have hFF := HF.out
        have hNN := HNX.out
        refine ret_two (cs := ansG SA DA ns nd F) rfl rfl rfl rfl ?_ Try.underlying36 rfl ?_ ?_
        · rw [bk_setRow_same, k9]; rfl
        · rw [ansG_size]; kernel_rfl
        · unfold ReplyR
          rw [if_neg (by rw [HOKT.out]; decide), ← hFF, ← HSD.out.1, ← HSD.out.2, ← HNN2.out.1, ← HNN2.out.2, ← hNN]
          exact ⟨SA, DA, c1, c2, rfl, F9.out⟩
      | some s =>
        obtain ⟨bs, os, cs, e13, hrs, _⟩ : ∃ b o c, M 13 = some (.slice (some ⟨b, o, none⟩) s.length c) ∧ Rd w6 w6.heap.size (some ⟨b, o, none⟩) s ∧ lo ≤ b ∧ s.length ≤ c ∧ c < 2 ^ 63 := by
          have h1 := HD.out 13
          rw [h13] at h1
          exact h1
        rw [e13] at hl13
        obtain ⟨S, hS⟩ : ∃ S, S = s.length := ⟨_, rfl⟩
        rw [← hS] at hl13
        have hl13' : Sem.run Try.prog (Instr.lookup 70 (.map (some g)) (.int .u64 13) true) w6 = .ok (.tuple #[.slice (some ⟨bs, os, none⟩) S cs, .bool true]) w6 := hl13
        have hstk : okR ol = (decide (2 ≤ S) && s.getD 0 0 == 0 && s.getD 1 0 == 0) := by unfold okR; rw [h2, h13, hS]; rfl
        have HSTK := Lib.hid hstk
        by_cases hlt : S < 2
        · have d1 : decide ((S : Int) < 2) = true := decide_eq_true (by omega)
          have d1' : decide (S < 2) = true := decide_eq_true hlt
          have HOKF : Hid (okR ol = false) := Lib.hid (by rw [hstk, decide_eq_false (by omega)]; rfl)
          clear hl13 h13 hl2 h2 hstk hS e13 e2 hlt hrs
          have k6 := K6.out
          have os1 := ansC_ones 0
          have os2 := ansC_size 0
          have lr := bk_lt k6
          go_wp2_with fail
          all_goals first | (exact absurd HH2.out (by assumption)) | skip
          have F9 : Hid (ClB (w6.setRow w.heap.size (ansC 0)) x (c.goes now) ∧ Tn (fun j => j = x) w (w6.setRow w.heap.size (ansC 0))) := Lib.hid ⟨⟨(bk_setRow_other _ _ _ _ (Nat.ne_of_lt hxl)).trans (by have := H6.out.box; rw [HT.out] at this; exact this), H6.out.n64, by have := H6.out.t64; rw [HT.out] at this; exact this, H6.out.i24, H6.out.s64, H6.out.w22⟩, T6.out.setRow (Nat.le_refl _)⟩
          refine ret_two (cs := ansC 0) rfl rfl rfl rfl (by rw [bk_setRow_same, k6]; rfl) Try.underlying36 rfl (by rw [ansC_size]; kernel_rfl) ?_
          unfold ReplyR
          rw [if_pos HOKF.out]
          exact ⟨rfl, F9.out⟩
        · have d1 : decide ((S : Int) < 2) = false := decide_eq_false (by omega)
          have d1' : decide (S < 2) = false := decide_eq_false hlt
          have i0 : (0 : Int) < (S : Int) := by omega
          have i1 : (1 : Int) < (S : Int) := by omega
          obtain ⟨_, _, e9, hbs, hcs⟩ := hrs (by omega)
          cases e9
          have u0 := hcs 0 (by omega)
          have u1 := hcs 1 (by omega)
          obtain ⟨s0, hs0⟩ : ∃ x, x = s[0]'(by omega) := ⟨_, rfl⟩
          obtain ⟨s1, hs1⟩ : ∃ x, x = s[1]'(by omega) := ⟨_, rfl⟩
          rw [← hs0, Nat.add_zero] at u0
          rw [← hs1] at u1
          have g0 : s.getD 0 0 = s0 := by rw [hs0]; simp [List.getD, List.getElem?_eq_getElem (show 0 < s.length by omega)]
          have g1 : s.getD 1 0 = s1 := by rw [hs1]; simp [List.getD, List.getElem?_eq_getElem (show 1 < s.length by omega)]
          rw [g0, g1, decide_eq_true (show 2 ≤ S by omega), Bool.true_and] at hstk
          have HSL := Lib.hid hbs
          clear hl13 h13 hS e13 hlt hrs hcs hs0 hs1 g0 g1 HSTK
          by_cases z0 : s0.toNat = 0
          · have n0 : ((s0.toNat : Int) != 0) = false := by rw [z0]; rfl
            by_cases z1 : s1.toNat = 0
            · have n1 : ((s1.toNat : Int) != 0) = false := by rw [z1]; rfl
              have HOKT : Hid (okR ol = true) := Lib.hid (by rw [hstk, show s0 = 0 from UInt8.toNat_inj.1 z0, show s1 = 0 from UInt8.toNat_inj.1 z1]; rfl)
              clear hstk z0 z1
              have hlen30 : ∀ k d, ol.lookup k = some d → d.length < 2 ^ 30 := fun k d hk => by have h1 := HOP.out.len k d hk; have h2 := HCB.out.2.1; have h3 := HBL.out; omega
              have CA := Lib.hid (answer2_any g n M (ol.lookup 23) (ol.lookup 24) (ol.lookup 32) w6 HM.out (OptAt.of HD.out hlen30 (Nat.le_refl _)) (OptAt.of HD.out hlen30 (Nat.le_refl _)) (OptAt.of HD.out hlen30 (Nat.le_refl _)))
              obtain ⟨F, hF⟩ : ∃ F, F = frsh (ol.lookup 32) := ⟨_, rfl⟩
              have hFl : F < 4294967296 := by rw [hF]; exact frsh_lt _
              have HF := Lib.hid hF
              obtain ⟨sv, hsv⟩ : ∃ s, s = srv' (ol.lookup 23) := ⟨_, rfl⟩
              obtain ⟨ds, hds⟩ : ∃ s, s = dnm (ol.lookup 24) := ⟨_, rfl⟩
              have HSD := Lib.hid (And.intro hsv hds)
              rw [← hF, ← hsv, ← hds] at CA
              clear hF hl2 h2 e2 hsv hds hlen30
              go_wp2_with fail
              refine CA.out.mono ?_
              rintro e w7 ⟨SA, DA, c1, c2, rfl, hAR, b7⟩
              obtain ⟨ns, hns⟩ : ∃ n, n = sv.length := ⟨_, rfl⟩
              obtain ⟨nd, hnd⟩ : ∃ n, n = ds.length := ⟨_, rfl⟩
              have HNN2 := Lib.hid (And.intro hns hnd)
              rw [← hns, ← hnd]
              have b8 : Below w7.heap.size w7 (w7.alloc (.cells (ansG SA DA ns nd F) 36 (0, 0))) := (by (repeat (first | exact Below.refl _ _ | assumption | refine Below.drew ?_ | refine bdrewN ?_ _ | refine Below.alloc ?_ (by first | omega | (simp <;> omega) | (simp only [World.size_alloc] <;> omega)) _ | refine below_setRow ?_ (by first | omega | (simp <;> omega)) _ | refine Below.setCell ?_ (by first | omega | (simp <;> omega)) _)))
              have B68 := b7.trans (b8.mono b7.size)
              have H8 := Lib.hid (H6.out.below B68)
              have K8 := Lib.hid (bk_keep B68 (bk_lt K6.out) K6.out)
              have T8 := Lib.hid (T6.out.trans (Tn.of B68) (G := fun _ => False) fun j hj => hj.elim)
              have KA := Lib.hid (bk_alloc_at w7 (.cells (ansG SA DA ns nd F) 36 (0, 0)) _ rfl)
              have A8 := Lib.hid (hAR.below b8)
              have hs7 : x < w7.heap.size := Nat.lt_of_lt_of_le (bk_lt H6.out.box) b7.size
              have hr7 : w.heap.size < w7.heap.size := Nat.lt_of_lt_of_le (bk_lt K6.out) b7.size
              have HX6 := Lib.hid (And.intro (bk_lt H6.out.box) (bk_lt K6.out))
              have os1 := ansG_ones SA DA ns nd F
              have os2 := ansG_size SA DA ns nd F
              clear CA b7 b8 B68 hl13' hl2' HM HD H6 K6 T6 hAR hns hnd
              go_upto_region 12 with fail
              change Code.wp _ _ _ _ (w7.alloc (.cells (ansG SA DA ns nd F) 36 (0, 0)))
              obtain ⟨ra, hra⟩ : ∃ r, r = w7.heap.size := ⟨_, rfl⟩
              rw [← hra] at KA hs7 hr7 ⊢
              clear hra
              generalize w7.alloc (.cells (ansG SA DA ns nd F) 36 (0, 0)) = w8 at *
              have cF : w8.cell? ⟨ra, 2, none⟩ = some (.int .u32 (F : Int)) := bk_cell KA.out 2
              have la := bk_lt KA.out
              have lx8 := bk_lt H8.out.box
              have f7 := bk_frozen H8.out.box 7; have f8 := bk_frozen H8.out.box 8; have f9 := bk_frozen H8.out.box 9
              have c7 := bk_cell H8.out.box 7; have c8 := bk_cell H8.out.box 8; have c9 := bk_cell H8.out.box 9
              simp [clC] at c7 c8 c9
              have CS := Lib.hid (csecs_any F w8 hFl)
              have hsc : secT F < 2 ^ 64 := by unfold secT far; split <;> omega
              have hT64 : T < 2 ^ 64 := by have := H8.out.t64; unfold far at this; simp only at this; omega
              have CA2 := Lib.hid (cadd_any T (secT F) w8 hT64 hsc)
              have hadd := addT_le T (secT F)
              obtain ⟨sc, hsc2⟩ : ∃ s, s = secT F := ⟨_, rfl⟩
              obtain ⟨nx, hnx⟩ : ∃ n, n = addT T sc := ⟨_, rfl⟩
              rw [← hsc2] at CS CA2 hadd
              rw [← hnx] at CA2 hadd
              have HNX : Hid (nx = addT (max c.tm now) (secT F)) := Lib.hid (by rw [hnx, hsc2, HT.out])
              have H9 : Hid (ClB (((w8.setCell ⟨x, 7, none⟩ (.bool false)).setCell ⟨x, 8, none⟩ (.bool true)).setCell ⟨x, 9, none⟩ (.int .u64 (nx : Int))) x { c.goes now with asks := false, fresh := true, next := nx }) := Lib.hid (by
                have h0 := H8.out
                rw [HT.out] at h0
                exact ⟨by rw [bk_setCell_same, bk_setCell_same, bk_setCell_same, h0.box]; rfl, hadd, h0.t64, h0.i24, h0.s64, h0.w22⟩)
              have t9 : Tn (fun j => j = x) w8 (((w8.setCell ⟨x, 7, none⟩ (.bool false)).setCell ⟨x, 8, none⟩ (.bool true)).setCell ⟨x, 9, none⟩ (.int .u64 (nx : Int))) := (((Tn.refl (fun j => j = x) w8).set (g := x) (.inl rfl)).set (g := x) (.inl rfl)).set (g := x) (.inl rfl)
              have T9 := Lib.hid (T8.out.trans t9 fun j hj => .inl hj)
              have K9 := Lib.hid (t9.keep (Nat.ne_of_gt hxl) K8.out)
              have KA9 := Lib.hid (t9.keep (Nat.ne_of_gt hs7) KA.out)
              have A9 := Lib.hid (A8.out.turn t9 (fun k e => by rw [e]; exact Nat.lt_succ_of_lt HX6.out.1))
              clear hsc hT64 hadd hsc2 hnx t9 T8 K8 H8 KA A8
              go_wp2_with fail
              refine CS.out.mono ?_
              rintro e w8' ⟨rfl, rfl⟩
              go_wp2_with fail
              refine CA2.out.mono ?_
              rintro e w8' ⟨rfl, rfl⟩
              go_upto_region 13 with fail
              clear cF c7 c8 c9 f7 f8 f9 lx8 la CS CA2
              change Code.wp _ _ _ _ (((w8.setCell ⟨x, 7, none⟩ (.bool false)).setCell ⟨x, 8, none⟩ (.bool true)).setCell ⟨x, 9, none⟩ (.int .u64 (nx : Int)))
              generalize ((w8.setCell ⟨x, 7, none⟩ (.bool false)).setCell ⟨x, 8, none⟩ (.bool true)).setCell ⟨x, 9, none⟩ (.int .u64 (nx : Int)) = w9 at *
              have os3 := ansC_size 0
              have k9 := K9.out
              have ka9 := KA9.out
              have lr9 := bk_lt k9
              have la9 := bk_lt ka9
              go_wp2_with fail
              all_goals first | (exact absurd (by assumption) HH2.out) | skip
              have F9 : Hid (ClB (w9.setRow w.heap.size (ansG SA DA ns nd F)) x { c.goes now with asks := false, fresh := true, next := nx } ∧ AnsR (w9.setRow w.heap.size (ansG SA DA ns nd F)) w.heap.size SA DA sv ds c1 c2 ∧ Tn (fun j => j = x) w (w9.setRow w.heap.size (ansG SA DA ns nd F))) := Lib.hid ⟨⟨(bk_setRow_other _ _ _ _ (Nat.ne_of_lt hxl)).trans H9.out.box, H9.out.n64, H9.out.t64, H9.out.i24, H9.out.s64, H9.out.w22⟩, (A9.out.setRow (Nat.lt_succ_of_lt HX6.out.2)).mono (Nat.le_succ_of_le (Nat.le_of_lt HX6.out.2)), T9.out.setRow (Nat.le_refl _)⟩
              have hFF := HF.out
              have hNN := HNX.out
              refine ret_two (cs := ansG SA DA ns nd F) rfl rfl rfl rfl ?_ Try.underlying36 rfl ?_ ?_
              · rw [bk_setRow_same, k9]; rfl
              · rw [ansG_size]; kernel_rfl
              · unfold ReplyR
                rw [if_neg (by rw [HOKT.out]; decide), ← hFF, ← HSD.out.1, ← HSD.out.2, ← HNN2.out.1, ← HNN2.out.2, ← hNN]
                exact ⟨SA, DA, c1, c2, rfl, F9.out⟩
            · have n1 : ((s1.toNat : Int) != 0) = true := by simp; omega
              have HOKF : Hid (okR ol = false) := Lib.hid (by rw [hstk, show (s1 == 0) = false from beq_eq_false_iff_ne.2 (fun e => z1 (by rw [e]; rfl)), Bool.and_false])
              clear hstk z0 z1 hl2 h2 e2
              have k6 := K6.out
              have os1 := ansC_ones 0
              have os2 := ansC_size 0
              have lr := bk_lt k6
              go_wp2_with fail
              all_goals first | (exact absurd HH2.out (by assumption)) | skip
              have F9 : Hid (ClB (w6.setRow w.heap.size (ansC 0)) x (c.goes now) ∧ Tn (fun j => j = x) w (w6.setRow w.heap.size (ansC 0))) := Lib.hid ⟨⟨(bk_setRow_other _ _ _ _ (Nat.ne_of_lt hxl)).trans (by have := H6.out.box; rw [HT.out] at this; exact this), H6.out.n64, by have := H6.out.t64; rw [HT.out] at this; exact this, H6.out.i24, H6.out.s64, H6.out.w22⟩, T6.out.setRow (Nat.le_refl _)⟩
              refine ret_two (cs := ansC 0) rfl rfl rfl rfl (by rw [bk_setRow_same, k6]; rfl) Try.underlying36 rfl (by rw [ansC_size]; kernel_rfl) ?_
              unfold ReplyR
              rw [if_pos HOKF.out]
              exact ⟨rfl, F9.out⟩
          · have n0 : ((s0.toNat : Int) != 0) = true := by simp; omega
            have HOKF : Hid (okR ol = false) := Lib.hid (by rw [hstk, show (s0 == 0) = false from beq_eq_false_iff_ne.2 (fun e => z0 (by rw [e]; rfl)), Bool.false_and])
            clear hstk z0 hl2 h2 e2
            have k6 := K6.out
            have os1 := ansC_ones 0
            have os2 := ansC_size 0
            have lr := bk_lt k6
            go_wp2_with fail
            all_goals first | (exact absurd HH2.out (by assumption)) | skip
            have F9 : Hid (ClB (w6.setRow w.heap.size (ansC 0)) x (c.goes now) ∧ Tn (fun j => j = x) w (w6.setRow w.heap.size (ansC 0))) := Lib.hid ⟨⟨(bk_setRow_other _ _ _ _ (Nat.ne_of_lt hxl)).trans (by have := H6.out.box; rw [HT.out] at this; exact this), H6.out.n64, by have := H6.out.t64; rw [HT.out] at this; exact this, H6.out.i24, H6.out.s64, H6.out.w22⟩, T6.out.setRow (Nat.le_refl _)⟩
            refine ret_two (cs := ansC 0) rfl rfl rfl rfl (by rw [bk_setRow_same, k6]; rfl) Try.underlying36 rfl (by rw [ansC_size]; kernel_rfl) ?_
            unfold ReplyR
            rw [if_pos HOKF.out]
            exact ⟨rfl, F9.out⟩
end Go.Proofs.Ytfldoihindbdmaa

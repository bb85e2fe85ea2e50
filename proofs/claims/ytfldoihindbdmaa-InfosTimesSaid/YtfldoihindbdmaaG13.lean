/- Infos: the document's answers, where the options do. -/
import Derived.Test.YtfldoihindbdmaaG13C
import Derived.Deep.DeepCutAuto
namespace Go.Proofs.Ytfldoihindbdmaa
open Go.RowKit
set_option maxRecDepth 100000
set_option maxHeartbeats 2000000
theorem rreply_acc (y : Nat) (c : Cl) (now : Nat) (A : Option Addr) (b rest : List UInt8) (cb : Nat) (w : World) (h : RClB w y c) (hr : Rd w w.heap.size A b) (hn : now ≤ far) (hcb : b.length ≤ cb) (hbx : ∀ bb o, A = some ⟨bb, o, none⟩ → bb ≠ y) (hno : c.asks = true)
    (hb : b = headB c ++ rest) (ol : List (Nat × List UInt8)) (hop : Opts rest ol) (hlen : b.length < 2 ^ 28) (hcc : cb < 2 ^ 63) (hok : okR ol = true) :
    Calls Try.prog 39 #[.pointer (some ⟨y, 0, none⟩), .int .u64 (now : Int), .slice A b.length cb] w (fun e w' => RRep w y c now e w' (some ol)) := by
  obtain ⟨res, hres⟩ : ∃ r, r = some ol := ⟨_, rfl⟩
  have HOP : Hid (OSt res rest []) := Lib.hid (by rw [hres]; exact ⟨ol, hop, rfl⟩)
  have HRES := Lib.hid hres
  have HOPT := Lib.hid hop
  have HOK := Lib.hid hok
  have HNO := Lib.hid hno
  have HID := Lib.hid h.i24
  have HCB := Lib.hid (And.intro hcb (And.intro hlen hcc))
  have HB := Lib.hid hb
  have HBL : Hid (b.length = 4 + rest.length) := Lib.hid (by rw [hb, List.length_append, headB_len])
  have HPF : Hid ((headB c).isPrefixOf b = true) := Lib.hid (by rw [hb]; exact List.isPrefixOf_iff_prefix.2 (List.prefix_append _ _))
  clear hno hcb hlen hcc hb hop hok hres
  have hb9 := (h.below ((Below.refl _ _).alloc (Nat.le_refl _) (.cells (ansC 0) 91))).box
  have c9 : (w.alloc (.cells #[.slice none 0 0, .slice none 0 0, .int .u32 0] 91)).cell? ⟨y, 9, none⟩ = some (.int .u64 (c.tm : Int)) := bk_cell hb9 9
  have lx : y < (w.alloc (.cells #[.slice none 0 0, .slice none 0 0, .int .u32 0] 91)).heap.size := bk_lt hb9
  have f9 : (w.alloc (.cells #[.slice none 0 0, .slice none 0 0, .int .u32 0] 91)).frozen? ⟨y, 9, none⟩ = false := bk_frozen hb9 9
  obtain ⟨T, hT⟩ : ∃ T, T = max c.tm now := ⟨_, rfl⟩
  have hmx1 : (if (c.tm : Int) < (now : Int) then (now : Int) else (c.tm : Int)) = (T : Int) := by split <;> omega
  have hmx2 : (if c.tm < now then (now : Int) else (c.tm : Int)) = (T : Int) := by split <;> omega
  have hmx3 : max (c.tm : Int) (now : Int) = (T : Int) := by omega
  have B0 : Below w.heap.size w (w.alloc (.cells (ansC 0) 91)) := (Below.refl _ _).alloc (Nat.le_refl _) _
  have HTF : Hid (T ≤ far ∧ T = max c.tm now) := Lib.hid ⟨by have := h.t64; omega, hT⟩
  have hcg : c.goes now = { c with tm := T } := by unfold Cl.goes; rw [hT]
  have HCG := Lib.hid hcg
  have hyl := bk_lt h.box
  have h00 : RClB (w.setCell ⟨y, 9, none⟩ (.int .u64 (T : Int))) y (c.goes now) := by
    rw [hcg]
    exact ⟨by rw [bk_setCell_same, h.box]; rfl, h.n64, HTF.out.1, h.i24, h.s64, h.w22⟩
  have ba : Below (w.setCell ⟨y, 9, none⟩ (.int .u64 (T : Int))).heap.size (w.setCell ⟨y, 9, none⟩ (.int .u64 (T : Int))) ((w.setCell ⟨y, 9, none⟩ (.int .u64 (T : Int))).alloc (.cells (ansC 0) 91)) := (Below.refl _ _).alloc (Nat.le_refl _) _
  have H1 : Hid (RClB ((w.setCell ⟨y, 9, none⟩ (.int .u64 (T : Int))).alloc (.cells (ansC 0) 91)) y (c.goes now)) := Lib.hid (h00.below ba)
  have T1 : Hid (Tn (fun k => k = y) w ((w.setCell ⟨y, 9, none⟩ (.int .u64 (T : Int))).alloc (.cells (ansC 0) 91))) := Lib.hid (Tn.trans (F := fun k => k = y) (G := fun _ => False) ((Tn.refl (fun k => k = y) w).set (.inl rfl)) (Tn.of ba) fun k hk => hk.elim)
  have K1 : Hid (bk ((w.setCell ⟨y, 9, none⟩ (.int .u64 (T : Int))).alloc (.cells (ansC 0) 91)) w.heap.size = some (.cells (ansC 0) 91 (0, 0))) := Lib.hid (bk_alloc_at (w.setCell ⟨y, 9, none⟩ (.int .u64 (T : Int))) (.cells (ansC 0) 91 (0, 0)) _ (by simp))
  have HR1 : Hid (Rd ((w.setCell ⟨y, 9, none⟩ (.int .u64 (T : Int))).alloc (.cells (ansC 0) 91)) ((w.setCell ⟨y, 9, none⟩ (.int .u64 (T : Int))).alloc (.cells (ansC 0) 91)).heap.size A b) := Lib.hid (rd_turn hr T1.out hbx)
  have hyl2 : y ≠ w.heap.size := Nat.ne_of_lt hyl
  clear h hr hn hT hcg B0 hbx hb9 h00 ba
  go_enter Try.func39, Try.ntmps39
  go_upto_region 2 with fail
  clear hmx1 hmx2 hmx3 c9 lx f9
  change Code.wp _ _ _ _ ((w.setCell ⟨y, 9, none⟩ (.int .u64 (T : Int))).alloc (.cells (ansC 0) 91))
  generalize (w.setCell ⟨y, 9, none⟩ (.int .u64 (T : Int))).alloc (.cells (ansC 0) 91) = w1 at *
  have k6 := bk_cell H1.out.box 6
  have k10 := bk_cell H1.out.box 10
  simp [rcC, Cl.goes] at k6 k10
  have ly := bk_lt H1.out.box
  rw [HNO.out] at k6
  have HL4 : Hid (4 ≤ b.length) := Lib.hid (by have := HBL.out; omega)
  have hl0 : 0 < b.length := by have := HL4.out; omega
  obtain ⟨bb, oo, rfl, hbb, hcl⟩ := HR1.out hl0
  obtain ⟨x0, hx0⟩ : ∃ x, x = b[0]'(by have := HL4.out; omega) := ⟨_, rfl⟩
  obtain ⟨x1, hx1⟩ : ∃ x, x = b[1]'(by have := HL4.out; omega) := ⟨_, rfl⟩
  obtain ⟨x2, hx2⟩ : ∃ x, x = b[2]'(by have := HL4.out; omega) := ⟨_, rfl⟩
  obtain ⟨x3, hx3⟩ : ∃ x, x = b[3]'(by have := HL4.out; omega) := ⟨_, rfl⟩
  have u0 := hcl 0 (by have := HL4.out; omega)
  have u1 := hcl 1 (by have := HL4.out; omega)
  have u2 := hcl 2 (by have := HL4.out; omega)
  have u3 := hcl 3 (by have := HL4.out; omega)
  rw [← hx0, Nat.add_zero] at u0
  rw [← hx1] at u1
  rw [← hx2] at u2
  rw [← hx3] at u3
  have HPR := Lib.hid (pref4 c b HL4.out HID.out)
  rw [← hx0, ← hx1, ← hx2, ← hx3] at HPR
  obtain ⟨N, hN⟩ : ∃ N, N = b.length := ⟨_, rfl⟩
  have HN := Lib.hid hN
  rw [← hN]
  have d4 : decide ((N : Int) < 4) = false := by have := HL4.out; simp; omega
  have d4' : decide (N < 4) = false := by have := HL4.out; simp; omega
  have q0 : (0 : Int) < (N : Int) := by have := HL4.out; omega
  have q1 : (1 : Int) < (N : Int) := by have := HL4.out; omega
  have q2 : (2 : Int) < (N : Int) := by have := HL4.out; omega
  have q3 : (3 : Int) < (N : Int) := by have := HL4.out; omega
  clear hl0 hcl hx0 hx1 hx2 hx3 hN
  have h7 : x0.toNat = 7 := by
    have h1 := HPR.out
    rw [HPF.out] at h1
    have h2 := (Bool.and_eq_true _ _).mp h1.symm
    exact of_decide_eq_true h2.1
  have hE : x1.toNat * 65536 + x2.toNat * 256 + x3.toNat = c.id := by
    have h1 := HPR.out
    rw [HPF.out] at h1
    have h2 := (Bool.and_eq_true _ _).mp h1.symm
    exact of_decide_eq_true h2.2
  have n7 : ((x0.toNat : Int) != 7) = false := by rw [h7]; rfl
  obtain ⟨z1, z2, z12, p1, p2, p3, p4, p5, p6, p7, p8, p9, p10, p11, p12, p13, p14⟩ := three32 x1 x2 x3 c.id hE
  have hne : ((c.id : Int) != (c.id : Int)) = false := by simp
  clear h7 hE
  go_region
  clear p1 p2 p3 p4 p5 p6 p7 p8 p9 p10 p11 p12 p13 p14 u0 u1 u2 u3 n7 hne d4 d4' q0 q1 q2 q3
  have bd : Below w1.heap.size w1 w1.drew := (by (repeat (first | exact Below.refl _ _ | assumption | refine Below.drew ?_ | refine bdrewN ?_ _ | refine Below.alloc ?_ (by first | omega | (simp <;> omega) | (simp only [World.size_alloc] <;> omega)) _ | refine below_setRow ?_ (by first | omega | (simp <;> omega)) _ | refine Below.setCell ?_ (by first | omega | (simp <;> omega)) _)))
  have H2 := Lib.hid (H1.out.below bd)
  have T2 := Lib.hid (T1.out.trans (Tn.of (F := fun _ => False) bd) fun j hj => hj.elim)
  have K2 := Lib.hid (bk_keep bd (bk_lt K1.out) K1.out)
  have HR2 := Lib.hid ((HR1.out.below bd (Nat.le_refl _)).mono bd.size)
  clear k6 k10 ly bd H1 T1 K1 HR1
  generalize w1.drew = w2 at *
  have HNR : Hid (N - 4 = rest.length ∧ 4 ≤ N ∧ N ≤ cb) := Lib.hid (by have := HN.out; have := HBL.out; have := HCB.out.1; omega)
  go_upto_region 4 with fail
  go_cut [8, 9] (fun s8 s9 wx => OCut w2 res s8 s9 wx)
  case first =>
    have hN4 := HNR.out.2.1
    have hNc := HNR.out.2.2
    by_cases hc4 : cb = 4
    · subst hc4
      obtain rfl : N = 4 := by omega
      have CO : Hid (Calls Try.prog 68 #[.slice (some ⟨bb, oo, none⟩) (0) (0)] w2 fun e w' => ORes w2 w' e res ∧ Below w2.heap.size w2 w') := Lib.hid (by
        have hn := (show (0 : Nat) = rest.length by have := HNR.out; omega)
        have C := roptions_any (some ⟨bb, oo, none⟩) rest (0) w2 (by rw [show rest = [] from List.eq_nil_of_length_eq_zero (by have := HNR.out; omega)]; exact Rd.nil) (by have := HNR.out; omega) (by have := HCB.out.2.2; omega) (by have := HNR.out; have := HCB.out.2.1; have := HN.out; omega) res HOP.out
        rw [← hn] at C
        exact C)
      go_wp2_with fail
      refine CO.out.mono ?_
      rintro e w3 ⟨hres, b3⟩
      obtain ⟨s8, s9, rfl, hcut⟩ := hres.case b3
      clear hres b3 CO
      have HCUT := Lib.hid hcut
      clear hcut
      go_wp2_with fail
      go_meet
      exact HCUT.out
    · skip
      have CO : Hid (Calls Try.prog 68 #[.slice (some ⟨bb, oo + 4, none⟩) (N - 4) (cb - 4)] w2 fun e w' => ORes w2 w' e res ∧ Below w2.heap.size w2 w') := Lib.hid (by
        have hn := HNR.out.1
        have C := roptions_any (some ⟨bb, oo + 4, none⟩) rest (cb - 4) w2 (rest_rd HR2.out HB.out) (by have := HNR.out; omega) (by have := HCB.out.2.2; omega) (by have := HNR.out; have := HCB.out.2.1; have := HN.out; omega) res HOP.out
        rw [← hn] at C
        exact C)
      go_wp2_with fail
      refine CO.out.mono ?_
      rintro e w3 ⟨hres, b3⟩
      obtain ⟨s8, s9, rfl, hcut⟩ := hres.case b3
      clear hres b3 CO
      have HCUT := Lib.hid hcut
      clear hcut
      go_wp2_with fail
      go_meet
      exact HCUT.out
  clear HR2
  rename_i hkk
  apply hkk
  clear hkk
  have H3 := Lib.hid (H2.out.below hcut.2)
  have T3 := Lib.hid (T2.out.trans (Tn.of (F := fun _ => False) hcut.2) fun j hj => hj.elim)
  have K3 := Lib.hid (bk_keep hcut.2 (bk_lt K2.out) K2.out)
  have HY2 := Lib.hid (And.intro (bk_lt H2.out.box) (And.intro (bk_lt K2.out) hcut.2.size))
  rw [HRES.out] at hcut HOP
  obtain ⟨⟨LA, lc, rfl, rfl, hro⟩, _⟩ := hcut
  obtain ⟨M, hM⟩ : ∃ M, M = w2.heap.size := ⟨_, rfl⟩
  rw [← hM] at hro
  have hlo : ol.length < 2 ^ 28 := by
    obtain ⟨todo, ho, e⟩ := HOP.out
    rw [List.nil_append] at e
    subst e
    have := ho.count; have := HBL.out; have := HCB.out.2.1; omega
  have HRO := Lib.hid (And.intro hro (show ol.length < 2 ^ 30 by omega))
  have HM := Lib.hid hM
  have CF1 := Lib.hid (rfind_any M 2 LA lc ol wc hro (by decide) (by omega))
  have CF2 := Lib.hid (rfind_any M 13 LA lc ol wc hro (by decide) (by omega))
  clear H2 T2 hro hlo hM
  go_wp2_with fail
  refine CF1.out.mono ?_
  rintro e w3' ⟨hf1, rfl⟩
  obtain ⟨A2, c2, rfl, _, _, _⟩ := hf1.case
  clear hf1 CF1
  go_wp2_with fail
  refine CF2.out.mono ?_
  rintro e w3' ⟨hf2, rfl⟩
  obtain ⟨A13, c13, rfl, hr13, hl13, h13c⟩ := hf2.case
  clear hf2 CF2
  obtain ⟨n2, hn2⟩ : ∃ n, n = ((ol.lookup 2).getD []).length := ⟨_, rfl⟩
  obtain ⟨i2, hi2⟩ : ∃ n, n = (ol.lookup 2).isSome := ⟨_, rfl⟩
  obtain ⟨st, hst⟩ : ∃ n, n = ol.lookup 13 := ⟨_, rfl⟩
  have HOKV : Hid (okR ol = (i2 && stOk st)) := Lib.hid (by unfold okR; rw [hi2, hst])
  rw [← hn2, ← hi2, ← hst]
  rw [← hst] at hr13
  obtain ⟨n13, hn13⟩ : ∃ n, n = (st.getD []).length := ⟨_, rfl⟩
  obtain ⟨i13, hi13⟩ : ∃ n, n = st.isSome := ⟨_, rfl⟩
  rw [← hn13]
  rw [← hi13]
  have HN13 := Lib.hid (And.intro hn13 hi13)
  clear hn2 hi2 hst hn13 hi13 h13c hl13
  go_upto_region 7 with fail
  go_cut [114] (fun s wx => s = .bool (!(okR ol)) ∧ wc = wx)
  case first =>
    cases i2 with
    | false =>
      have h1 := HOK.out
      rw [HOKV.out] at h1
      cases h1
    | true =>
      cases st with
      | none =>
        obtain rfl : i13 = false := HN13.out.2
        clear hr13
        go_wp2_with fail
        go_meet
        rw [HOKV.out]
        exact ⟨rfl, rfl⟩
      | some s =>
        obtain rfl : i13 = true := HN13.out.2
        have hS : n13 = s.length := HN13.out.1
        simp only [Option.getD_some] at hr13
        have hstk : okR ol = (decide (2 ≤ n13) && s.getD 0 0 == 0 && s.getD 1 0 == 0) := by rw [HOKV.out, hS]; rfl
        by_cases hlt : n13 < 2
        · have d1 : decide ((n13 : Int) < 2) = true := decide_eq_true (by omega)
          have d1' : decide (n13 < 2) = true := decide_eq_true hlt
          have h1 := HOK.out
          rw [hstk, decide_eq_false (by omega)] at h1
          cases h1
        · have d1 : decide ((n13 : Int) < 2) = false := decide_eq_false (by omega)
          have d1' : decide (n13 < 2) = false := decide_eq_false hlt
          have i0 : (0 : Int) < (n13 : Int) := by omega
          have i1 : (1 : Int) < (n13 : Int) := by omega
          obtain ⟨bs, os, rfl, hbs, hcs⟩ := hr13 (by omega)
          have lbs : bs < wc.heap.size := Nat.lt_of_lt_of_le hbs (by rw [HM.out]; exact HY2.out.2.2)
          have u0 := hcs 0 (by omega)
          have u1 := hcs 1 (by omega)
          obtain ⟨s0, hs0⟩ : ∃ x, x = s[0]'(by omega) := ⟨_, rfl⟩
          obtain ⟨s1, hs1⟩ : ∃ x, x = s[1]'(by omega) := ⟨_, rfl⟩
          rw [← hs0, Nat.add_zero] at u0
          rw [← hs1] at u1
          have g0 : s.getD 0 0 = s0 := by rw [hs0]; simp [List.getD, List.getElem?_eq_getElem (show 0 < s.length by omega)]
          have g1 : s.getD 1 0 = s1 := by rw [hs1]; simp [List.getD, List.getElem?_eq_getElem (show 1 < s.length by omega)]
          rw [g0, g1, decide_eq_true (show 2 ≤ n13 by omega), Bool.true_and] at hstk
          clear hS hlt hcs hs0 hs1 g0 g1
          by_cases z0 : s0.toNat = 0
          · have n0 : ((s0.toNat : Int) != 0) = false := by rw [z0]; rfl
            by_cases z1 : s1.toNat = 0
            · have n1 : ((s1.toNat : Int) != 0) = false := by rw [z1]; rfl
              have HV : Hid (okR ol = true) := Lib.hid (by rw [hstk, show s0 = 0 from UInt8.toNat_inj.1 z0, show s1 = 0 from UInt8.toNat_inj.1 z1]; rfl)
              clear hstk z0 z1
              go_wp2_with fail
              go_meet
              rw [HV.out]
              exact ⟨rfl, rfl⟩
            · have n1 : ((s1.toNat : Int) != 0) = true := by simp; omega
              have h1 := HOK.out
              rw [hstk, show (s1 == 0) = false from beq_eq_false_iff_ne.2 (fun e => z1 (by rw [e]; rfl)), Bool.and_false] at h1
              cases h1
          · have n0 : ((s0.toNat : Int) != 0) = true := by simp; omega
            have h1 := HOK.out
            rw [hstk, show (s0 == 0) = false from beq_eq_false_iff_ne.2 (fun e => z0 (by rw [e]; rfl)), Bool.false_and] at h1
            cases h1
  obtain ⟨rfl, rfl⟩ := hcut
  rename_i hkk
  apply hkk
  clear hkk hr13
  rw [HOK.out]
  go_upto_region 9 with fail
  go_cut [14] (fun s wx => s = .pointer (some ⟨wc.heap.size, 0, none⟩) ∧ wc.alloc (.cells (raC none none 0 0 0 0 86400) 91) = wx)
  case first =>
    have os1 := raC_ones none none 0 0 0 0 86400
    have os2 := raC_size none none 0 0 0 0 86400
    go_wp2_with fail
    go_meet
    exact ⟨rfl, rfl⟩
  obtain ⟨rfl, rfl⟩ := hcut
  rename_i hkk
  apply hkk
  have bA : Below wc.heap.size wc (wc.alloc (.cells (raC none none 0 0 0 0 86400) 91 (0, 0))) := (by (repeat (first | exact Below.refl _ _ | assumption | refine Below.drew ?_ | refine bdrewN ?_ _ | refine Below.alloc ?_ (by first | omega | (simp <;> omega) | (simp only [World.size_alloc] <;> omega)) _ | refine below_setRow ?_ (by first | omega | (simp <;> omega)) _ | refine Below.setCell ?_ (by first | omega | (simp <;> omega)) _)))
  have hA : Ac w (wc.alloc (.cells (raC none none 0 0 0 0 86400) 91 (0, 0))) M (wc.heap.size + 1) y wc.heap.size (c.goes now) none none 0 0 86400 [] [] :=
    ⟨H3.out.below bA, bk_keep bA (bk_lt K3.out) K3.out, bk_alloc_at _ _ _ rfl, World.ownsRow_nil _ _ _ _, OutT.nil, T3.out.trans (Tn.of (F := fun _ => False) bA) (fun j hj => hj.elim), hyl, by rw [HM.out]; exact HY2.out.2.1, by rw [HM.out]; exact HY2.out.2.2, Nat.lt_succ_self _, by simp⟩
  exact rtail10 w _ M _ y _ now lc c _ LA ol hA ⟨HRO.out.1.below bA (by rw [HM.out]; exact HY2.out.2.2), HRO.out.2⟩ rfl (by have := HTF.out; omega) (fun k d hk => by have h1 := HOPT.out.len k d hk; have h2 := HBL.out; have h3 := HCB.out.2.1; omega) _ _ _ _ _ _ _ _ _ _ _ _ _ _ _ _ _ _ _ _ _ _ _ _ _ _ _ _ _ _ _ _ _ _ _ _ _ _ _ _ _ _ _ _ _ _ _ _ _ _ _ _ _ _ _ _ _ _ _ _ _ _ _ _ _ _ _ _ _ _ _ _ _ _ _ _ _ _ _ _ _ _ _ _ _ _ _ _ _ _ _ _ _ _ _ _ _ _ _ _ _ _ _ _ _ _ _ _ _ _ _ _ _ _ _ _ _ _ _ _ _ _ _ _ _ _ _ _ _ _ _ _ _ _ _ _ _ _ _ _ _ _ _ _ _ _ _ _ _ _ _ _ _ _ _ _ _ _ _ _ _ _ _ _ _ _ _ _ _ _ _ _ _ _ _ _ _ _ _ _ _ _ _ _ _ _ _ _ _ _ _ _ _ _ _ _ _ _ _ _ _ _ _ _ _ _ _ _ _ _ _ _ _ _
end Go.Proofs.Ytfldoihindbdmaa

/- InfosPlay: world.does where a reply comes in. -/
import Derived.Test.YtfldoihindbdmaaG22
namespace Go.Proofs.Ytfldoihindbdmaa
open Go.RowKit
set_option maxRecDepth 100000
set_option maxHeartbeats 4000000
@[go_sem ↓] theorem ldAnsP (dst : Option Tmp) (x : Operand) (t : TypeId) (pos : String) (af : Array Edge) (g : Option (Nat × Bool)) (a : Act) (w : World) (K : Act → World → Prop) (Q : Exit → Act → World → Prop) :
    Oper.wp Try.prog ⟨dst, .load 36 x, t, pos, af, g⟩ a w K Q = ldPtr (wpHid Try.prog ⟨dst, .load 36 x, t, pos, af, g⟩ a w K Q) 3 w (fun c => K (a.put dst (.agg c)) w) (a.eval x) :=
  wp_load_bk 36 3 _ Try.underlying36 rfl (by kernel_rfl) dst x t pos af g a w K Q
@[go_sem ↓] theorem stAnsP (dst : Option Tmp) (x y : Operand) (t : TypeId) (pos : String) (af : Array Edge) (g : Option (Nat × Bool)) (a : Act) (w : World) (K : Act → World → Prop) (Q : Exit → Act → World → Prop) :
    Oper.wp Try.prog ⟨dst, .store 36 x y, t, pos, af, g⟩ a w K Q = stPtr (wpHid Try.prog ⟨dst, .store 36 x y, t, pos, af, g⟩ a w K Q) 3 w (fun w' => K (a.put dst undef) w') (a.eval x) (a.eval y) :=
  wp_store_bk 36 3 (by kernel_rfl) dst x y t pos af g a w K Q
@[go_sem ↓] theorem qlAnsP (dst : Option Tmp) (x : Operand) (t : TypeId) (pos : String) (af : Array Edge) (g : Option (Nat × Bool)) (a : Act) (m : Nat) (W : World) (K : Act → Prop) :
    Oper.quiet Try.prog ⟨dst, .load 36 x, t, pos, af, g⟩ a (fun w' => ∃ x : Later m W, w' = x.w) K =
      ldLater (quietHid Try.prog ⟨dst, .load 36 x, t, pos, af, g⟩ a (fun w' => ∃ x : Later m W, w' = x.w) K) m 3 W (fun c => K (a.put dst (.agg c))) (a.eval x) :=
  quiet_load_bk 36 3 _ Try.underlying36 rfl (by kernel_rfl) dst x t pos af g a m W K
@[go_sem ↓] theorem ldAnsD (dst : Option Tmp) (x : Operand) (t : TypeId) (pos : String) (af : Array Edge) (g : Option (Nat × Bool)) (a : Act) (w : World) (K : Act → World → Prop) (Q : Exit → Act → World → Prop) :
    Oper.wp Try.prog ⟨dst, .load 91 x, t, pos, af, g⟩ a w K Q = ldPtr (wpHid Try.prog ⟨dst, .load 91 x, t, pos, af, g⟩ a w K Q) 3 w (fun c => K (a.put dst (.agg c)) w) (a.eval x) :=
  wp_load_bk 91 3 _ Try.underlying91 rfl (by kernel_rfl) dst x t pos af g a w K Q
@[go_sem ↓] theorem stAnsD (dst : Option Tmp) (x y : Operand) (t : TypeId) (pos : String) (af : Array Edge) (g : Option (Nat × Bool)) (a : Act) (w : World) (K : Act → World → Prop) (Q : Exit → Act → World → Prop) :
    Oper.wp Try.prog ⟨dst, .store 91 x y, t, pos, af, g⟩ a w K Q = stPtr (wpHid Try.prog ⟨dst, .store 91 x y, t, pos, af, g⟩ a w K Q) 3 w (fun w' => K (a.put dst undef) w') (a.eval x) (a.eval y) :=
  wp_store_bk 91 3 (by kernel_rfl) dst x y t pos af g a w K Q
@[go_sem ↓] theorem qlAnsD (dst : Option Tmp) (x : Operand) (t : TypeId) (pos : String) (af : Array Edge) (g : Option (Nat × Bool)) (a : Act) (m : Nat) (W : World) (K : Act → Prop) :
    Oper.quiet Try.prog ⟨dst, .load 91 x, t, pos, af, g⟩ a (fun w' => ∃ x : Later m W, w' = x.w) K =
      ldLater (quietHid Try.prog ⟨dst, .load 91 x, t, pos, af, g⟩ a (fun w' => ∃ x : Later m W, w' = x.w) K) m 3 W (fun c => K (a.put dst (.agg c))) (a.eval x) :=
  quiet_load_bk 91 3 _ Try.underlying91 rfl (by kernel_rfl) dst x t pos af g a m W K
theorem own_set {w : World} {base g n c j : Nat} {e : TypeId} {l : List UInt8} (z : UInt8) (h : w.ownsRow base e 1 (.slice (some ⟨g, 0, none⟩) n c) n (l.map B)) : (w.setCell ⟨g, j, none⟩ (B z)).ownsRow base e 1 (.slice (some ⟨g, 0, none⟩) n c) n ((l.set j z).map B) := by
  refine ⟨by have := h.1; simpa using this, ?_⟩
  rcases h.2 with ⟨q, _⟩ | ⟨g', cap, cur, q, h1, h2, h3, h4, h5, h6⟩
  · cases q
  · cases q
    refine .inr ⟨g, c, cur.setIfInBounds j (B z), rfl, h1, ?_, h3, h4, by simpa using h5, ?_⟩
    · show bk _ g = _
      rw [bk_setCell_same, show bk w g = _ from h2]; rfl
    · rw [Array.toList_setIfInBounds, List.take_set, h6, List.map_set]
theorem does_reply (n x y m q now : Nat) (p : Option Addr) (c : Cl) (l : List Nat) (a : Ai) (w : World) (h : Wv w n x y p m q c l) (ha : AiOk w n a) (hn : now ≤ far) (hal : a.l.length ≤ 1500) (hk1 : (a.kind.toNat : Int) % 5 = 1 ∨ (a.kind.toNat : Int) % 5 = 2) :
    Calls Try.prog 21 #[.agg (wlC x y p q), .int .u64 (now : Int), .agg a.row] w (Does w n x y p m q) := by
  have ST := Lib.hid h.st
  have HV := Lib.hid h
  have HNM := Lib.hid h.nm
  have HA := Lib.hid ha
  have HN := Lib.hid hn
  obtain ⟨N, hN⟩ : ∃ N, N = a.l.length := ⟨_, rfl⟩
  have hN15 : N ≤ 1500 := by omega
  have HNL := Lib.hid hN
  obtain ⟨bx, hbx⟩ : ∃ b, b = w.heap.size := ⟨_, rfl⟩
  have HBX := Lib.hid hbx
  have hk0 : ¬ (a.kind.toNat : Int) % 5 = 0 := by omega
  have B2 : Hid (Below w.heap.size w ((w.alloc (.cells (wlC x y p q) 63)).alloc (.cells a.row 25))) := Lib.hid (((Below.refl _ _).alloc (Nat.le_refl _) _).alloc (by simp) _)
  have K2 : Hid (bk ((w.alloc (.cells (wlC x y p q) 63)).alloc (.cells a.row 25)) bx = some (.cells (wlC x y p q) 63 (0, 0))) := Lib.hid (by rw [hbx, bk_alloc_past _ _ _ (by simp)]; exact bk_alloc_at _ _ _ rfl)
  have A2 : Hid (bk ((w.alloc (.cells (wlC x y p q) 63)).alloc (.cells a.row 25)) (w.heap.size + 1) = some (.cells a.row 25 (0, 0))) := Lib.hid (bk_alloc_at _ _ _ (by simp))
  clear hbx hN h ha hn hal
  go_enter Try.func21, Try.ntmps21
  go_upto_region 1 with fail
  rw [← HBX.out]
  rw [← HBX.out] at A2
  generalize (w.alloc (.cells (wlC x y p q) 63)).alloc (.cells a.row 25) = w2 at *
  have u0 : w2.cell? ⟨bx + 1, 0, none⟩ = some (.int .u8 (a.kind.toNat : Int)) := (bk_cell A2.out 0).trans rfl
  have u1 : w2.cell? ⟨bx + 1, 1, none⟩ = some (.slice a.A N a.c) := (bk_cell A2.out 1).trans (by rw [HNL.out]; rfl)
  have u2 : w2.cell? ⟨bx + 1, 2, none⟩ = some (.bool a.ours) := (bk_cell A2.out 2).trans rfl
  have V2 := Lib.hid (HV.out.below B2.out)
  have BN : Hid (Tn (DF x y q p) w w2) := Lib.hid (Tn.of B2.out)
  have HBXn : Hid (m ≤ bx ∧ bx + 1 < w2.heap.size) := Lib.hid ⟨by rw [HBX.out]; exact HNM.out.2, bk_lt A2.out⟩
  have HR2 : Hid (Rd w2 w2.heap.size a.A a.l) := Lib.hid (((HA.out.rd.mono HNM.out.1).below B2.out (Nat.le_refl _)).mono B2.out.size)
  clear HV B2
  have d5 : (a.kind.toNat : Int) % 5 = 1 ∨ (¬ (a.kind.toNat : Int) % 5 = 1 ∧ (a.kind.toNat : Int) % 5 = 2) := by omega
  clear hk1
  rcases d5 with d5 | ⟨d5, d6⟩
  all_goals
    go_upto_region 17 with (at_builtin; refine append_rd rfl _ _ rfl w2.heap.size (.slice none 0 0) 0 [] rfl (World.ownsRow_nil _ _ _ _) a.A a.l a.c (by rw [← HNL.out]; rfl) (HA.out.nil) HR2.out (by rw [← HNL.out]; omega) (Nat.le_refl _) ?_; intro v7 w3 ho3 hg3)
    clear hk0 u0 u1
    first | clear d5 d6 | clear d5
    obtain ⟨A7, c7, rfl⟩ := ownsRow_header ho3
    have u2' : w3.cell? ⟨bx + 1, 2, none⟩ = some (.bool a.ours) := (World.cell?_of_block (a := ⟨bx + 1, 2, none⟩) (hg3.block _ HBXn.out.2 (fun e => by cases e))).trans u2
    have B3 : Hid (Below w2.heap.size w2 w3) := Lib.hid ((Below.refl _ _).grown hg3 (Nat.le_refl _) (fun g hg => by cases hg))
    have HO : Hid (∃ L : List UInt8, L.length = N ∧ w3.ownsRow w2.heap.size 5 1 (.slice A7 N c7) N (L.map B)) := Lib.hid ⟨a.l, HNL.out.symm, by have := ho3; rw [← HNL.out] at this; simpa using this⟩
    rw [show 0 + a.l.length = N by rw [HNL.out]; omega]
    clear u2 ho3 hg3
    go_cut [80] (fun s wx => s = .bool (a.ours && decide (4 ≤ N)) ∧ wx = w3)
    case first =>
      cases hO : a.ours with
      | false =>
        rw [hO] at u2'
        go_wp2_with fail
        go_meet
        exact ⟨by rw [hO]; rfl, rfl⟩
      | true =>
        rw [hO] at u2'
        by_cases h4 : 4 ≤ N
        · have d4 : decide ((N : Int) ≥ 4) = true := by simp; omega
          go_wp2_with fail
          go_meet
          simp [h4, hO]
        · have d4 : decide ((N : Int) ≥ 4) = false := by simp; omega
          go_wp2_with fail
          go_meet
          simp [h4, hO]
    obtain ⟨rfl, rfl⟩ := hcut
    rename_i hkk
    apply hkk
    clear hkk u2'
    go_cut [7] (fun s wx => s = .slice A7 N c7 ∧ Hid (Below w2.heap.size w2 wx) ∧ Hid (∃ L : List UInt8, L.length = N ∧ wx.ownsRow w2.heap.size 5 1 (.slice A7 N c7) N (L.map B)))
    case first =>
      have K3 := bk_keep B3.out (bk_lt K2.out) K2.out
      have V3 := V2.out.below B3.out
      have z1 := (bk_cell K3 1).trans z1_rfl
      have z5 := (bk_cell V3.cy.box 10).trans (show (rcC c)[10]? = some (.int .u32 (c.id : Int)) from rfl)
      clear K3 V3
      cases hO : (a.ours && decide (4 ≤ N)) with
      | false =>
        go_wp2_with fail
        go_meet
        exact ⟨rfl, B3, HO⟩
      | true =>
        have h4 : 4 ≤ N := by simp at hO; exact hO.2
        obtain ⟨L, hL, ho⟩ := HO.out
        rcases ho.2 with ⟨e, _⟩ | ⟨g, cap, cur, e, hg, hb, hc1, hc2, hc3, _⟩
        · cases e; omega
        · cases e
          have HOW := Lib.hid ho; have HLL := Lib.hid hL
          have hb' := (show bk _ g = some (.cells cur 5 (0, 0)) from hb)
          have f1 := bk_frozen hb' 1; have f2 := bk_frozen hb' 2; have f3 := bk_frozen hb' 3
          obtain ⟨v1, e1⟩ : ∃ v, cur[1]? = some v := ⟨_, Array.getElem?_eq_getElem (by omega)⟩
          obtain ⟨v2, e2⟩ : ∃ v, cur[2]? = some v := ⟨_, Array.getElem?_eq_getElem (by omega)⟩
          obtain ⟨v3, e3⟩ : ∃ v, cur[3]? = some v := ⟨_, Array.getElem?_eq_getElem (by omega)⟩
          rw [← bk_cell hb'] at e1 e2 e3
          obtain ⟨b1, q1⟩ := u8_mod ((c.id : Int) / 65536)
          obtain ⟨b2, q2⟩ := u8_mod ((c.id : Int) / 256)
          obtain ⟨b3, q3⟩ := u8_mod (c.id : Int)
          have Q := Lib.hid (And.intro q1 (And.intro q2 q3))
          have hgy : g ≠ y ∧ g ≠ bx := by have h1 := HBXn.out; have h2 := ST.out.ym; have h3 := V2.out.nm; omega
          have hgn : Hid (w2.heap.size ≤ g) := Lib.hid hg
          clear hb hb' ho hL hc1 hc2 hc3 q1 q2 q3 hg hO
          go_wp2_with fail
          go_meet
          refine ⟨rfl, Lib.hid (((B3.out.setCell hgn.out _).setCell hgn.out _).setCell hgn.out _), Lib.hid ⟨((L.set 1 b1).set 2 b2).set 3 b3, by simp [HLL.out], ?_⟩⟩
          rw [Q.out.1, Q.out.2.1, Q.out.2.2]
          exact own_set b3 (own_set b2 (own_set b1 HOW.out))
    obtain ⟨rfl, B5, HL5⟩ := hcut
    apply_assumption
    clear HO B3
    generalize hw5 : wc = w5 at *
    clear hw5
    obtain ⟨L, hLN, ho⟩ := HL5.out
    obtain ⟨A', c', e, hRL, hAL, hcL⟩ := Rd.of_own ho hLN.symm
    obtain ⟨rfl, hNN, rfl⟩ := Value.slice.inj e
    clear e hNN
    obtain ⟨ok, c1, sv, ds, F, hi1, hs16, hCP, hCD⟩ := reply_both n x y m q now p c l ST.out HN.out V2.out.inv L (by omega)
    rw [hLN] at hCP hCD
    have CP := Lib.hid hCP; have CD := Lib.hid hCD; have HI1 := Lib.hid (And.intro hi1 hs16)
    have V5 := Lib.hid (V2.out.below B5.out)
    have K5 := Lib.hid (bk_keep B5.out (bk_lt K2.out) K2.out)
    have BN5 : Hid (Tn (DF x y q p) w w5) := Lib.hid (BN.out.next B5.out)
    have HA7 : Hid (∀ bb o, A7 = some ⟨bb, o, none⟩ → w2.heap.size ≤ bb) := Lib.hid fun bb o e => (ho.lt bb (by rw [e]; rfl)).1
    have HC7 : Hid (N ≤ c7 ∧ c7 < 2 ^ 63) := Lib.hid ⟨by rw [← hLN]; exact hcL, by
      rcases ho.2 with ⟨e, _⟩ | ⟨_, _, _, e, _, _, _, h, _⟩
      · rw [(Value.slice.inj e).2.2]; decide
      · rw [(Value.slice.inj e).2.2]; unfold maxLen at h; omega⟩
    have HR5 := Lib.hid hRL
    have HLN := Lib.hid hLN
    have CT : Hid (Calls Try.prog 38 #[.slice A7 N c7] w5 fun e w' => e = .returned (.slice (some ⟨w5.heap.size, 0, none⟩) N (N + 4)) ∧ bk w' w5.heap.size = some (.cells (List.map B (tw L 199)).toArray 5 (0, 0)) ∧ Below w5.heap.size w5 w') := Lib.hid (by
      have := twinBytes_any A7 L c7 w5 hRL (by omega)
      rw [hLN] at this
      exact this)
    obtain ⟨g8, hg8⟩ : ∃ g, g = w5.heap.size := ⟨_, rfl⟩
    rw [← hg8] at CT
    have HG8 : Hid (w2.heap.size ≤ g8) := Lib.hid (by rw [hg8]; exact B5.out.size)
    clear hi1 hs16 hCP hCD HL5 ho hRL hAL hcL hLN K2 BN B5
    go_wp2_with fail
    refine CT.out.mono ?_
    rintro e w6 ⟨rfl, hT6, b6⟩
    rw [hg8] at b6
    have V6 := Lib.hid (V5.out.below b6)
    have K6 := Lib.hid (bk_keep b6 (bk_lt K5.out) K5.out)
    have BN6 := Lib.hid (BN5.out.next b6)
    have HR6 := Lib.hid ((HR5.out.below b6 (Nat.le_refl _)).mono b6.size)
    have T6 := Lib.hid hT6
    have HG6 : Hid (g8 < w6.heap.size) := Lib.hid (bk_lt hT6)
    have RT6 : Hid (Rd w6 w6.heap.size (some ⟨g8, 0, none⟩) L) := Lib.hid (Rd.of_bk hT6 (bk_lt hT6) (tw_head L 199))
    have z0 : w6.cell? ⟨bx, 0, none⟩ = some (.pointer (some ⟨x, 0, none⟩)) := (bk_cell K6.out 0).trans z0_rfl
    clear CT b6 hT6 V5 K5 BN5 HR5 hg8
    have CX : Hid (Calls Try.prog 9 #[.pointer (some ⟨x, 0, none⟩), .int .u64 (now : Int), .slice (some ⟨g8, 0, none⟩) N (N + 4)] w6 (PRep w6 x p c1 l ok sv ds F)) := Lib.hid (CP.out w6 _ _ V6.out.px RT6.out (by omega) (by omega) (fun bb o e => by cases e; have h1 := HG8.out; have h2 := ST.out.xm; have h3 := V2.out.nm.2; omega))
    clear CP RT6
    go_wp2_with fail
    refine CX.out.mono ?_
    rintro e w7 ⟨SA, DA, k1, k2, rfl, han7, p7, t7⟩
    have os1 := ansG_ones SA DA sv.length ds.length F
    have os2 := ansG_size SA DA sv.length ds.length F
    clear CX z0
    have AN7 := Lib.hid han7; have P7 := Lib.hid p7; have T7 := Lib.hid t7
    clear han7 p7 t7
    go_upto_region 23 with fail
    change Code.wp _ _ _ _ (w7.alloc (.cells (ansG SA DA sv.length ds.length F) 36 (0, 0)))
    have b8 : Below w7.heap.size w7 (w7.alloc (.cells (ansG SA DA sv.length ds.length F) 36 (0, 0))) := (by (repeat (first | exact Below.refl _ _ | assumption | refine Below.drew ?_ | refine bdrewN ?_ _ | refine Below.alloc ?_ (by first | omega | (simp <;> omega) | (simp only [World.size_alloc] <;> omega)) _ | refine below_setRow ?_ (by first | omega | (simp <;> omega)) _ | refine Below.setCell ?_ (by first | omega | (simp <;> omega)) _)))
    have k8 := bk_alloc_at w7 (.cells (ansG SA DA sv.length ds.length F) 36 (0, 0)) _ rfl
    obtain ⟨r9, hr9⟩ : ∃ r, r = w7.heap.size := ⟨_, rfl⟩
    rw [← hr9] at k8 ⊢
    have HR9 := Lib.hid hr9
    clear hr9
    generalize w7.alloc (.cells (ansG SA DA sv.length ds.length F) 36 (0, 0)) = w8 at *
    have KP8 := Lib.hid k8
    have FX : Hid (¬ bx = x ∧ ¬ bx = y) := Lib.hid (by have h1 := HBXn.out.1; have h2 := ST.out.xm; have h3 := ST.out.ym; omega)
    have T8 : Hid (Tn (fun k => k = x) w6 w8) := Lib.hid (T7.out.trans (Tn.of (F := fun _ => False) b8) fun k hk => hk.elim)
    have AN8 := Lib.hid (AN7.out.below b8)
    have CX8 := Lib.hid (P7.out.cl.below b8)
    have D8 : Hid (Dy w8 y m q c l) := Lib.hid ⟨V6.out.cy.keep T8.out (fun e => ST.out.xy e.symm), V6.out.wq.keep T8.out (fun k hk => hk ▸ ⟨ST.out.xm, ST.out.xq⟩)⟩
    have K8 := Lib.hid (T8.out.keep FX.out.1 K6.out)
    have HR8 : Hid (Rd w8 w8.heap.size A7 L) := Lib.hid (rd_turn HR6.out T8.out fun bb o e hf => by have h1 := HA7.out bb o e; have h2 := ST.out.xm; have h3 := V2.out.nm.2; omega)
    have TT8 := Lib.hid (T8.out.keep (F := fun k => k = x) (by have h1 := HG8.out; have h2 := ST.out.xm; have h3 := V2.out.nm.2; omega) T6.out)
    have CY : Hid (Calls Try.prog 39 #[.pointer (some ⟨y, 0, none⟩), .int .u64 (now : Int), .slice A7 N c7] w8 (DRep w8 y m q c1 l ok sv ds F)) := Lib.hid (CD.out w8 _ _ D8.out HR8.out HC7.out.1 HC7.out.2 (fun bb o e => by have h1 := HA7.out bb o e; have h2 := ST.out.ym; have h3 := V2.out.nm.2; omega))
    have z1 : w8.cell? ⟨bx, 1, none⟩ = some (.pointer (some ⟨y, 0, none⟩)) := (bk_cell K8.out 1).trans z1_rfl
    clear os1 os2 b8 k8 AN7 P7 CD D8 HR6 T6 K6
    go_wp2_with fail
    refine CY.out.mono ?_
    rintro e w9 ⟨SA', DA', k3, k4, rfl, oa9, ot9, d9, t9⟩
    have os1 := raC_ones SA' DA' sv.length k3 ds.length k4 F
    have os2 := raC_size SA' DA' sv.length k3 ds.length k4 F
    have OA9 := Lib.hid oa9; have OT9 := Lib.hid ot9; have D9 := Lib.hid d9; have T9 := Lib.hid t9
    clear CY z1 oa9 ot9 d9 t9
    go_upto_region 24 with fail
    change Code.wp _ _ _ _ (w9.alloc (.cells (raC SA' DA' sv.length k3 ds.length k4 F) 91 (0, 0)))
    have b10 : Below w9.heap.size w9 (w9.alloc (.cells (raC SA' DA' sv.length k3 ds.length k4 F) 91 (0, 0))) := (by (repeat (first | exact Below.refl _ _ | assumption | refine Below.drew ?_ | refine bdrewN ?_ _ | refine Below.alloc ?_ (by first | omega | (simp <;> omega) | (simp only [World.size_alloc] <;> omega)) _ | refine below_setRow ?_ (by first | omega | (simp <;> omega)) _ | refine Below.setCell ?_ (by first | omega | (simp <;> omega)) _)))
    have k10 := bk_alloc_at w9 (.cells (raC SA' DA' sv.length k3 ds.length k4 F) 91 (0, 0)) _ rfl
    obtain ⟨r11, hr11⟩ : ∃ r, r = w9.heap.size := ⟨_, rfl⟩
    rw [← hr11] at k10 ⊢
    clear hr11
    generalize w9.alloc (.cells (raC SA' DA' sv.length k3 ds.length k4 F) 91 (0, 0)) = w10 at *
    have HY6 : Hid (x < w6.heap.size ∧ y < w6.heap.size ∧ bx < w6.heap.size) := Lib.hid ⟨bk_lt V6.out.cx.box, bk_lt V6.out.cy.box, by have h1 := HBXn.out.2; have h2 := HG8.out; have h3 := HG6.out; omega⟩
    have T10 : Hid (Tn (fun k => k = y) w8 w10) := Lib.hid (T9.out.trans (Tn.of (F := fun _ => False) b10) fun k hk => hk.elim)
    have KP10 := Lib.hid (T10.out.keep (F := fun k => k = y) (by have h1 := HR9.out; have h2 := T7.out.size; have h3 := HY6.out.2.1; omega) KP8.out)
    have TT10 := Lib.hid (T10.out.keep (F := fun k => k = y) (by have h1 := HG8.out; have h2 := ST.out.ym; have h3 := V2.out.nm.2; omega) TT8.out)
    have K10 := Lib.hid (T10.out.keep FX.out.2 K8.out)
    have HR10 : Hid (Rd w10 w10.heap.size A7 L) := Lib.hid (rd_turn HR8.out T10.out fun bb o e hf => by have h1 := HA7.out bb o e; have h2 := ST.out.ym; have h3 := V2.out.nm.2; omega)
    have AN10 : Hid (AnsR w10 w6.heap.size SA DA sv ds k1 k2) := Lib.hid ⟨own_turnS AN8.out.hs fun k hk => T10.out.old k (AN8.out.hs.lt k hk).2 (fun e => by have h1 := (AN8.out.hs.lt k hk).1; have h2 := HY6.out.2.1; omega), AN8.out.hd.turn T10.out (fun k hk e => by have h1 := (AN8.out.hd.lt k hk).1; have h2 := HY6.out.2.1; omega), AN8.out.ne⟩
    have CX10 := Lib.hid (CX8.out.keep T10.out ST.out.xy)
    have D10 := Lib.hid (D9.out.cl.below b10)
    have T610 : Hid (Tn (fun k => k = x ∨ k = y) w6 w10) := Lib.hid ((T8.out.wide fun k e => Or.inl e).trans T10.out fun k e => .inl (.inr e))
    have OA10 : Hid (OutA w10 w8.heap.size (.slice SA' sv.length k3) sv) := Lib.hid (own_below OA9.out b10)
    have OT10 := Lib.hid (OT9.out.below b10)
    have HLS : Hid (sv.length ≤ 9223372036854775807 ∧ ds.length ≤ 9223372036854775807) := Lib.hid ⟨by
      rcases AN10.out.hs.2 with ⟨_, h⟩ | ⟨_, _, _, _, _, _, h1, h2, _⟩
      · omega
      · unfold maxLen at h2; omega, by
      rcases AN10.out.hd.2 with ⟨_, h⟩ | ⟨_, _, _, _, _, _, h1, h2, _⟩
      · omega
      · unfold maxLen at h2; omega⟩
    have CSA : Hid (Calls Try.prog 40 #[.agg (ansG SA DA sv.length ds.length F), .agg (raC SA' DA' sv.length k3 ds.length k4 F)] w10 fun e w' => e = .returned (.bool true) ∧ Below w10.heap.size w10 w') := Lib.hid (sameAnswer_any SA DA SA' DA' sv ds F _ _ _ _ w10 (AN10.out.hs.rdA HI1.out.2) (OA10.out.rdA HI1.out.2) AN10.out.hd.rdT OT10.out.rdT HLS.out.1 HLS.out.2)
    have CLB : Hid (∀ W, Below w10.heap.size w10 W → Calls Try.prog 41 #[.slice (some ⟨g8, 0, none⟩) N (N + 4), .slice A7 N c7] W fun e w' => e = .returned (.bool true) ∧ Below W.heap.size W w') := Lib.hid fun W hb => by
      have := leftBytes_any A7 L c7 g8 W ((HR10.out.below hb (Nat.le_refl _)).mono hb.size) (by rw [HLN.out]; omega) (bk_keep hb (bk_lt TT10.out) TT10.out)
      rw [HLN.out] at this
      exact this
    have p1 := ansG_size SA DA sv.length ds.length F
    have p2 := raC_size SA' DA' sv.length k3 ds.length k4 F
    have v9 := KP10.out
    have v11 := k10
    have l9 := bk_lt v9
    have l11 := bk_lt k10
    clear os1 os2 b10 T7 T8 T9 KP8 AN8 CX8 OA9 OT9 D9 TT8 HR8 K8 OA10 OT10 HR10 TT10 k10
    go_wp2_with fail
    refine CSA.out.mono ?_
    rintro e w11 ⟨rfl, b11⟩
    have B11 := Lib.hid b11
    clear CSA b11
    go_wp2_with fail
    refine (CLB.out _ B11.out).mono ?_
    rintro e w12 ⟨rfl, b12⟩
    have B12 := Lib.hid (B11.out.trans (b12.mono B11.out.size))
    clear CLB b12 v9 v11 l9 l11 B11 p1 p2
    go_upto_region 27 with fail
    change Code.wp _ _ _ _ (w12.alloc (.cells #[.slice none 0 0] 97 (0, 0)))
    obtain ⟨bb, hbb⟩ : ∃ b, b = w12.heap.size := ⟨_, rfl⟩
    have b13 : Below w12.heap.size w12 (w12.alloc (.cells #[.slice none 0 0] 97 (0, 0))) := (by (repeat (first | exact Below.refl _ _ | assumption | refine Below.drew ?_ | refine bdrewN ?_ _ | refine Below.alloc ?_ (by first | omega | (simp <;> omega) | (simp only [World.size_alloc] <;> omega)) _ | refine below_setRow ?_ (by first | omega | (simp <;> omega)) _ | refine Below.setCell ?_ (by first | omega | (simp <;> omega)) _)))
    have hk0 : BK (w12.alloc (.cells #[.slice none 0 0] 97 (0, 0))) bb bb [] := ⟨.slice none 0 0, bk_alloc_at _ _ _ hbb, World.ownsRow_nil _ _ _ _⟩
    have hsz : bb ≤ (w12.alloc (.cells #[.slice none 0 0] 97 (0, 0))).heap.size := by rw [hbb]; exact b13.size
    have HBB : Hid (w10.heap.size ≤ bb) := Lib.hid (by rw [hbb]; exact B12.out.size)
    have B13 := Lib.hid (B12.out.trans (b13.mono B12.out.size))
    rw [← hbb]
    clear hbb b13 B12
    generalize w12.alloc (.cells #[.slice none 0 0] 97 (0, 0)) = w13 at *
    have CA := Lib.hid (bookAddrs_any bb bb [] SA sv.length sv.length w13 hk0 (by simp) (Nat.le_refl _) hsz)
    have HSZ := Lib.hid hsz
    have v0 : w13.cell? ⟨r9, 0, none⟩ = some (.slice SA sv.length sv.length) := (bk_cell (bk_keep B13.out (bk_lt KP10.out) KP10.out) 0).trans rfl
    clear hk0 hsz
    go_wp2_with fail
    refine CA.out.mono ?_
    rintro e w14 ⟨i1, x1, rfl, hi1, hx1, bk14, _, bl14⟩
    have B14 := Lib.hid (B13.out.trans (bl14.mono HBB.out))
    have CTX := Lib.hid (bookTexts_any bb bb _ DA ds.length ds.length w14 bk14 (by simp) (Nat.le_refl _) (Nat.le_trans HSZ.out bl14.size))
    have v1 : w14.cell? ⟨r9, 1, none⟩ = some (.slice DA ds.length ds.length) := (bk_cell (bk_keep B14.out (bk_lt KP10.out) KP10.out) 1).trans rfl
    clear CA v0 B13 bk14 bl14
    go_wp2_with fail
    refine CTX.out.mono ?_
    rintro e w15 ⟨i2, x2, rfl, bk15, _, bl15⟩
    have B15 := Lib.hid (B14.out.trans (bl15.mono HBB.out))
    have RA : Hid (Room w15 SA (sv.length * 16) 110) := Lib.hid fun h0 => by
      rcases (own_below AN10.out.hs B15.out).2 with ⟨_, h⟩ | ⟨g, cap, cur, e, _, hb, h1, _, h2, _⟩
      · omega
      · exact ⟨g, 0, cur, (Value.slice.inj e).1, hb, by have : sv.length * 16 ≤ cap * 16 := Nat.mul_le_mul_right _ h1; omega⟩
    have RT : Hid (Room w15 DA ds.length 9) := Lib.hid fun h0 => by
      rcases (own_below AN10.out.hd B15.out).2 with ⟨_, h⟩ | ⟨g, cap, cur, e, _, hb, h1, _, h2, _⟩
      · omega
      · exact ⟨g, 0, cur, (Value.slice.inj e).1, hb, by omega⟩
    have CAP : Hid (Calls Try.prog 44 #[.pointer (some ⟨bb, 0, none⟩)] w15 fun e w' => e = .returned (.bool true) ∧ Tn (fun k => w6.heap.size ≤ k) w15 w') := Lib.hid (by
      refine (apart_leaves bb bb [leafA SA sv.length sv.length i1 x1 hi1 hx1 (Nat.le_refl _) HLS.out.1, leafS DA ds.length ds.length i2 x2 (Nat.le_refl _) HLS.out.2] w15 bk15 ?_ ?_ (show 2 < 2 ^ 40 by decide)).mono ?_
      · intro l hl
        rcases List.mem_cons.1 hl with rfl | hl
        · exact RA.out
        · obtain rfl := List.mem_singleton.1 hl
          exact RT.out
      · have key : ∀ k j, (leafA SA sv.length sv.length i1 x1 hi1 hx1 (Nat.le_refl _) HLS.out.1).R k j → (leafS DA ds.length ds.length i2 x2 (Nat.le_refl _) HLS.out.2).R k j → False := fun k j h1 h2 => by
          obtain ⟨o, e, _⟩ := leafA_R h1
          obtain ⟨o', e', _⟩ := leafS_R h2
          exact AN10.out.ne k (by rw [e]; rfl) (by rw [e']; rfl)
        intro i j a b hij hi hj k m ha hb
        match i, j with
        | 0, 0 => exact hij rfl
        | 0, 1 => cases hi; cases hj; exact key k m ha hb
        | 1, 0 => cases hi; cases hj; exact key k m hb ha
        | 1, 1 => exact hij rfl
        | 0, j + 2 => simp at hj
        | 1, j + 2 => simp at hj
        | i + 2, _ => simp at hi
      · rintro e w' ⟨rfl, hW⟩
        refine ⟨rfl, hW.os, hW.tape, hW.output, hW.size, fun k hk hn => hW.oth k hk fun j hj => hn ?_⟩
        obtain ⟨l, hl, hr⟩ := hj
        rcases List.mem_cons.1 hl with rfl | hl
        · obtain ⟨o, e, _⟩ := leafA_R hr
          exact (AN10.out.hs.lt k (by rw [e]; rfl)).1
        · obtain rfl := List.mem_singleton.1 hl
          obtain ⟨o, e, _⟩ := leafS_R hr
          exact (AN10.out.hd.lt k (by rw [e]; rfl)).1)
    clear CTX v1 B14 bk15 bl15
    go_wp2_with fail
    refine CAP.out.mono ?_
    rintro e w16 ⟨rfl, t16⟩
    have TH : Hid (Tn (fun k => w6.heap.size ≤ k) w10 w16) := Lib.hid ((Tn.of (F := fun k => w6.heap.size ≤ k) B15.out).trans t16 fun k e => .inl e)
    have TW : Hid (Tn (fun k => k = x ∨ k = y) w6 w16) := Lib.hid (T610.out.trans TH.out fun k e => .inr e)
    have V16 : Hid (Wv w16 n x y p m q c1 l) := Lib.hid (ST.out.wv ⟨CX10.out.keep TH.out (by have := HY6.out.1; omega), V6.out.wp.keep TW.out (fun k hk e => by have := ST.out.pn k hk; omega)⟩ ⟨D10.out.keep TH.out (by have := HY6.out.2.1; omega), V6.out.wq.keep TW.out (fun k hk => by have h1 := ST.out.xm; have h2 := ST.out.ym; have h3 := ST.out.xq; have h4 := ST.out.yq; omega)⟩ HI1.out.1 V2.out.u32)
    have K16 := Lib.hid (TH.out.keep (F := fun k => w6.heap.size ≤ k) (by have := HY6.out.2.2; omega) K10.out)
    have B16 := Lib.hid (BN6.out.trans TW.out fun k hk => .inl (by rcases hk with rfl | rfl; exact .inl (.inl rfl); exact .inr (.inl rfl)))
    clear CAP t16
    go_upto_region 31 with fail
    have l8 := bk_lt (K16).out
    have z0 : (w16).cell? ⟨bx, 0, none⟩ = some (.pointer (some ⟨x, 0, none⟩)) := (bk_cell (K16).out 0).trans rfl
    have z1 : (w16).cell? ⟨bx, 1, none⟩ = some (.pointer (some ⟨y, 0, none⟩)) := (bk_cell (K16).out 1).trans rfl
    have z2 : (w16).cell? ⟨bx, 2, none⟩ = some (.pointer p) := (bk_cell (K16).out 2).trans rfl
    have z3 : (w16).cell? ⟨bx, 3, none⟩ = some (.pointer (some ⟨q, 0, none⟩)) := (bk_cell (K16).out 3).trans rfl
    have ly8 := bk_lt (V16).out.cy.box
    have z6 := bk_cell (V16).out.cy.box 6
    have CE := Lib.hid (fin_calls (V16).out)
    simp [rcC] at z6
    refine wp_region_later ((w16).heap.size) (by kernel_rfl) (by kernel_rfl) ?_
    repeat (go_big_quiet_step (((rename_i xq; first | (with_reducible exact later_call xq (Nat.le_refl _) (CE.out xq.w xq.h).1) | (with_reducible exact later_call xq (Nat.le_refl _) (CE.out xq.w xq.h).2.1) | (with_reducible exact later_call xq (Nat.le_refl _) (CE.out xq.w xq.h).2.2.1) | (with_reducible exact later_call xq (Nat.le_refl _) (CE.out xq.w xq.h).2.2.2.1) | (with_reducible exact later_call xq (Nat.le_refl _) (CE.out xq.w xq.h).2.2.2.2)))))
    (first | refine wpQuiet_nil ?_ | (go_big_quiet_want; (try go_big_quiet_op); trace_state; fail))
    intro w9 hw'
    have q9 := later_elim hw'
    clear hw'
    have FZ := Lib.hid (And.intro ((V16).out.below q9) ((B16).out.next q9))
    clear q9 z0 z1 z2 z3 z6 CE
    go_wp2_with fail
    go_ret
    exact ⟨rfl, _, _, FZ.out⟩
end Go.Proofs.Ytfldoihindbdmaa

/- Headers: chains of headers, walked. -/
import Derived.Test.YtbfiakikhkiefaaH5
import Derived.BigRegion
import Derived.Test.YtbfiakikhkiefaaW2
namespace Go.Proofs.Ytbfiakikhkiefaa
open Go.RowKit
set_option maxRecDepth 100000
set_option maxHeartbeats 4000000
@[go_sem ↓] theorem qfFrag (dst : Option Tmp) (x : Operand) (t : TypeId) (pos : String) (af : Array Edge) (g : Option (Nat × Bool)) (a : Act) (m : Nat) (W : World) (gs : List (Nat × (World → Prop))) [Nonempty (LaterF m W gs)] (K : Act → Prop) :
    Oper.quiet Try.prog ⟨dst, .load 27 x, t, pos, af, g⟩ a (fun w' => ∃ x : LaterF m W gs, w' = x.w) K =
      ldF (quietHid Try.prog ⟨dst, .load 27 x, t, pos, af, g⟩ a (fun w' => ∃ x : LaterF m W gs, w' = x.w) K) gs m 4 W (fun c => K (a.put dst (.agg c))) (a.eval x) :=
  quiet_load_F 27 4 _ Try.underlying27 rfl (by kernel_rfl) dst x t pos af g a m W gs K
theorem results_six {fn : Func} {u1 u2 u3 u4 p1 p2 : Tmp} {t1 t2 : TypeId} (h : fn.results = #[.tmp u1, .tmp u2, .tmp u3, .cell p1 t1, .cell p2 t2, .tmp u4]) (tmps : Array Value) (P : Program) (w : World) :
    (results fn tmps).run P w = ((asAddr (tmps.getD p1 undef)).run P w).andThen fun a w₁ => ((loadVar t1 a).run P w₁).andThen fun v w₂ => ((asAddr (tmps.getD p2 undef)).run P w₂).andThen fun a2 w₃ => ((loadVar t2 a2).run P w₃).andThen fun v2 w₄ =>
      .ok (.tuple #[tmps.getD u1 undef, tmps.getD u2 undef, tmps.getD u3 undef, v, v2, tmps.getD u4 undef]) w₄ := by
  simp only [results, h]
  simp [Sem.run_bind, Result.andThen]
/-- Six results: two of them rows. -/
theorem ret_six {P : Program} {fn : Func} {R : Ending → World → Prop} {a : Act} {w : World} {u1 u2 u3 u4 p1 p2 : Tmp} {t1 t2 : TypeId} {g1 g2 : Nat} {c1 c2 : Array Value} {d1 d2 : TypeDesc} {ty1 ty2 : TypeId} {f1 f2 : Nat × Nat} {y1 y2 y3 y4 : Value}
    (h : fn.results = #[.tmp u1, .tmp u2, .tmp u3, .cell p1 t1, .cell p2 t2, .tmp u4]) (hd' : a.defers = []) (hp1 : a.tmps.getD p1 undef = .pointer (some ⟨g1, 0, none⟩)) (hp2 : a.tmps.getD p2 undef = .pointer (some ⟨g2, 0, none⟩))
    (hy1 : a.tmps.getD u1 undef = y1) (hy2 : a.tmps.getD u2 undef = y2) (hy3 : a.tmps.getD u3 undef = y3) (hy4 : a.tmps.getD u4 undef = y4) (hg1 : bk w g1 = some (.cells c1 ty1 f1)) (hg2 : bk w g2 = some (.cells c2 ty2 f2))
    (hu1 : P.underlying t1 = some d1) (hu2 : P.underlying t2 = some d2) (hd1 : d1.isRow = true) (hd2 : d2.isRow = true) (hi1 : (P.info? t1).map (·.size) = some c1.size) (hi2 : (P.info? t2).map (·.size) = some c2.size)
    (hR : R (.returned (.tuple #[y1, y2, y3, .agg c1, .agg c2, y4])) w) : bodyPost P fn R .ret a w := by
  refine bodyPost_ret ?_ hd' hR
  have l1 := run_loadVar_row (P := P) w g1 ty1 t1 c1 f1 d1 hg1 hu1 (by cases d1 <;> simp_all) hi1
  have l2 := run_loadVar_row (P := P) w g2 ty2 t2 c2 f2 d2 hg2 hu2 (by cases d2 <;> simp_all) hi2
  rw [results_six h, hp1, hp2, hy1, hy2, hy3, hy4]
  simp [asAddr, Result.andThen, l1, l2]
theorem Gots.turn {d : List UInt8} {m k : Nat} {A : Option Addr} {w w' : World} (h : Gots d m A w) (hk : k ≤ m) (hs : w.heap.size ≤ w'.heap.size) (hb : ∀ b, m ≤ b → bk w' b = bk w b) : Gots d k A w' := by
  refine ⟨fun h0 => ?_, fun h0 => ?_, fun b j hr => Nat.le_trans hk (h.lo b j hr), h.nn⟩
  · obtain ⟨b, o, e, hl, hc⟩ := h.rd h0
    have hm := h.lo b o ⟨o, e, Nat.le_refl _, by omega⟩
    have hbb : w'.heap[b]? = w.heap[b]? := hb b hm
    exact ⟨b, o, e, by omega, fun j hj => by rw [World.cell?_of_block (a := ⟨b, o + j, none⟩) hbb]; exact hc j hj⟩
  · obtain ⟨b, o, cur, e, hc, hl⟩ := h.room h0
    have hm := h.lo b o ⟨o, e, Nat.le_refl _, by omega⟩
    exact ⟨b, o, cur, e, (hb b hm).trans hc, hl⟩
/-- Bytes of a call's own. -/
def Made.gt (m : Nat) (l : List UInt8) : Made m where
  T v := ∃ A c, v = .slice A l.length c ∧ l.length ≤ c
  R v w := ∃ A c, v = .slice A l.length c ∧ Gots l m A w
  mono := fun _ _ _ hb ⟨A, c, h1, h2⟩ => ⟨A, c, h1, h2.below hb⟩
  gives := fun w hm => by
    have hbk : bk (w.alloc (.cells (l.map B).toArray 5 (0, 0))) w.heap.size = some (.cells (l.map B).toArray 5 (0, 0)) := bk_alloc_at _ _ _ rfl
    refine ⟨.slice (some ⟨w.heap.size, 0, none⟩) l.length l.length, w.alloc (.cells (l.map B).toArray 5 (0, 0)), (Below.refl _ _).alloc (Nat.le_refl _) _, ⟨_, _, rfl, Nat.le_refl _⟩, _, _, rfl, Rd.lit w l 5, fun h0 => ⟨_, _, _, rfl, hbk, by simp⟩, ?_, fun h => by cases h⟩
    rintro b j ⟨o, e, _⟩
    cases e
    exact hm
theorem gt_T {m : Nat} {M : Made m} {l : List UInt8} {v : Value} (HM : Hid (M = Made.gt m l)) (h : M.T v) : ∃ A c, v = .slice A l.length c ∧ l.length ≤ c := by
  have := HM.out
  subst this
  exact h
theorem gt_R {m : Nat} {M : Made m} {l : List UInt8} {A : Option Addr} {n c : Nat} {w : World} (HM : Hid (M = Made.gt m l)) (h : M.R (.slice A n c) w) : Gots l m A w := by
  have := HM.out
  subst this
  obtain ⟨A', c', e, hr⟩ := h
  cases e
  exact hr
theorem gt_end {m : Nat} {M : Made m} {l : List UInt8} (HM : Hid (M = Made.gt m l)) {w w' : World} {A : Option Addr} {c : Nat} (hb : Below w.heap.size w w') (h : Gots l m A w') (hc : l.length ≤ c) : madeEnd M w (.returned (.slice A l.length c)) w' := by
  have := HM.out
  subst this
  exact ⟨_, rfl, hb, ⟨A, c, rfl, hc⟩, A, c, rfl, h⟩
@[go_sem] theorem xt_frag (s : Wk) (v : Value) : xt (wkC s v) 7 4 = fragC s.fi s.fid s.fo s.fm := id rfl
@[go_sem] theorem wkC_size' (s : Wk) (v : Value) : (wkC s v).size = 13 := id rfl
theorem own_lower {w : World} {b0 b1 n : Nat} {e : TypeId} {v : Value} {xs : List Value} (h : w.ownsRow b0 e 1 v n xs) (hb : b1 ≤ b0) : w.ownsRow b1 e 1 v n xs := by
  obtain ⟨h1, h2 | ⟨g, cap, cur, h2, h3, h4⟩⟩ := h
  · exact ⟨h1, .inl h2⟩
  · exact ⟨h1, .inr ⟨g, cap, cur, h2, by omega, h4⟩⟩
theorem fragC_size {a : Bool} {b c : Nat} {d : Bool} : (fragC a b c d).size = 4 := rfl
theorem faultC_size {a b : Nat} : (faultC a b).size = 2 := rfl
theorem fragC_ones {a : Bool} {b c : Nat} {d : Bool} : ones (fragC a b c d).toList = true := rfl
theorem faultC_ones {a b : Nat} : ones (faultC a b).toList = true := rfl
/-- A fact that is known ahead of a region: what it rests on. -/
def MadeW.rest (m : Nat) (t : TypeId) : MadeW m := ⟨fun _ => True, fun _ _ => True, [], [t], ⟨undef, trivial⟩, fun _ _ _ _ _ _ h => h⟩
def Ent.rest (m k : Nat) (t : TypeId) : Ent m := ⟨k, fun _ => MadeW.rest m t, [], [t], [], fun _ => ⟨rfl, rfl⟩⟩
theorem ini_rows {E : EnvW} {t1 t2 t3 : TypeId} {b1 b2 b3 : Nat} {c1 c2 c3 : Array Value} (h1 : E.Ot 25 = [t1]) (h2 : E.Ot 26 = [t2]) (h3 : E.Ot 27 = [t3]) (hs : E.ops.size ≤ 25)
    (k1 : bk E.W b1 = some (.cells c1 t1 (0, 0))) (k2 : bk E.W b2 = some (.cells c2 t2 (0, 0))) (k3 : bk E.W b3 = some (.cells c3 t3 (0, 0))) :
    E.Ini (fun j w => (j = 25 → bk w b1 = some (.cells c1 t1 (0, 0))) ∧ (j = 26 → bk w b2 = some (.cells c2 t2 (0, 0))) ∧ (j = 27 → bk w b3 = some (.cells c3 t3 (0, 0)))) := by
  refine ⟨fun j D w w' hd hk ⟨f1, f2, f3⟩ => ⟨fun e => ?_, fun e => ?_, fun e => ?_⟩, fun j hj w => ⟨fun e => by omega, fun e => by omega, fun e => by omega⟩, fun j => ⟨fun _ => k1, fun _ => k2, fun _ => k3⟩⟩
  · subst e; exact hk.row (f1 rfl) fun h => hd t1 h (by rw [h1]; simp)
  · subst e; exact hk.row (f2 rfl) fun h => hd t2 h (by rw [h2]; simp)
  · subst e; exact hk.row (f3 rfl) fun h => hd t3 h (by rw [h3]; simp)
/-- What a round holds. -/
structure Lp (R : Tl) (mc : Bool) (n x g2 gm lim : Nat) (w0 wr : World) (nx : UInt8) (b : List UInt8) (p told : Nat) (fs al : Bool) (AA : Option Addr) (cc : Nat) : Prop where
  hx : WB wr n x (wk0 nx b p told fs mc al) AA cc
  hr : R = chain mc nx b p told (fs && p == 40) al
  km : bk wr gm = some (.map stE 3)
  f : Below n w0 wr
  k1 : bk wr n = some (.cells (fragC false 0 0 false) 27 (0, 0))
  k2 : bk wr g2 = some (.cells (faultC 0 0) 47 (0, 0))
  le : p + b.length ≤ lim
  lt : told ≤ lim
theorem Lp.next {R : Tl} {mc : Bool} {n x g2 gm lim : Nat} {w0 wr w' : World} {nx : UInt8} {b : List UInt8} {p told : Nat} {fs al : Bool} {AA : Option Addr} {cc : Nat} (h : Lp R mc n x g2 gm lim w0 wr nx b p told fs al AA cc) (hg : Gb x wr w') (h1 : n < x) (h2 : g2 < x) (h3 : x < gm) {nx2 : UInt8} {b2 : List UInt8} {p2 : Nat} {al2 : Bool} {A2 : Option Addr} {c2 : Nat}
    (hw : WB w' n x (wk0 nx2 b2 p2 p false mc al2) A2 c2) (hp : p2 + b2.length = p + b.length) (hr : R = chain mc nx2 b2 p2 p false al2) : Lp R mc n x g2 gm lim w0 w' nx2 b2 p2 p false al2 A2 c2 :=
  ⟨hw, by rw [Bool.false_and]; exact hr, hg.keep (by omega) h.km, h.f.trans (hg.below (by omega) (Nat.le_of_lt (bk_lt h.k1))), hg.keep (by omega) h.k1, hg.keep (by omega) h.k2, by have := h.le; omega, by have := h.le; omega⟩
theorem chain_any (nx : UInt8) (A : Option Addr) (b : List UInt8) (c at' : Nat) (mc : Bool) (w : World) (h : Rd w w.heap.size A b) (hA : A = none → b = [] ∧ c = 0) (hc : b.length ≤ c) (hl : b.length < 2 ^ 30) (hat : at' < 2 ^ 32) :
    Calls Try.prog 18 #[B nx, .slice A b.length c, .int .u32 (at' : Int), .bool mc] w fun e w' => ∃ A', e = .returned (tlV (chain mc nx b at' (if at' = 40 then 6 else at' - 8) (at' == 40) false) A' (chain mc nx b at' (if at' = 40 then 6 else at' - 8) (at' == 40) false).rest.length) ∧
      Gots (chain mc nx b at' (if at' = 40 then 6 else at' - 8) (at' == 40) false).rest w.heap.size A' w' ∧ Below w.heap.size w w' := by
  obtain ⟨R, hR⟩ : ∃ R, R = chain mc nx b at' (if at' = 40 then 6 else at' - 8) (at' == 40) false := ⟨_, rfl⟩
  rw [← hR]
  have a1 : IntKind.i64.wrap (at' : Int) = (at' : Int) := by rw [IntKind.wrap_i64]; omega
  have a2 : IntKind.i64.wrap ((at' : Int) - 8) = (at' : Int) - 8 := by rw [IntKind.wrap_i64]; omega
  obtain ⟨t0, ht0⟩ : ∃ t, t = at' - 8 := ⟨_, rfl⟩
  have a3 : max (0 : Int) ((at' : Int) - 8) = (t0 : Int) := by omega
  have a4 : (if (8 : Int) < (at' : Int) then (at' : Int) - 8 else 0) = (t0 : Int) := by split <;> omega
  have HH := Lib.hid (And.intro h (And.intro hA (And.intro hc hR)))
  have HT := Lib.hid ht0
  clear h hA hc hR ht0
  go_enter Try.func18, Try.ntmps18
  go_upto_region 2 with fail
  obtain ⟨x, hx⟩ : ∃ x, x = w.heap.size + 1 + 1 := ⟨_, rfl⟩
  obtain ⟨g2, hg2⟩ : ∃ x, x = w.heap.size + 1 := ⟨_, rfl⟩
  obtain ⟨n, hn⟩ : ∃ x, x = w.heap.size := ⟨_, rfl⟩
  rw [← hx, ← hg2, ← hn]
  have W3 : ∀ (o1 o2 o3 : Obj), Below n w (((w.alloc o1).alloc o2).alloc o3) ∧ bk (((w.alloc o1).alloc o2).alloc o3) n = some o1 ∧ bk (((w.alloc o1).alloc o2).alloc o3) g2 = some o2 ∧ bk (((w.alloc o1).alloc o2).alloc o3) x = some o3 := fun o1 o2 o3 => by
    refine ⟨?_, ?_, ?_, ?_⟩
    · rw [hn]
      (repeat (first | exact Below.refl _ _ | assumption | refine Below.drew ?_ | refine bdrewN ?_ _ | refine Below.alloc ?_ (by first | omega | (simp <;> omega) | (simp only [World.size_alloc] <;> omega)) _ | refine below_setRow ?_ (by first | omega | (simp <;> omega)) _ | refine Below.setCell ?_ (by first | omega | (simp <;> omega)) _))
    · rw [hn]; exact (bk_alloc_past _ _ _ (by simp; omega)).trans ((bk_alloc_past _ _ _ (by simp)).trans (bk_alloc_at _ _ _ rfl))
    · rw [hg2]; exact (bk_alloc_past _ _ _ (by simp)).trans (bk_alloc_at _ _ _ (by simp))
    · rw [hx]; exact bk_alloc_at _ _ _ (by simp)
  obtain ⟨f0, f1, f2, f3⟩ := W3 (.cells (fragC false 0 0 false) 27 (0, 0)) (.cells (faultC 0 0) 47 (0, 0)) (.cells (wkC (wk0 nx b at' t0 true mc false) (.slice A b.length c)) 76 (0, 0))
  change Code.wp _ _ _ _ (((w.alloc (.cells (fragC false 0 0 false) 27 (0, 0))).alloc (.cells (faultC 0 0) 47 (0, 0))).alloc (.cells (wkC (wk0 nx b at' t0 true mc false) (.slice A b.length c)) 76 (0, 0)))
  generalize ((w.alloc (.cells (fragC false 0 0 false) 27 (0, 0))).alloc (.cells (faultC 0 0) 47 (0, 0))).alloc (.cells (wkC (wk0 nx b at' t0 true mc false) (.slice A b.length c)) 76 (0, 0)) = w1 at *
  have hx1 : n + 1 < x := by omega
  have hg1 : n < g2 := by omega
  have hg3 : g2 < x := by omega
  have HX : Hid (WB w1 n x (wk0 nx b at' t0 true mc false) A c) := Lib.hid ⟨f3, by rw [hn]; exact (HH.out.1.below f0 (by omega)), HH.out.2.1, HH.out.2.2.1, by omega⟩
  have KF := Lib.hid (And.intro f0 (And.intro f1 f2))
  have HR : Hid (R = chain mc nx b at' (if at' = 40 then 6 else t0) (at' == 40) false) := Lib.hid (by rw [HT.out]; exact HH.out.2.2.2)
  have HN := Lib.hid hn
  clear W3 f0 f1 f2 f3 hx hg2 hn a1 a2 a3 a4
  by_cases h40 : at' = 40
  · have h40' : (at' : Int) = 40 := by omega
    have c3 := HX.out.cell 3
    have z3 := bk_frozen HX.out.1 3
    simp [wkC, wk0] at c3
    have HX2 : Hid (WB (w1.setCell ⟨x, 3, none⟩ (.int .i64 6)) n x (wk0 nx b at' 6 true mc false) A c) := Lib.hid (by
      obtain ⟨h1, h2, h3, h4, h5⟩ := HX.out
      refine ⟨?_, ((Gb.refl x w1).setCell 3 _).rd h2 h5 (Nat.le_of_lt (bk_lt h1)), h3, h4, h5⟩
      rw [bk_setCell_same, h1]
      rfl)
    have KF2 : Hid (Below n w (w1.setCell ⟨x, 3, none⟩ (.int .i64 6)) ∧ bk (w1.setCell ⟨x, 3, none⟩ (.int .i64 6)) n = some (.cells (fragC false 0 0 false) 27 (0, 0)) ∧ bk (w1.setCell ⟨x, 3, none⟩ (.int .i64 6)) g2 = some (.cells (faultC 0 0) 47 (0, 0))) := Lib.hid
      ⟨KF.out.1.setCell (p := ⟨x, 3, none⟩) (show n ≤ x by omega) _, (bk_setCell_other _ _ _ _ _ (by omega)).trans KF.out.2.1, (bk_setCell_other _ _ _ _ _ (by omega)).trans KF.out.2.2⟩
    rw [if_pos h40] at HR
    clear HX KF
    have HX := HX2; have KF := KF2
    clear HX2 KF2
    go_upto_region 4 with fail
    clear c3 z3
    go_wp2_with fail
    refine (steps_any _).mono ?_
    rintro e w2 ⟨rfl, km, b2⟩
    obtain ⟨gm, hgm⟩ : ∃ g, g = (w1.setCell ⟨x, 3, none⟩ (.int .i64 6)).heap.size := ⟨_, rfl⟩
    rw [← hgm] at km ⊢
    have hgx : x < gm := by rw [hgm]; exact bk_lt HX.out.1
    have LP : Hid (Lp R mc n x g2 gm (2 ^ 33) w w2 nx b at' 6 true false A c) := Lib.hid
      ⟨HX.out.up b2, HR.out, km, KF.out.1.trans (b2.mono (by rw [← hgm]; omega)), bk_keep b2 (bk_lt KF.out.2.1) KF.out.2.1, bk_keep b2 (bk_lt KF.out.2.2) KF.out.2.2, by omega, by have := HT.out; omega⟩
    clear km b2 hgm HX KF HR
    go_wp2_with fail
    go_loopw [13] (fun e wr => ∃ (nx' : UInt8) (b' : List UInt8) (p' told' : Nat) (fs' al' : Bool) (AA : Option Addr) (cc : Nat), e = .int .i64 0 ∧ Hid (Lp R mc n x g2 gm (2 ^ 33) w wr nx' b' p' told' fs' al' AA cc)) (fun _ wr => lenAt wr x)
    case atStart => exact ⟨nx, b, at', 6, true, false, A, c, rfl, LP⟩
    case round =>
      clear LP
      obtain ⟨k, b', p', told', fs', al', AA, cc, rfl, LP⟩ := hrel
      have hle := LP.out.le; have hlt := LP.out.lt
      have HLk := look_any wr gm k LP.out.km
      have c0 := LP.out.hx.cell 0
      simp [wkC, wk0] at c0
      by_cases h0 : k = 0
      · have C := each_any n x _ AA cc wr LP.out.hx (show p' < 2 ^ 40 by omega) (show told' < 2 ^ 40 by omega) (show b'.length < 2 ^ 40 by omega)
        rw [show lookV k = fv 45 by rw [h0]; rfl, show isStep k = true by rw [h0]; rfl] at HLk
        have STP : Stepped R mc (wk0 k b' p' told' fs' mc al') (wk0 k b' p' told' fs' mc al').eachE (wk0 k b' p' told' fs' mc al').eachS := by
          have hr := LP.out.hr
          rw [h0] at hr ⊢
          exact stepped_each R mc b' p' told' fs' al' hr
        obtain ⟨E, hE⟩ : ∃ E, E = (wk0 k b' p' told' fs' mc al').eachE := ⟨_, rfl⟩
        obtain ⟨S, hS⟩ : ∃ E, E = (wk0 k b' p' told' fs' mc al').eachS := ⟨_, rfl⟩
        rw [← hE, ← hS] at C STP
        unfold fv at HLk
        have HC := Lib.hid C; have HS := Lib.hid STP
        clear C STP hE hS h0
        go_wp2_with fail
        refine HC.out.mono ?_
        rintro e w3 ⟨A', c', rfl, h1, g1⟩
        clear HC HLk c0
        by_cases hE0 : E = 0
        · obtain ⟨nx2, b2, p2, al2, hS2, hlen, hsum, hr⟩ := HS.out.1 hE0
          subst hS2
          have LP2 := Lib.hid (LP.out.next g1 (by omega) (by omega) hgx h1 hsum hr)
          have hm : Hid (lenAt w3 x < lenAt wr x) := Lib.hid (by rw [lenAt_WB h1, lenAt_WB LP.out.hx]; exact hlen)
          subst hE0
          clear h1 g1 hlen hsum hr LP HS
          go_wp2_with fail
          exact ⟨⟨nx2, b2, p2, p', false, al2, A', c', rfl, LP2⟩, hm.out⟩
        · obtain ⟨hE8, hRR, hc8, hf32⟩ := HS.out.2 hE0
          have HRR := Lib.hid hRR
          have K1 := Lib.hid (g1.keep (by omega) LP.out.k1); have K2 := Lib.hid (g1.keep (by omega) LP.out.k2)
          have F3 := Lib.hid (LP.out.f.trans (g1.below (by omega) (Nat.le_of_lt (bk_lt LP.out.k1))))
          have c6 := h1.cell 6; have c11 := h1.cell 11; have c12 := h1.cell 12
          simp [wkC] at c6 c11 c12
          have hEi : ¬ (E : Int) = 0 := by omega
          have lx3 := bk_lt h1.1
          clear h1 g1 hRR LP HS hE0
          have kn := K1.out; have kg := K2.out
          have ln := bk_lt kn; have lg := bk_lt kg
          have n0 := bk_cell kn 0; have n1 := bk_cell kn 1; have n2 := bk_cell kn 2; have n3 := bk_cell kn 3
          have m0 := bk_cell kg 0; have m1 := bk_cell kg 1
          simp [fragC, faultC] at n0 n1 n2 n3 m0 m1
          have zn0 := bk_frozen kn 0; have zn1 := bk_frozen kn 1; have zn2 := bk_frozen kn 2; have zn3 := bk_frozen kn 3
          have zm0 := bk_frozen kg 0; have zm1 := bk_frozen kg 1
          clear kn kg
          obtain ⟨al3, hal3⟩ : ∃ a, a = S.al := ⟨_, rfl⟩
          obtain ⟨co3, hco3⟩ : ∃ a, a = S.code := ⟨_, rfl⟩
          obtain ⟨fa3, hfa3⟩ : ∃ a, a = S.fat := ⟨_, rfl⟩
          rw [← hal3] at c6 HRR
          rw [← hco3] at c11 HRR hc8
          rw [← hfa3] at c12 HRR hf32
          clear hal3 hco3 hfa3
          cases al3
          case false =>
            go_upto_region 13 with fail
            go_region
            have kN : bk ((((((((w3).setCell ⟨n, 0, none⟩ (.bool false)).setCell ⟨n, 1, none⟩ (.int .u32 0)).setCell ⟨n, 2, none⟩ (.int .u16 0)).setCell ⟨n, 3, none⟩ (.bool false)).setCell ⟨g2, 0, none⟩ (.int .u8 co3)).setCell ⟨g2, 1, none⟩ (.int .u32 fa3)).drew) n = some (.cells (fragC false 0 0 false) 27 (0, 0)) := by
              rw [bk_drew, bk_setCell_other _ _ _ _ _ (by omega), bk_setCell_other _ _ _ _ _ (by omega), bk_setCell_same, bk_setCell_same, bk_setCell_same, bk_setCell_same, K1.out]; rfl
            have kG : bk ((((((((w3).setCell ⟨n, 0, none⟩ (.bool false)).setCell ⟨n, 1, none⟩ (.int .u32 0)).setCell ⟨n, 2, none⟩ (.int .u16 0)).setCell ⟨n, 3, none⟩ (.bool false)).setCell ⟨g2, 0, none⟩ (.int .u8 co3)).setCell ⟨g2, 1, none⟩ (.int .u32 fa3)).drew) g2 = some (.cells (faultC co3 fa3) 47 (0, 0)) := by
              rw [bk_drew, bk_setCell_same, bk_setCell_same, bk_setCell_other _ _ _ _ _ (by omega), bk_setCell_other _ _ _ _ _ (by omega), bk_setCell_other _ _ _ _ _ (by omega), bk_setCell_other _ _ _ _ _ (by omega), K2.out]; rfl
            have FF : Hid (Below n w ((((((((w3).setCell ⟨n, 0, none⟩ (.bool false)).setCell ⟨n, 1, none⟩ (.int .u32 0)).setCell ⟨n, 2, none⟩ (.int .u16 0)).setCell ⟨n, 3, none⟩ (.bool false)).setCell ⟨g2, 0, none⟩ (.int .u8 co3)).setCell ⟨g2, 1, none⟩ (.int .u32 fa3)).drew)) := Lib.hid
              (((((((F3.out.setCell (p := ⟨n, 0, none⟩) (Nat.le_refl _) _).setCell (p := ⟨n, 1, none⟩) (Nat.le_refl _) _).setCell (p := ⟨n, 2, none⟩) (Nat.le_refl _) _).setCell (p := ⟨n, 3, none⟩) (Nat.le_refl _) _).setCell (p := ⟨g2, 0, none⟩) (Nat.le_of_lt hg1) _).setCell (p := ⟨g2, 1, none⟩) (Nat.le_of_lt hg1) _).drew)
            have KN := Lib.hid kN; have KG := Lib.hid kG
            clear kN kG n0 n1 n2 n3 m0 m1 zn0 zn1 zn2 zn3 zm0 zm1 c6 c11 c12 ln lg K1 K2 F3
            generalize (((((((w3).setCell ⟨n, 0, none⟩ (.bool false)).setCell ⟨n, 1, none⟩ (.int .u32 0)).setCell ⟨n, 2, none⟩ (.int .u16 0)).setCell ⟨n, 3, none⟩ (.bool false)).setCell ⟨g2, 0, none⟩ (.int .u8 co3)).setCell ⟨g2, 1, none⟩ (.int .u32 fa3)).drew = w5 at *
            go_wp2_with fail
            refine ret_six rfl rfl rfl rfl rfl rfl rfl rfl KN.out KG.out Try.underlying27 Try.underlying47 rfl rfl (by kernel_rfl) (by kernel_rfl) ?_
            exact ⟨none, by rw [HRR.out]; rfl, by rw [HRR.out]; exact Gots.nil, by rw [← HN.out]; exact FF.out⟩
          case true =>
            by_cases hE7 : E = 7
            · have hE7' : (E : Int) = 7 := by omega
              subst hE7
              go_upto_region 13 with fail
              go_region
              have kN : bk ((((((((w3).setCell ⟨n, 0, none⟩ (.bool false)).setCell ⟨n, 1, none⟩ (.int .u32 0)).setCell ⟨n, 2, none⟩ (.int .u16 0)).setCell ⟨n, 3, none⟩ (.bool false)).setCell ⟨g2, 0, none⟩ (.int .u8 co3)).setCell ⟨g2, 1, none⟩ (.int .u32 fa3)).drew) n = some (.cells (fragC false 0 0 false) 27 (0, 0)) := by
                rw [bk_drew, bk_setCell_other _ _ _ _ _ (by omega), bk_setCell_other _ _ _ _ _ (by omega), bk_setCell_same, bk_setCell_same, bk_setCell_same, bk_setCell_same, K1.out]; rfl
              have kG : bk ((((((((w3).setCell ⟨n, 0, none⟩ (.bool false)).setCell ⟨n, 1, none⟩ (.int .u32 0)).setCell ⟨n, 2, none⟩ (.int .u16 0)).setCell ⟨n, 3, none⟩ (.bool false)).setCell ⟨g2, 0, none⟩ (.int .u8 co3)).setCell ⟨g2, 1, none⟩ (.int .u32 fa3)).drew) g2 = some (.cells (faultC co3 fa3) 47 (0, 0)) := by
                rw [bk_drew, bk_setCell_same, bk_setCell_same, bk_setCell_other _ _ _ _ _ (by omega), bk_setCell_other _ _ _ _ _ (by omega), bk_setCell_other _ _ _ _ _ (by omega), bk_setCell_other _ _ _ _ _ (by omega), K2.out]; rfl
              have FF : Hid (Below n w ((((((((w3).setCell ⟨n, 0, none⟩ (.bool false)).setCell ⟨n, 1, none⟩ (.int .u32 0)).setCell ⟨n, 2, none⟩ (.int .u16 0)).setCell ⟨n, 3, none⟩ (.bool false)).setCell ⟨g2, 0, none⟩ (.int .u8 co3)).setCell ⟨g2, 1, none⟩ (.int .u32 fa3)).drew)) := Lib.hid
                (((((((F3.out.setCell (p := ⟨n, 0, none⟩) (Nat.le_refl _) _).setCell (p := ⟨n, 1, none⟩) (Nat.le_refl _) _).setCell (p := ⟨n, 2, none⟩) (Nat.le_refl _) _).setCell (p := ⟨n, 3, none⟩) (Nat.le_refl _) _).setCell (p := ⟨g2, 0, none⟩) (Nat.le_of_lt hg1) _).setCell (p := ⟨g2, 1, none⟩) (Nat.le_of_lt hg1) _).drew)
              have KN := Lib.hid kN; have KG := Lib.hid kG
              clear kN kG n0 n1 n2 n3 m0 m1 zn0 zn1 zn2 zn3 zm0 zm1 c6 c11 c12 ln lg K1 K2 F3
              generalize (((((((w3).setCell ⟨n, 0, none⟩ (.bool false)).setCell ⟨n, 1, none⟩ (.int .u32 0)).setCell ⟨n, 2, none⟩ (.int .u16 0)).setCell ⟨n, 3, none⟩ (.bool false)).setCell ⟨g2, 0, none⟩ (.int .u8 co3)).setCell ⟨g2, 1, none⟩ (.int .u32 fa3)).drew = w5 at *
              go_wp2_with fail
              refine ret_six rfl rfl rfl rfl rfl rfl rfl rfl KN.out KG.out Try.underlying27 Try.underlying47 rfl rfl (by kernel_rfl) (by kernel_rfl) ?_
              exact ⟨none, by rw [HRR.out]; rfl, by rw [HRR.out]; exact Gots.nil, by rw [← HN.out]; exact FF.out⟩
            · have hE7' : ¬ (E : Int) = 7 := by omega
              have hE7b : (E == 7) = false := by rw [beq_eq_false_iff_ne]; exact hE7
              have hE7c : ((E : Int) == 7) = false := by rw [beq_eq_false_iff_ne]; omega
              rw [hE7b] at HRR
              clear hE7b
              go_upto_region 13 with fail
              go_region
              have kN : bk ((((((((w3).setCell ⟨n, 0, none⟩ (.bool false)).setCell ⟨n, 1, none⟩ (.int .u32 0)).setCell ⟨n, 2, none⟩ (.int .u16 0)).setCell ⟨n, 3, none⟩ (.bool false)).setCell ⟨g2, 0, none⟩ (.int .u8 co3)).setCell ⟨g2, 1, none⟩ (.int .u32 fa3)).drew) n = some (.cells (fragC false 0 0 false) 27 (0, 0)) := by
                rw [bk_drew, bk_setCell_other _ _ _ _ _ (by omega), bk_setCell_other _ _ _ _ _ (by omega), bk_setCell_same, bk_setCell_same, bk_setCell_same, bk_setCell_same, K1.out]; rfl
              have kG : bk ((((((((w3).setCell ⟨n, 0, none⟩ (.bool false)).setCell ⟨n, 1, none⟩ (.int .u32 0)).setCell ⟨n, 2, none⟩ (.int .u16 0)).setCell ⟨n, 3, none⟩ (.bool false)).setCell ⟨g2, 0, none⟩ (.int .u8 co3)).setCell ⟨g2, 1, none⟩ (.int .u32 fa3)).drew) g2 = some (.cells (faultC co3 fa3) 47 (0, 0)) := by
                rw [bk_drew, bk_setCell_same, bk_setCell_same, bk_setCell_other _ _ _ _ _ (by omega), bk_setCell_other _ _ _ _ _ (by omega), bk_setCell_other _ _ _ _ _ (by omega), bk_setCell_other _ _ _ _ _ (by omega), K2.out]; rfl
              have FF : Hid (Below n w ((((((((w3).setCell ⟨n, 0, none⟩ (.bool false)).setCell ⟨n, 1, none⟩ (.int .u32 0)).setCell ⟨n, 2, none⟩ (.int .u16 0)).setCell ⟨n, 3, none⟩ (.bool false)).setCell ⟨g2, 0, none⟩ (.int .u8 co3)).setCell ⟨g2, 1, none⟩ (.int .u32 fa3)).drew)) := Lib.hid
                (((((((F3.out.setCell (p := ⟨n, 0, none⟩) (Nat.le_refl _) _).setCell (p := ⟨n, 1, none⟩) (Nat.le_refl _) _).setCell (p := ⟨n, 2, none⟩) (Nat.le_refl _) _).setCell (p := ⟨n, 3, none⟩) (Nat.le_refl _) _).setCell (p := ⟨g2, 0, none⟩) (Nat.le_of_lt hg1) _).setCell (p := ⟨g2, 1, none⟩) (Nat.le_of_lt hg1) _).drew)
              have KN := Lib.hid kN; have KG := Lib.hid kG
              clear kN kG n0 n1 n2 n3 m0 m1 zn0 zn1 zn2 zn3 zm0 zm1 c6 c11 c12 ln lg K1 K2 F3
              generalize (((((((w3).setCell ⟨n, 0, none⟩ (.bool false)).setCell ⟨n, 1, none⟩ (.int .u32 0)).setCell ⟨n, 2, none⟩ (.int .u16 0)).setCell ⟨n, 3, none⟩ (.bool false)).setCell ⟨g2, 0, none⟩ (.int .u8 co3)).setCell ⟨g2, 1, none⟩ (.int .u32 fa3)).drew = w5 at *
              go_wp2_with fail
              refine ret_six rfl rfl rfl rfl rfl rfl rfl rfl KN.out KG.out Try.underlying27 Try.underlying47 rfl rfl (by kernel_rfl) (by kernel_rfl) ?_
              exact ⟨none, by rw [HRR.out]; rfl, by rw [HRR.out]; exact Gots.nil, by rw [← HN.out]; exact FF.out⟩
      · by_cases h60 : k = 60
        · have C := end_any n x _ AA cc wr LP.out.hx (show p' < 2 ^ 40 by omega) (show b'.length < 2 ^ 40 by omega)
          rw [show lookV k = fv 46 by rw [h60]; rfl, show isStep k = true by rw [h60]; rfl] at HLk
          have STP : Stepped R mc (wk0 k b' p' told' fs' mc al') (wk0 k b' p' told' fs' mc al').endE (wk0 k b' p' told' fs' mc al').endS :=
            stepped_end R mc k b' p' told' fs' al' _ (.inr h60) (fun e => absurd e h0) LP.out.hr
          obtain ⟨E, hE⟩ : ∃ E, E = (wk0 k b' p' told' fs' mc al').endE := ⟨_, rfl⟩
          obtain ⟨S, hS⟩ : ∃ E, E = (wk0 k b' p' told' fs' mc al').endS := ⟨_, rfl⟩
          rw [← hE, ← hS] at C STP
          unfold fv at HLk
          have HC := Lib.hid C; have HS := Lib.hid STP
          clear C STP hE hS h0 h60
          go_wp2_with fail
          refine HC.out.mono ?_
          rintro e w3 ⟨A', c', rfl, h1, g1⟩
          clear HC HLk c0
          by_cases hE0 : E = 0
          · obtain ⟨nx2, b2, p2, al2, hS2, hlen, hsum, hr⟩ := HS.out.1 hE0
            subst hS2
            have LP2 := Lib.hid (LP.out.next g1 (by omega) (by omega) hgx h1 hsum hr)
            have hm : Hid (lenAt w3 x < lenAt wr x) := Lib.hid (by rw [lenAt_WB h1, lenAt_WB LP.out.hx]; exact hlen)
            subst hE0
            clear h1 g1 hlen hsum hr LP HS
            go_wp2_with fail
            exact ⟨⟨nx2, b2, p2, p', false, al2, A', c', rfl, LP2⟩, hm.out⟩
          · obtain ⟨hE8, hRR, hc8, hf32⟩ := HS.out.2 hE0
            have HRR := Lib.hid hRR
            have K1 := Lib.hid (g1.keep (by omega) LP.out.k1); have K2 := Lib.hid (g1.keep (by omega) LP.out.k2)
            have F3 := Lib.hid (LP.out.f.trans (g1.below (by omega) (Nat.le_of_lt (bk_lt LP.out.k1))))
            have c6 := h1.cell 6; have c11 := h1.cell 11; have c12 := h1.cell 12
            simp [wkC] at c6 c11 c12
            have hEi : ¬ (E : Int) = 0 := by omega
            have lx3 := bk_lt h1.1
            clear h1 g1 hRR LP HS hE0
            have kn := K1.out; have kg := K2.out
            have ln := bk_lt kn; have lg := bk_lt kg
            have n0 := bk_cell kn 0; have n1 := bk_cell kn 1; have n2 := bk_cell kn 2; have n3 := bk_cell kn 3
            have m0 := bk_cell kg 0; have m1 := bk_cell kg 1
            simp [fragC, faultC] at n0 n1 n2 n3 m0 m1
            have zn0 := bk_frozen kn 0; have zn1 := bk_frozen kn 1; have zn2 := bk_frozen kn 2; have zn3 := bk_frozen kn 3
            have zm0 := bk_frozen kg 0; have zm1 := bk_frozen kg 1
            clear kn kg
            obtain ⟨al3, hal3⟩ : ∃ a, a = S.al := ⟨_, rfl⟩
            obtain ⟨co3, hco3⟩ : ∃ a, a = S.code := ⟨_, rfl⟩
            obtain ⟨fa3, hfa3⟩ : ∃ a, a = S.fat := ⟨_, rfl⟩
            rw [← hal3] at c6 HRR
            rw [← hco3] at c11 HRR hc8
            rw [← hfa3] at c12 HRR hf32
            clear hal3 hco3 hfa3
            cases al3
            case false =>
              go_upto_region 13 with fail
              go_region
              have kN : bk ((((((((w3).setCell ⟨n, 0, none⟩ (.bool false)).setCell ⟨n, 1, none⟩ (.int .u32 0)).setCell ⟨n, 2, none⟩ (.int .u16 0)).setCell ⟨n, 3, none⟩ (.bool false)).setCell ⟨g2, 0, none⟩ (.int .u8 co3)).setCell ⟨g2, 1, none⟩ (.int .u32 fa3)).drew) n = some (.cells (fragC false 0 0 false) 27 (0, 0)) := by
                rw [bk_drew, bk_setCell_other _ _ _ _ _ (by omega), bk_setCell_other _ _ _ _ _ (by omega), bk_setCell_same, bk_setCell_same, bk_setCell_same, bk_setCell_same, K1.out]; rfl
              have kG : bk ((((((((w3).setCell ⟨n, 0, none⟩ (.bool false)).setCell ⟨n, 1, none⟩ (.int .u32 0)).setCell ⟨n, 2, none⟩ (.int .u16 0)).setCell ⟨n, 3, none⟩ (.bool false)).setCell ⟨g2, 0, none⟩ (.int .u8 co3)).setCell ⟨g2, 1, none⟩ (.int .u32 fa3)).drew) g2 = some (.cells (faultC co3 fa3) 47 (0, 0)) := by
                rw [bk_drew, bk_setCell_same, bk_setCell_same, bk_setCell_other _ _ _ _ _ (by omega), bk_setCell_other _ _ _ _ _ (by omega), bk_setCell_other _ _ _ _ _ (by omega), bk_setCell_other _ _ _ _ _ (by omega), K2.out]; rfl
              have FF : Hid (Below n w ((((((((w3).setCell ⟨n, 0, none⟩ (.bool false)).setCell ⟨n, 1, none⟩ (.int .u32 0)).setCell ⟨n, 2, none⟩ (.int .u16 0)).setCell ⟨n, 3, none⟩ (.bool false)).setCell ⟨g2, 0, none⟩ (.int .u8 co3)).setCell ⟨g2, 1, none⟩ (.int .u32 fa3)).drew)) := Lib.hid
                (((((((F3.out.setCell (p := ⟨n, 0, none⟩) (Nat.le_refl _) _).setCell (p := ⟨n, 1, none⟩) (Nat.le_refl _) _).setCell (p := ⟨n, 2, none⟩) (Nat.le_refl _) _).setCell (p := ⟨n, 3, none⟩) (Nat.le_refl _) _).setCell (p := ⟨g2, 0, none⟩) (Nat.le_of_lt hg1) _).setCell (p := ⟨g2, 1, none⟩) (Nat.le_of_lt hg1) _).drew)
              have KN := Lib.hid kN; have KG := Lib.hid kG
              clear kN kG n0 n1 n2 n3 m0 m1 zn0 zn1 zn2 zn3 zm0 zm1 c6 c11 c12 ln lg K1 K2 F3
              generalize (((((((w3).setCell ⟨n, 0, none⟩ (.bool false)).setCell ⟨n, 1, none⟩ (.int .u32 0)).setCell ⟨n, 2, none⟩ (.int .u16 0)).setCell ⟨n, 3, none⟩ (.bool false)).setCell ⟨g2, 0, none⟩ (.int .u8 co3)).setCell ⟨g2, 1, none⟩ (.int .u32 fa3)).drew = w5 at *
              go_wp2_with fail
              refine ret_six rfl rfl rfl rfl rfl rfl rfl rfl KN.out KG.out Try.underlying27 Try.underlying47 rfl rfl (by kernel_rfl) (by kernel_rfl) ?_
              exact ⟨none, by rw [HRR.out]; rfl, by rw [HRR.out]; exact Gots.nil, by rw [← HN.out]; exact FF.out⟩
            case true =>
              by_cases hE7 : E = 7
              · have hE7' : (E : Int) = 7 := by omega
                subst hE7
                go_upto_region 13 with fail
                go_region
                have kN : bk ((((((((w3).setCell ⟨n, 0, none⟩ (.bool false)).setCell ⟨n, 1, none⟩ (.int .u32 0)).setCell ⟨n, 2, none⟩ (.int .u16 0)).setCell ⟨n, 3, none⟩ (.bool false)).setCell ⟨g2, 0, none⟩ (.int .u8 co3)).setCell ⟨g2, 1, none⟩ (.int .u32 fa3)).drew) n = some (.cells (fragC false 0 0 false) 27 (0, 0)) := by
                  rw [bk_drew, bk_setCell_other _ _ _ _ _ (by omega), bk_setCell_other _ _ _ _ _ (by omega), bk_setCell_same, bk_setCell_same, bk_setCell_same, bk_setCell_same, K1.out]; rfl
                have kG : bk ((((((((w3).setCell ⟨n, 0, none⟩ (.bool false)).setCell ⟨n, 1, none⟩ (.int .u32 0)).setCell ⟨n, 2, none⟩ (.int .u16 0)).setCell ⟨n, 3, none⟩ (.bool false)).setCell ⟨g2, 0, none⟩ (.int .u8 co3)).setCell ⟨g2, 1, none⟩ (.int .u32 fa3)).drew) g2 = some (.cells (faultC co3 fa3) 47 (0, 0)) := by
                  rw [bk_drew, bk_setCell_same, bk_setCell_same, bk_setCell_other _ _ _ _ _ (by omega), bk_setCell_other _ _ _ _ _ (by omega), bk_setCell_other _ _ _ _ _ (by omega), bk_setCell_other _ _ _ _ _ (by omega), K2.out]; rfl
                have FF : Hid (Below n w ((((((((w3).setCell ⟨n, 0, none⟩ (.bool false)).setCell ⟨n, 1, none⟩ (.int .u32 0)).setCell ⟨n, 2, none⟩ (.int .u16 0)).setCell ⟨n, 3, none⟩ (.bool false)).setCell ⟨g2, 0, none⟩ (.int .u8 co3)).setCell ⟨g2, 1, none⟩ (.int .u32 fa3)).drew)) := Lib.hid
                  (((((((F3.out.setCell (p := ⟨n, 0, none⟩) (Nat.le_refl _) _).setCell (p := ⟨n, 1, none⟩) (Nat.le_refl _) _).setCell (p := ⟨n, 2, none⟩) (Nat.le_refl _) _).setCell (p := ⟨n, 3, none⟩) (Nat.le_refl _) _).setCell (p := ⟨g2, 0, none⟩) (Nat.le_of_lt hg1) _).setCell (p := ⟨g2, 1, none⟩) (Nat.le_of_lt hg1) _).drew)
                have KN := Lib.hid kN; have KG := Lib.hid kG
                clear kN kG n0 n1 n2 n3 m0 m1 zn0 zn1 zn2 zn3 zm0 zm1 c6 c11 c12 ln lg K1 K2 F3
                generalize (((((((w3).setCell ⟨n, 0, none⟩ (.bool false)).setCell ⟨n, 1, none⟩ (.int .u32 0)).setCell ⟨n, 2, none⟩ (.int .u16 0)).setCell ⟨n, 3, none⟩ (.bool false)).setCell ⟨g2, 0, none⟩ (.int .u8 co3)).setCell ⟨g2, 1, none⟩ (.int .u32 fa3)).drew = w5 at *
                go_wp2_with fail
                refine ret_six rfl rfl rfl rfl rfl rfl rfl rfl KN.out KG.out Try.underlying27 Try.underlying47 rfl rfl (by kernel_rfl) (by kernel_rfl) ?_
                exact ⟨none, by rw [HRR.out]; rfl, by rw [HRR.out]; exact Gots.nil, by rw [← HN.out]; exact FF.out⟩
              · have hE7' : ¬ (E : Int) = 7 := by omega
                have hE7b : (E == 7) = false := by rw [beq_eq_false_iff_ne]; exact hE7
                have hE7c : ((E : Int) == 7) = false := by rw [beq_eq_false_iff_ne]; omega
                rw [hE7b] at HRR
                clear hE7b
                go_upto_region 13 with fail
                go_region
                have kN : bk ((((((((w3).setCell ⟨n, 0, none⟩ (.bool false)).setCell ⟨n, 1, none⟩ (.int .u32 0)).setCell ⟨n, 2, none⟩ (.int .u16 0)).setCell ⟨n, 3, none⟩ (.bool false)).setCell ⟨g2, 0, none⟩ (.int .u8 co3)).setCell ⟨g2, 1, none⟩ (.int .u32 fa3)).drew) n = some (.cells (fragC false 0 0 false) 27 (0, 0)) := by
                  rw [bk_drew, bk_setCell_other _ _ _ _ _ (by omega), bk_setCell_other _ _ _ _ _ (by omega), bk_setCell_same, bk_setCell_same, bk_setCell_same, bk_setCell_same, K1.out]; rfl
                have kG : bk ((((((((w3).setCell ⟨n, 0, none⟩ (.bool false)).setCell ⟨n, 1, none⟩ (.int .u32 0)).setCell ⟨n, 2, none⟩ (.int .u16 0)).setCell ⟨n, 3, none⟩ (.bool false)).setCell ⟨g2, 0, none⟩ (.int .u8 co3)).setCell ⟨g2, 1, none⟩ (.int .u32 fa3)).drew) g2 = some (.cells (faultC co3 fa3) 47 (0, 0)) := by
                  rw [bk_drew, bk_setCell_same, bk_setCell_same, bk_setCell_other _ _ _ _ _ (by omega), bk_setCell_other _ _ _ _ _ (by omega), bk_setCell_other _ _ _ _ _ (by omega), bk_setCell_other _ _ _ _ _ (by omega), K2.out]; rfl
                have FF : Hid (Below n w ((((((((w3).setCell ⟨n, 0, none⟩ (.bool false)).setCell ⟨n, 1, none⟩ (.int .u32 0)).setCell ⟨n, 2, none⟩ (.int .u16 0)).setCell ⟨n, 3, none⟩ (.bool false)).setCell ⟨g2, 0, none⟩ (.int .u8 co3)).setCell ⟨g2, 1, none⟩ (.int .u32 fa3)).drew)) := Lib.hid
                  (((((((F3.out.setCell (p := ⟨n, 0, none⟩) (Nat.le_refl _) _).setCell (p := ⟨n, 1, none⟩) (Nat.le_refl _) _).setCell (p := ⟨n, 2, none⟩) (Nat.le_refl _) _).setCell (p := ⟨n, 3, none⟩) (Nat.le_refl _) _).setCell (p := ⟨g2, 0, none⟩) (Nat.le_of_lt hg1) _).setCell (p := ⟨g2, 1, none⟩) (Nat.le_of_lt hg1) _).drew)
                have KN := Lib.hid kN; have KG := Lib.hid kG
                clear kN kG n0 n1 n2 n3 m0 m1 zn0 zn1 zn2 zn3 zm0 zm1 c6 c11 c12 ln lg K1 K2 F3
                generalize (((((((w3).setCell ⟨n, 0, none⟩ (.bool false)).setCell ⟨n, 1, none⟩ (.int .u32 0)).setCell ⟨n, 2, none⟩ (.int .u16 0)).setCell ⟨n, 3, none⟩ (.bool false)).setCell ⟨g2, 0, none⟩ (.int .u8 co3)).setCell ⟨g2, 1, none⟩ (.int .u32 fa3)).drew = w5 at *
                go_wp2_with fail
                refine ret_six rfl rfl rfl rfl rfl rfl rfl rfl KN.out KG.out Try.underlying27 Try.underlying47 rfl rfl (by kernel_rfl) (by kernel_rfl) ?_
                exact ⟨none, by rw [HRR.out]; rfl, by rw [HRR.out]; exact Gots.nil, by rw [← HN.out]; exact FF.out⟩
        · by_cases h43 : k = 43
          · have C := route_any n x _ AA cc wr LP.out.hx (show p' < 2 ^ 40 by omega) (show b'.length < 2 ^ 40 by omega)
            rw [show lookV k = fv 47 by rw [h43]; rfl, show isStep k = true by rw [h43]; rfl] at HLk
            have STP : Stepped R mc (wk0 k b' p' told' fs' mc al') (wk0 k b' p' told' fs' mc al').routeE (wk0 k b' p' told' fs' mc al').routeS := by
              have hr := LP.out.hr
              rw [h43] at hr ⊢
              exact stepped_route R mc b' p' told' fs' al' _ hr
            obtain ⟨E, hE⟩ : ∃ E, E = (wk0 k b' p' told' fs' mc al').routeE := ⟨_, rfl⟩
            obtain ⟨S, hS⟩ : ∃ E, E = (wk0 k b' p' told' fs' mc al').routeS := ⟨_, rfl⟩
            rw [← hE, ← hS] at C STP
            unfold fv at HLk
            have HC := Lib.hid C; have HS := Lib.hid STP
            clear C STP hE hS h0 h60 h43
            go_wp2_with fail
            refine HC.out.mono ?_
            rintro e w3 ⟨A', c', rfl, h1, g1⟩
            clear HC HLk c0
            by_cases hE0 : E = 0
            · obtain ⟨nx2, b2, p2, al2, hS2, hlen, hsum, hr⟩ := HS.out.1 hE0
              subst hS2
              have LP2 := Lib.hid (LP.out.next g1 (by omega) (by omega) hgx h1 hsum hr)
              have hm : Hid (lenAt w3 x < lenAt wr x) := Lib.hid (by rw [lenAt_WB h1, lenAt_WB LP.out.hx]; exact hlen)
              subst hE0
              clear h1 g1 hlen hsum hr LP HS
              go_wp2_with fail
              exact ⟨⟨nx2, b2, p2, p', false, al2, A', c', rfl, LP2⟩, hm.out⟩
            · obtain ⟨hE8, hRR, hc8, hf32⟩ := HS.out.2 hE0
              have HRR := Lib.hid hRR
              have K1 := Lib.hid (g1.keep (by omega) LP.out.k1); have K2 := Lib.hid (g1.keep (by omega) LP.out.k2)
              have F3 := Lib.hid (LP.out.f.trans (g1.below (by omega) (Nat.le_of_lt (bk_lt LP.out.k1))))
              have c6 := h1.cell 6; have c11 := h1.cell 11; have c12 := h1.cell 12
              simp [wkC] at c6 c11 c12
              have hEi : ¬ (E : Int) = 0 := by omega
              have lx3 := bk_lt h1.1
              clear h1 g1 hRR LP HS hE0
              have kn := K1.out; have kg := K2.out
              have ln := bk_lt kn; have lg := bk_lt kg
              have n0 := bk_cell kn 0; have n1 := bk_cell kn 1; have n2 := bk_cell kn 2; have n3 := bk_cell kn 3
              have m0 := bk_cell kg 0; have m1 := bk_cell kg 1
              simp [fragC, faultC] at n0 n1 n2 n3 m0 m1
              have zn0 := bk_frozen kn 0; have zn1 := bk_frozen kn 1; have zn2 := bk_frozen kn 2; have zn3 := bk_frozen kn 3
              have zm0 := bk_frozen kg 0; have zm1 := bk_frozen kg 1
              clear kn kg
              obtain ⟨al3, hal3⟩ : ∃ a, a = S.al := ⟨_, rfl⟩
              obtain ⟨co3, hco3⟩ : ∃ a, a = S.code := ⟨_, rfl⟩
              obtain ⟨fa3, hfa3⟩ : ∃ a, a = S.fat := ⟨_, rfl⟩
              rw [← hal3] at c6 HRR
              rw [← hco3] at c11 HRR hc8
              rw [← hfa3] at c12 HRR hf32
              clear hal3 hco3 hfa3
              cases al3
              case false =>
                go_upto_region 13 with fail
                go_region
                have kN : bk ((((((((w3).setCell ⟨n, 0, none⟩ (.bool false)).setCell ⟨n, 1, none⟩ (.int .u32 0)).setCell ⟨n, 2, none⟩ (.int .u16 0)).setCell ⟨n, 3, none⟩ (.bool false)).setCell ⟨g2, 0, none⟩ (.int .u8 co3)).setCell ⟨g2, 1, none⟩ (.int .u32 fa3)).drew) n = some (.cells (fragC false 0 0 false) 27 (0, 0)) := by
                  rw [bk_drew, bk_setCell_other _ _ _ _ _ (by omega), bk_setCell_other _ _ _ _ _ (by omega), bk_setCell_same, bk_setCell_same, bk_setCell_same, bk_setCell_same, K1.out]; rfl
                have kG : bk ((((((((w3).setCell ⟨n, 0, none⟩ (.bool false)).setCell ⟨n, 1, none⟩ (.int .u32 0)).setCell ⟨n, 2, none⟩ (.int .u16 0)).setCell ⟨n, 3, none⟩ (.bool false)).setCell ⟨g2, 0, none⟩ (.int .u8 co3)).setCell ⟨g2, 1, none⟩ (.int .u32 fa3)).drew) g2 = some (.cells (faultC co3 fa3) 47 (0, 0)) := by
                  rw [bk_drew, bk_setCell_same, bk_setCell_same, bk_setCell_other _ _ _ _ _ (by omega), bk_setCell_other _ _ _ _ _ (by omega), bk_setCell_other _ _ _ _ _ (by omega), bk_setCell_other _ _ _ _ _ (by omega), K2.out]; rfl
                have FF : Hid (Below n w ((((((((w3).setCell ⟨n, 0, none⟩ (.bool false)).setCell ⟨n, 1, none⟩ (.int .u32 0)).setCell ⟨n, 2, none⟩ (.int .u16 0)).setCell ⟨n, 3, none⟩ (.bool false)).setCell ⟨g2, 0, none⟩ (.int .u8 co3)).setCell ⟨g2, 1, none⟩ (.int .u32 fa3)).drew)) := Lib.hid
                  (((((((F3.out.setCell (p := ⟨n, 0, none⟩) (Nat.le_refl _) _).setCell (p := ⟨n, 1, none⟩) (Nat.le_refl _) _).setCell (p := ⟨n, 2, none⟩) (Nat.le_refl _) _).setCell (p := ⟨n, 3, none⟩) (Nat.le_refl _) _).setCell (p := ⟨g2, 0, none⟩) (Nat.le_of_lt hg1) _).setCell (p := ⟨g2, 1, none⟩) (Nat.le_of_lt hg1) _).drew)
                have KN := Lib.hid kN; have KG := Lib.hid kG
                clear kN kG n0 n1 n2 n3 m0 m1 zn0 zn1 zn2 zn3 zm0 zm1 c6 c11 c12 ln lg K1 K2 F3
                generalize (((((((w3).setCell ⟨n, 0, none⟩ (.bool false)).setCell ⟨n, 1, none⟩ (.int .u32 0)).setCell ⟨n, 2, none⟩ (.int .u16 0)).setCell ⟨n, 3, none⟩ (.bool false)).setCell ⟨g2, 0, none⟩ (.int .u8 co3)).setCell ⟨g2, 1, none⟩ (.int .u32 fa3)).drew = w5 at *
                go_wp2_with fail
                refine ret_six rfl rfl rfl rfl rfl rfl rfl rfl KN.out KG.out Try.underlying27 Try.underlying47 rfl rfl (by kernel_rfl) (by kernel_rfl) ?_
                exact ⟨none, by rw [HRR.out]; rfl, by rw [HRR.out]; exact Gots.nil, by rw [← HN.out]; exact FF.out⟩
              case true =>
                by_cases hE7 : E = 7
                · have hE7' : (E : Int) = 7 := by omega
                  subst hE7
                  go_upto_region 13 with fail
                  go_region
                  have kN : bk ((((((((w3).setCell ⟨n, 0, none⟩ (.bool false)).setCell ⟨n, 1, none⟩ (.int .u32 0)).setCell ⟨n, 2, none⟩ (.int .u16 0)).setCell ⟨n, 3, none⟩ (.bool false)).setCell ⟨g2, 0, none⟩ (.int .u8 co3)).setCell ⟨g2, 1, none⟩ (.int .u32 fa3)).drew) n = some (.cells (fragC false 0 0 false) 27 (0, 0)) := by
                    rw [bk_drew, bk_setCell_other _ _ _ _ _ (by omega), bk_setCell_other _ _ _ _ _ (by omega), bk_setCell_same, bk_setCell_same, bk_setCell_same, bk_setCell_same, K1.out]; rfl
                  have kG : bk ((((((((w3).setCell ⟨n, 0, none⟩ (.bool false)).setCell ⟨n, 1, none⟩ (.int .u32 0)).setCell ⟨n, 2, none⟩ (.int .u16 0)).setCell ⟨n, 3, none⟩ (.bool false)).setCell ⟨g2, 0, none⟩ (.int .u8 co3)).setCell ⟨g2, 1, none⟩ (.int .u32 fa3)).drew) g2 = some (.cells (faultC co3 fa3) 47 (0, 0)) := by
                    rw [bk_drew, bk_setCell_same, bk_setCell_same, bk_setCell_other _ _ _ _ _ (by omega), bk_setCell_other _ _ _ _ _ (by omega), bk_setCell_other _ _ _ _ _ (by omega), bk_setCell_other _ _ _ _ _ (by omega), K2.out]; rfl
                  have FF : Hid (Below n w ((((((((w3).setCell ⟨n, 0, none⟩ (.bool false)).setCell ⟨n, 1, none⟩ (.int .u32 0)).setCell ⟨n, 2, none⟩ (.int .u16 0)).setCell ⟨n, 3, none⟩ (.bool false)).setCell ⟨g2, 0, none⟩ (.int .u8 co3)).setCell ⟨g2, 1, none⟩ (.int .u32 fa3)).drew)) := Lib.hid
                    (((((((F3.out.setCell (p := ⟨n, 0, none⟩) (Nat.le_refl _) _).setCell (p := ⟨n, 1, none⟩) (Nat.le_refl _) _).setCell (p := ⟨n, 2, none⟩) (Nat.le_refl _) _).setCell (p := ⟨n, 3, none⟩) (Nat.le_refl _) _).setCell (p := ⟨g2, 0, none⟩) (Nat.le_of_lt hg1) _).setCell (p := ⟨g2, 1, none⟩) (Nat.le_of_lt hg1) _).drew)
                  have KN := Lib.hid kN; have KG := Lib.hid kG
                  clear kN kG n0 n1 n2 n3 m0 m1 zn0 zn1 zn2 zn3 zm0 zm1 c6 c11 c12 ln lg K1 K2 F3
                  generalize (((((((w3).setCell ⟨n, 0, none⟩ (.bool false)).setCell ⟨n, 1, none⟩ (.int .u32 0)).setCell ⟨n, 2, none⟩ (.int .u16 0)).setCell ⟨n, 3, none⟩ (.bool false)).setCell ⟨g2, 0, none⟩ (.int .u8 co3)).setCell ⟨g2, 1, none⟩ (.int .u32 fa3)).drew = w5 at *
                  go_wp2_with fail
                  refine ret_six rfl rfl rfl rfl rfl rfl rfl rfl KN.out KG.out Try.underlying27 Try.underlying47 rfl rfl (by kernel_rfl) (by kernel_rfl) ?_
                  exact ⟨none, by rw [HRR.out]; rfl, by rw [HRR.out]; exact Gots.nil, by rw [← HN.out]; exact FF.out⟩
                · have hE7' : ¬ (E : Int) = 7 := by omega
                  have hE7b : (E == 7) = false := by rw [beq_eq_false_iff_ne]; exact hE7
                  have hE7c : ((E : Int) == 7) = false := by rw [beq_eq_false_iff_ne]; omega
                  rw [hE7b] at HRR
                  clear hE7b
                  go_upto_region 13 with fail
                  go_region
                  have kN : bk ((((((((w3).setCell ⟨n, 0, none⟩ (.bool false)).setCell ⟨n, 1, none⟩ (.int .u32 0)).setCell ⟨n, 2, none⟩ (.int .u16 0)).setCell ⟨n, 3, none⟩ (.bool false)).setCell ⟨g2, 0, none⟩ (.int .u8 co3)).setCell ⟨g2, 1, none⟩ (.int .u32 fa3)).drew) n = some (.cells (fragC false 0 0 false) 27 (0, 0)) := by
                    rw [bk_drew, bk_setCell_other _ _ _ _ _ (by omega), bk_setCell_other _ _ _ _ _ (by omega), bk_setCell_same, bk_setCell_same, bk_setCell_same, bk_setCell_same, K1.out]; rfl
                  have kG : bk ((((((((w3).setCell ⟨n, 0, none⟩ (.bool false)).setCell ⟨n, 1, none⟩ (.int .u32 0)).setCell ⟨n, 2, none⟩ (.int .u16 0)).setCell ⟨n, 3, none⟩ (.bool false)).setCell ⟨g2, 0, none⟩ (.int .u8 co3)).setCell ⟨g2, 1, none⟩ (.int .u32 fa3)).drew) g2 = some (.cells (faultC co3 fa3) 47 (0, 0)) := by
                    rw [bk_drew, bk_setCell_same, bk_setCell_same, bk_setCell_other _ _ _ _ _ (by omega), bk_setCell_other _ _ _ _ _ (by omega), bk_setCell_other _ _ _ _ _ (by omega), bk_setCell_other _ _ _ _ _ (by omega), K2.out]; rfl
                  have FF : Hid (Below n w ((((((((w3).setCell ⟨n, 0, none⟩ (.bool false)).setCell ⟨n, 1, none⟩ (.int .u32 0)).setCell ⟨n, 2, none⟩ (.int .u16 0)).setCell ⟨n, 3, none⟩ (.bool false)).setCell ⟨g2, 0, none⟩ (.int .u8 co3)).setCell ⟨g2, 1, none⟩ (.int .u32 fa3)).drew)) := Lib.hid
                    (((((((F3.out.setCell (p := ⟨n, 0, none⟩) (Nat.le_refl _) _).setCell (p := ⟨n, 1, none⟩) (Nat.le_refl _) _).setCell (p := ⟨n, 2, none⟩) (Nat.le_refl _) _).setCell (p := ⟨n, 3, none⟩) (Nat.le_refl _) _).setCell (p := ⟨g2, 0, none⟩) (Nat.le_of_lt hg1) _).setCell (p := ⟨g2, 1, none⟩) (Nat.le_of_lt hg1) _).drew)
                  have KN := Lib.hid kN; have KG := Lib.hid kG
                  clear kN kG n0 n1 n2 n3 m0 m1 zn0 zn1 zn2 zn3 zm0 zm1 c6 c11 c12 ln lg K1 K2 F3
                  generalize (((((((w3).setCell ⟨n, 0, none⟩ (.bool false)).setCell ⟨n, 1, none⟩ (.int .u32 0)).setCell ⟨n, 2, none⟩ (.int .u16 0)).setCell ⟨n, 3, none⟩ (.bool false)).setCell ⟨g2, 0, none⟩ (.int .u8 co3)).setCell ⟨g2, 1, none⟩ (.int .u32 fa3)).drew = w5 at *
                  go_wp2_with fail
                  refine ret_six rfl rfl rfl rfl rfl rfl rfl rfl KN.out KG.out Try.underlying27 Try.underlying47 rfl rfl (by kernel_rfl) (by kernel_rfl) ?_
                  exact ⟨none, by rw [HRR.out]; rfl, by rw [HRR.out]; exact Gots.nil, by rw [← HN.out]; exact FF.out⟩
          · rw [show lookV k = .nilFunc by unfold lookV; rw [if_neg h0, if_neg h60, if_neg h43], show isStep k = false by
              unfold isStep
              rw [show (k == 0) = false by rw [beq_eq_false_iff_ne]; exact h0, show (k == 60) = false by rw [beq_eq_false_iff_ne]; exact h60, show (k == 43) = false by rw [beq_eq_false_iff_ne]; exact h43]
              rfl] at HLk
            by_cases h44 : k = 44
            · have hk44 : (k.toNat : Int) = 44 := by rw [h44]; rfl
              by_cases h8 : b'.length < 8
              · have C := part_short n x _ AA cc wr LP.out.hx h8
                obtain ⟨E, hE⟩ : ∃ E, E = 5 := ⟨_, rfl⟩
                rw [show ((5 : Int)) = ((E : Nat) : Int) by rw [hE]; rfl] at C
                have hRR : R = ⟨0, [], (wk0 k b' p' told' fs' mc al').al && E == 7, false, 0, 0, false, (wk0 k b' p' told' fs' mc al').code, (wk0 k b' p' told' fs' mc al').fat, E⟩ := by
                  have hr := LP.out.hr
                  rw [h44, chain_eq, if_neg (by decide), if_neg (by decide), if_pos rfl, if_pos h8] at hr
                  rw [hr, hE]
                  simp [tlE, wk0]
                obtain ⟨S, hS⟩ : ∃ E, E = wk0 k b' p' told' fs' mc al' := ⟨_, rfl⟩
                have c6 := LP.out.hx.cell 6; have c11 := LP.out.hx.cell 11; have c12 := LP.out.hx.cell 12
                rw [← hS] at c6 c11 c12 hRR
                have hc8 : S.code < 256 := by rw [hS]; simp [wk0]
                have hf32 : S.fat < 4294967296 := by rw [hS]; simp [wk0]
                simp [wkC] at c6 c11 c12
                have K1 := Lib.hid LP.out.k1; have K2 := Lib.hid LP.out.k2; have F3 := Lib.hid LP.out.f
                have HRR := Lib.hid hRR; have HC := Lib.hid C
                have hEi : ¬ (E : Int) = 0 := by omega
                have lx3 := bk_lt LP.out.hx.1
                have hE8 : E < 256 := by omega
                clear hRR C hS hE LP h0 h60 h43 h44
                go_wp2_with fail
                refine HC.out.mono ?_
                rintro e w3 ⟨rfl, rfl⟩
                clear HC HLk c0
                have kn := K1.out; have kg := K2.out
                have ln := bk_lt kn; have lg := bk_lt kg
                have n0 := bk_cell kn 0; have n1 := bk_cell kn 1; have n2 := bk_cell kn 2; have n3 := bk_cell kn 3
                have m0 := bk_cell kg 0; have m1 := bk_cell kg 1
                simp [fragC, faultC] at n0 n1 n2 n3 m0 m1
                have zn0 := bk_frozen kn 0; have zn1 := bk_frozen kn 1; have zn2 := bk_frozen kn 2; have zn3 := bk_frozen kn 3
                have zm0 := bk_frozen kg 0; have zm1 := bk_frozen kg 1
                clear kn kg
                obtain ⟨al3, hal3⟩ : ∃ a, a = S.al := ⟨_, rfl⟩
                obtain ⟨co3, hco3⟩ : ∃ a, a = S.code := ⟨_, rfl⟩
                obtain ⟨fa3, hfa3⟩ : ∃ a, a = S.fat := ⟨_, rfl⟩
                rw [← hal3] at c6 HRR
                rw [← hco3] at c11 HRR hc8
                rw [← hfa3] at c12 HRR hf32
                clear hal3 hco3 hfa3
                cases al3
                case false =>
                  go_upto_region 13 with fail
                  go_region
                  have kN : bk ((((((((wr).setCell ⟨n, 0, none⟩ (.bool false)).setCell ⟨n, 1, none⟩ (.int .u32 0)).setCell ⟨n, 2, none⟩ (.int .u16 0)).setCell ⟨n, 3, none⟩ (.bool false)).setCell ⟨g2, 0, none⟩ (.int .u8 co3)).setCell ⟨g2, 1, none⟩ (.int .u32 fa3)).drew) n = some (.cells (fragC false 0 0 false) 27 (0, 0)) := by
                    rw [bk_drew, bk_setCell_other _ _ _ _ _ (by omega), bk_setCell_other _ _ _ _ _ (by omega), bk_setCell_same, bk_setCell_same, bk_setCell_same, bk_setCell_same, K1.out]; rfl
                  have kG : bk ((((((((wr).setCell ⟨n, 0, none⟩ (.bool false)).setCell ⟨n, 1, none⟩ (.int .u32 0)).setCell ⟨n, 2, none⟩ (.int .u16 0)).setCell ⟨n, 3, none⟩ (.bool false)).setCell ⟨g2, 0, none⟩ (.int .u8 co3)).setCell ⟨g2, 1, none⟩ (.int .u32 fa3)).drew) g2 = some (.cells (faultC co3 fa3) 47 (0, 0)) := by
                    rw [bk_drew, bk_setCell_same, bk_setCell_same, bk_setCell_other _ _ _ _ _ (by omega), bk_setCell_other _ _ _ _ _ (by omega), bk_setCell_other _ _ _ _ _ (by omega), bk_setCell_other _ _ _ _ _ (by omega), K2.out]; rfl
                  have FF : Hid (Below n w ((((((((wr).setCell ⟨n, 0, none⟩ (.bool false)).setCell ⟨n, 1, none⟩ (.int .u32 0)).setCell ⟨n, 2, none⟩ (.int .u16 0)).setCell ⟨n, 3, none⟩ (.bool false)).setCell ⟨g2, 0, none⟩ (.int .u8 co3)).setCell ⟨g2, 1, none⟩ (.int .u32 fa3)).drew)) := Lib.hid
                    (((((((F3.out.setCell (p := ⟨n, 0, none⟩) (Nat.le_refl _) _).setCell (p := ⟨n, 1, none⟩) (Nat.le_refl _) _).setCell (p := ⟨n, 2, none⟩) (Nat.le_refl _) _).setCell (p := ⟨n, 3, none⟩) (Nat.le_refl _) _).setCell (p := ⟨g2, 0, none⟩) (Nat.le_of_lt hg1) _).setCell (p := ⟨g2, 1, none⟩) (Nat.le_of_lt hg1) _).drew)
                  have KN := Lib.hid kN; have KG := Lib.hid kG
                  clear kN kG n0 n1 n2 n3 m0 m1 zn0 zn1 zn2 zn3 zm0 zm1 c6 c11 c12 ln lg K1 K2 F3
                  generalize (((((((wr).setCell ⟨n, 0, none⟩ (.bool false)).setCell ⟨n, 1, none⟩ (.int .u32 0)).setCell ⟨n, 2, none⟩ (.int .u16 0)).setCell ⟨n, 3, none⟩ (.bool false)).setCell ⟨g2, 0, none⟩ (.int .u8 co3)).setCell ⟨g2, 1, none⟩ (.int .u32 fa3)).drew = w5 at *
                  go_wp2_with fail
                  refine ret_six rfl rfl rfl rfl rfl rfl rfl rfl KN.out KG.out Try.underlying27 Try.underlying47 rfl rfl (by kernel_rfl) (by kernel_rfl) ?_
                  exact ⟨none, by rw [HRR.out]; rfl, by rw [HRR.out]; exact Gots.nil, by rw [← HN.out]; exact FF.out⟩
                case true =>
                  by_cases hE7 : E = 7
                  · have hE7' : (E : Int) = 7 := by omega
                    subst hE7
                    go_upto_region 13 with fail
                    go_region
                    have kN : bk ((((((((wr).setCell ⟨n, 0, none⟩ (.bool false)).setCell ⟨n, 1, none⟩ (.int .u32 0)).setCell ⟨n, 2, none⟩ (.int .u16 0)).setCell ⟨n, 3, none⟩ (.bool false)).setCell ⟨g2, 0, none⟩ (.int .u8 co3)).setCell ⟨g2, 1, none⟩ (.int .u32 fa3)).drew) n = some (.cells (fragC false 0 0 false) 27 (0, 0)) := by
                      rw [bk_drew, bk_setCell_other _ _ _ _ _ (by omega), bk_setCell_other _ _ _ _ _ (by omega), bk_setCell_same, bk_setCell_same, bk_setCell_same, bk_setCell_same, K1.out]; rfl
                    have kG : bk ((((((((wr).setCell ⟨n, 0, none⟩ (.bool false)).setCell ⟨n, 1, none⟩ (.int .u32 0)).setCell ⟨n, 2, none⟩ (.int .u16 0)).setCell ⟨n, 3, none⟩ (.bool false)).setCell ⟨g2, 0, none⟩ (.int .u8 co3)).setCell ⟨g2, 1, none⟩ (.int .u32 fa3)).drew) g2 = some (.cells (faultC co3 fa3) 47 (0, 0)) := by
                      rw [bk_drew, bk_setCell_same, bk_setCell_same, bk_setCell_other _ _ _ _ _ (by omega), bk_setCell_other _ _ _ _ _ (by omega), bk_setCell_other _ _ _ _ _ (by omega), bk_setCell_other _ _ _ _ _ (by omega), K2.out]; rfl
                    have FF : Hid (Below n w ((((((((wr).setCell ⟨n, 0, none⟩ (.bool false)).setCell ⟨n, 1, none⟩ (.int .u32 0)).setCell ⟨n, 2, none⟩ (.int .u16 0)).setCell ⟨n, 3, none⟩ (.bool false)).setCell ⟨g2, 0, none⟩ (.int .u8 co3)).setCell ⟨g2, 1, none⟩ (.int .u32 fa3)).drew)) := Lib.hid
                      (((((((F3.out.setCell (p := ⟨n, 0, none⟩) (Nat.le_refl _) _).setCell (p := ⟨n, 1, none⟩) (Nat.le_refl _) _).setCell (p := ⟨n, 2, none⟩) (Nat.le_refl _) _).setCell (p := ⟨n, 3, none⟩) (Nat.le_refl _) _).setCell (p := ⟨g2, 0, none⟩) (Nat.le_of_lt hg1) _).setCell (p := ⟨g2, 1, none⟩) (Nat.le_of_lt hg1) _).drew)
                    have KN := Lib.hid kN; have KG := Lib.hid kG
                    clear kN kG n0 n1 n2 n3 m0 m1 zn0 zn1 zn2 zn3 zm0 zm1 c6 c11 c12 ln lg K1 K2 F3
                    generalize (((((((wr).setCell ⟨n, 0, none⟩ (.bool false)).setCell ⟨n, 1, none⟩ (.int .u32 0)).setCell ⟨n, 2, none⟩ (.int .u16 0)).setCell ⟨n, 3, none⟩ (.bool false)).setCell ⟨g2, 0, none⟩ (.int .u8 co3)).setCell ⟨g2, 1, none⟩ (.int .u32 fa3)).drew = w5 at *
                    go_wp2_with fail
                    refine ret_six rfl rfl rfl rfl rfl rfl rfl rfl KN.out KG.out Try.underlying27 Try.underlying47 rfl rfl (by kernel_rfl) (by kernel_rfl) ?_
                    exact ⟨none, by rw [HRR.out]; rfl, by rw [HRR.out]; exact Gots.nil, by rw [← HN.out]; exact FF.out⟩
                  · have hE7' : ¬ (E : Int) = 7 := by omega
                    have hE7b : (E == 7) = false := by rw [beq_eq_false_iff_ne]; exact hE7
                    have hE7c : ((E : Int) == 7) = false := by rw [beq_eq_false_iff_ne]; omega
                    rw [hE7b] at HRR
                    clear hE7b
                    go_upto_region 13 with fail
                    go_region
                    have kN : bk ((((((((wr).setCell ⟨n, 0, none⟩ (.bool false)).setCell ⟨n, 1, none⟩ (.int .u32 0)).setCell ⟨n, 2, none⟩ (.int .u16 0)).setCell ⟨n, 3, none⟩ (.bool false)).setCell ⟨g2, 0, none⟩ (.int .u8 co3)).setCell ⟨g2, 1, none⟩ (.int .u32 fa3)).drew) n = some (.cells (fragC false 0 0 false) 27 (0, 0)) := by
                      rw [bk_drew, bk_setCell_other _ _ _ _ _ (by omega), bk_setCell_other _ _ _ _ _ (by omega), bk_setCell_same, bk_setCell_same, bk_setCell_same, bk_setCell_same, K1.out]; rfl
                    have kG : bk ((((((((wr).setCell ⟨n, 0, none⟩ (.bool false)).setCell ⟨n, 1, none⟩ (.int .u32 0)).setCell ⟨n, 2, none⟩ (.int .u16 0)).setCell ⟨n, 3, none⟩ (.bool false)).setCell ⟨g2, 0, none⟩ (.int .u8 co3)).setCell ⟨g2, 1, none⟩ (.int .u32 fa3)).drew) g2 = some (.cells (faultC co3 fa3) 47 (0, 0)) := by
                      rw [bk_drew, bk_setCell_same, bk_setCell_same, bk_setCell_other _ _ _ _ _ (by omega), bk_setCell_other _ _ _ _ _ (by omega), bk_setCell_other _ _ _ _ _ (by omega), bk_setCell_other _ _ _ _ _ (by omega), K2.out]; rfl
                    have FF : Hid (Below n w ((((((((wr).setCell ⟨n, 0, none⟩ (.bool false)).setCell ⟨n, 1, none⟩ (.int .u32 0)).setCell ⟨n, 2, none⟩ (.int .u16 0)).setCell ⟨n, 3, none⟩ (.bool false)).setCell ⟨g2, 0, none⟩ (.int .u8 co3)).setCell ⟨g2, 1, none⟩ (.int .u32 fa3)).drew)) := Lib.hid
                      (((((((F3.out.setCell (p := ⟨n, 0, none⟩) (Nat.le_refl _) _).setCell (p := ⟨n, 1, none⟩) (Nat.le_refl _) _).setCell (p := ⟨n, 2, none⟩) (Nat.le_refl _) _).setCell (p := ⟨n, 3, none⟩) (Nat.le_refl _) _).setCell (p := ⟨g2, 0, none⟩) (Nat.le_of_lt hg1) _).setCell (p := ⟨g2, 1, none⟩) (Nat.le_of_lt hg1) _).drew)
                    have KN := Lib.hid kN; have KG := Lib.hid kG
                    clear kN kG n0 n1 n2 n3 m0 m1 zn0 zn1 zn2 zn3 zm0 zm1 c6 c11 c12 ln lg K1 K2 F3
                    generalize (((((((wr).setCell ⟨n, 0, none⟩ (.bool false)).setCell ⟨n, 1, none⟩ (.int .u32 0)).setCell ⟨n, 2, none⟩ (.int .u16 0)).setCell ⟨n, 3, none⟩ (.bool false)).setCell ⟨g2, 0, none⟩ (.int .u8 co3)).setCell ⟨g2, 1, none⟩ (.int .u32 fa3)).drew = w5 at *
                    go_wp2_with fail
                    refine ret_six rfl rfl rfl rfl rfl rfl rfl rfl KN.out KG.out Try.underlying27 Try.underlying47 rfl rfl (by kernel_rfl) (by kernel_rfl) ?_
                    exact ⟨none, by rw [HRR.out]; rfl, by rw [HRR.out]; exact Gots.nil, by rw [← HN.out]; exact FF.out⟩
              · have C := part_any n x _ AA cc wr LP.out.hx rfl (show 8 ≤ b'.length by omega) (show p' < 2 ^ 40 by omega) (show b'.length < 2 ^ 40 by omega)
                have hr := LP.out.hr
                rw [h44] at hr
                by_cases hw : wholeB b' = true
                · have STP := stepped_part R mc b' p' told' fs' al' _ (by omega) hw hr
                  rw [← h44] at STP
                  rw [show wholeB (wk0 k b' p' told' fs' mc al').b = true from hw] at C
                  obtain ⟨E, hE⟩ : ∃ E, E = 0 := ⟨_, rfl⟩
                  obtain ⟨S, hS⟩ : ∃ E, E = (wk0 k b' p' told' fs' mc al').partS := ⟨_, rfl⟩
                  rw [← hS] at C STP
                  have HC := Lib.hid C; have HS := Lib.hid STP
                  clear C STP hE hS h0 h60 h43 h44 hr hw h8
                  go_wp2_with fail
                  refine HC.out.mono ?_
                  rintro e w3 ⟨A', c', rfl, h1, g1⟩
                  clear HC HLk c0
                  obtain ⟨nx2, b2, p2, al2, hS2, hlen, hsum, hr⟩ := HS.out.1 rfl
                  subst hS2
                  have LP2 := Lib.hid (LP.out.next g1 (by omega) (by omega) hgx h1 hsum hr)
                  have hm : Hid (lenAt w3 x < lenAt wr x) := Lib.hid (by rw [lenAt_WB h1, lenAt_WB LP.out.hx]; exact hlen)
                  clear h1 g1 hlen hsum hr LP HS
                  go_wp2_with fail
                  exact ⟨⟨nx2, b2, p2, p', false, al2, A', c', rfl, LP2⟩, hm.out⟩
                · have hRR := part_last R mc b' p' told' al' _ (by omega) (by simpa using hw) hr
                  have hwf : wholeB b' = false := by simpa using hw
                  rw [show wholeB (wk0 k b' p' told' fs' mc al').b = false from hwf] at C
                  obtain ⟨S, hS⟩ : ∃ E, E = (wk0 k b' p' told' fs' mc al').partS := ⟨_, rfl⟩
                  rw [← hS] at C
                  have hS2 : S = Wk.pass { wk0 k b' p' told' fs' mc al' with fi := true, fid := pid b', fo := wd b' / 8, fm := wd b' % 2 == 1 } 8 := by
                    rw [hS]; unfold Wk.partS; rw [show wholeB (wk0 k b' p' told' fs' mc al').b = false from hwf]; rfl
                  have HRS : Hid (R = ⟨S.nx, S.b, S.al, S.fi, S.fid, S.fo, S.fm, 0, 0, 0⟩) := Lib.hid (by rw [hRR, hS2]; rfl)
                  have hfi : S.fi = true := by rw [hS2]; rfl
                  have hbl : S.b.length < 2 ^ 46 := by rw [hS2]; show (b'.drop 8).length < _; rw [List.length_drop]; omega
                  have HC := Lib.hid C
                  clear C hS hS2 h0 h60 h43 h44 hr hw h8 hRR hwf
                  go_wp2_with fail
                  refine HC.out.mono ?_
                  rintro e w3 ⟨A', c', rfl, h1, g1⟩
                  clear HC HLk c0
                  have K1 := Lib.hid (g1.keep (by omega) LP.out.k1); have K2 := Lib.hid (g1.keep (by omega) LP.out.k2)
                  have F3 := Lib.hid (LP.out.f.trans (g1.below (by omega) (Nat.le_of_lt (bk_lt LP.out.k1))))
                  have c0 := h1.cell 0; have c1 := h1.cell 1; have c6 := h1.cell 6; have c7 := h1.cell 7; have c8 := h1.cell 8; have c9 := h1.cell 9; have c10 := h1.cell 10
                  simp [wkC, hfi] at c0 c1 c6 c7 c8 c9 c10
                  have HXS := Lib.hid h1
                  clear h1 g1 LP
                  by_cases h59 : S.nx.toNat = 59
                  · have h59' : (S.nx.toNat : Int) = 59 := by omega
                    go_upto_region 17 with fail
                    clear h59 h59' hk44 hfi c0 c1 c6 c7 c8 c9 c10
                    have hsz : n < (w3).heap.size := bk_lt K1.out
                    obtain ⟨Fx, hFx⟩ : ∃ Fx : World → Prop, Fx = fun w => bk w x = some (.cells (wkC S (.slice A' S.b.length c')) 76 (0, 0)) := ⟨_, rfl⟩
                    have HRD : Hid (Rd (w3) n A' S.b) := Lib.hid HXS.out.2.1
                    have HNN := Lib.hid HXS.out.2.2.1
                    have hbl' := Lib.hid hbl
                    obtain ⟨M8, hM8⟩ : ∃ M : MadeW n, M = MadeW.own _ [] S.b := ⟨_, rfl⟩
                    obtain ⟨M9, hM9⟩ : ∃ M : MadeW n, M = MadeW.gots _ (fun A => .slice A S.b.length S.b.length) S.b := ⟨_, rfl⟩
                    have H8 := Lib.hid hM8; have H9 := Lib.hid hM9
                    obtain ⟨f0, hf0⟩ : ∃ f : Fs, f = fun j w => (j = 25 → bk w x = some (.cells (wkC S (.slice A' S.b.length c')) 76 (0, 0))) ∧ (j = 26 → bk w n = some (.cells (fragC false 0 0 false) 27 (0, 0))) ∧ (j = 27 → bk w g2 = some (.cells (faultC 0 0) 47 (0, 0))) := ⟨_, rfl⟩
                    have i25 : ∀ w, f0 25 w → bk w x = some (.cells (wkC S (.slice A' S.b.length c')) 76 (0, 0)) := fun w h => by rw [hf0] at h; exact h.1 rfl
                    have i26 : ∀ w, f0 26 w → bk w n = some (.cells (fragC false 0 0 false) 27 (0, 0)) := fun w h => by rw [hf0] at h; exact h.2.1 rfl
                    have i27 : ∀ w, f0 27 w → bk w g2 = some (.cells (faultC 0 0) 47 (0, 0)) := fun w h => by rw [hf0] at h; exact h.2.2 rfl
                    have HF0 := Lib.hid hf0
                    clear hFx hM8 hM9 hf0
                    refine wp_region_e (n) ([.own 8 H8, .gots 9 H9, .store n 22 27 [11, 111], .store n 23 47 [12, 112], .rest n 25 76, .rest n 26 27, .rest n 27 47]) (fun k => (([(8, []), (9, [8]), (22, [26]), (23, [27]), (24, [])] : List (Nat × List Nat)).lookup k).getD [25]) (f0) (by first | omega | (simp <;> omega)) (by kernel_rfl) (by kernel_rfl) (by kernel_rfl) (by kernel_rfl) (by rw [HF0.out]; exact ini_rows rfl rfl rfl (Nat.le_of_eq rfl) HXS.out.1 K1.out K2.out) ?_
                    have h25 : f0 25 (w3) := by rw [HF0.out]; exact ⟨fun _ => HXS.out.1, fun e => absurd e (by decide), fun e => absurd e (by decide)⟩
                    have hne : Nonempty (LaterF n (w3) [(25, fun w => bk w x = some (.cells (wkC S (.slice A' S.b.length c')) 76 (0, 0)))]) := ⟨⟨w3, Below.refl _ _, fun p hp => (by
                      obtain rfl : p = _ := (by simpa using hp)
                      exact HXS.out.1)⟩⟩
                    have hrow := rowIn_eq (m := n) (W := w3) (gs := [(25, fun w => bk w x = some (.cells (wkC S (.slice A' S.b.length c')) 76 (0, 0)))]) (b := x) (r := .cells (wkC S (.slice A' S.b.length c')) 76 (0, 0)) (fun w h => h _ (List.mem_singleton.2 rfl))
                    have hxn : ¬ x < n := by omega
                    have q0 : (wkC S (.slice A' S.b.length c'))[0]? = some (B S.nx) := rfl
                    have q1 : (wkC S (.slice A' S.b.length c'))[1]? = some (.slice A' S.b.length c') := rfl
                    have q6 : (wkC S (.slice A' S.b.length c'))[6]? = some (.bool S.al) := rfl
                    refine walkW_segn 8 [(25, fun w => bk w x = some (.cells (wkC S (.slice A' S.b.length c')) 76 (0, 0)))] (facts1 i25) ⟨w3, Below.refl _ _, fun p hp => by
                      obtain rfl : p = _ := by simpa using hp
                      exact h25⟩ (by kernel_rfl) (by kernel_rfl) ?_
                    simp only [List.take_succ_cons, List.take_zero, List.drop_succ_cons, List.drop_zero, Nat.reduceAdd]
                    repeat (go_big_quiet_step (fail))
                    (first | refine wpQuiet_nil ?_ | (go_big_quiet_want; (try go_big_quiet_op); trace_state; fail))
                    refine walkW_mk (fun _ => M8) [] M8 ([]) facts0 (by kernel_rfl) (by kernel_rfl) (by kernel_rfl) rfl rfl (fun w' hb' hg' => ?_) (fun v8 h8 => ?_)
                    · unfold madeAtW
                      go_simp
                      ((refine (clone_both A' S.b c' w' ((HRD.out.below hb' (Nat.le_refl _)).mono (by have := hb'.size; omega)) HNN.out hbl'.out).mono ?_; rintro e w4 ⟨v4, rfl, ho, b4⟩; exact ⟨v4, rfl, own_mk H8 (Kept.of_below b4 (by have := hb'.size; omega)) (own_lower ho (by have := hb'.size; omega))⟩))
                    obtain ⟨A8, c8, rfl, n8, le8⟩ := own_T H8 h8
                    simp only [Act.put, List.setIfInBounds_toArray, List.set_cons_succ, List.set_cons_zero, Nat.reduceAdd]
                    refine walkW_mk (fun _ => M9) [] M9 ([(8, M8.R (.slice A8 S.b.length c8))]) (facts1 fun w h => h.1 rfl) (by kernel_rfl) (by kernel_rfl) (by kernel_rfl) rfl rfl (fun w' hb' hg' => ?_) (fun v9 h9 => ?_)
                    · unfold madeAtW
                      go_simp
                      ((refine (clip_any A8 S.b.length c8 le8 w').mono ?_; rintro e w5 ⟨rfl, b5⟩; exact gots_end H9 b5 (by have := hb'.size; omega) ((Gots.of_own (own_R H8 (hg' _ (.head _)))).below b5)))
                    obtain ⟨A9, rfl⟩ := gots_T H9 h9
                    simp only [Act.put, List.setIfInBounds_toArray, List.set_cons_succ, List.set_cons_zero, Nat.reduceAdd]
                    refine walkW_segn 12 [(25, fun w => bk w x = some (.cells (wkC S (.slice A' S.b.length c')) 76 (0, 0)))] (facts1 (fun w h => i25 w h.2.2)) ⟨w3, Below.refl _ _, fun p hp => by
                      obtain rfl : p = _ := by simpa using hp
                      exact (⟨fun (e : (25 : Nat) = 9) => absurd e (by decide), fun (e : (25 : Nat) = 8) => absurd e (by decide), h25⟩)⟩ (by kernel_rfl) (by kernel_rfl) ?_
                    simp only [List.take_succ_cons, List.take_zero, List.drop_succ_cons, List.drop_zero, Nat.reduceAdd]
                    repeat (go_big_quiet_step (fail))
                    (first | refine wpQuiet_nil ?_ | (go_big_quiet_want; (try go_big_quiet_op); trace_state; fail))
                    refine walkW_mk (MadeW.storeAt _ 27) [.pointer (some ⟨n, 0, none⟩), .agg (fragC S.fi S.fid S.fo S.fm)] (MadeW.store _ n (fragC S.fi S.fid S.fo S.fm) 27) ([(26, fun w => bk w n = some (.cells (fragC false 0 0 false) 27 (0, 0)))]) (facts1 fun w h => i26 w h.2.2) (by kernel_rfl) (by kernel_rfl) (by kernel_rfl) rfl rfl (fun w' hb' hg' => ?_) (fun v hT => ?_)
                    · exact storeRow_mk (n := 4) (by kernel_rfl) (Lib.hid rfl) ((hg' _ (.head _))) (Nat.le_refl _) rfl rfl fragC_size fragC_size fragC_ones
                    clear hT
                    simp only [Act.put]
                    refine walkW_mk (MadeW.storeAt _ 47) [.pointer (some ⟨g2, 0, none⟩), .agg (faultC 0 0)] (MadeW.store _ g2 (faultC 0 0) 47) ([(27, fun w => bk w g2 = some (.cells (faultC 0 0) 47 (0, 0)))]) (facts1 fun w h => i27 w h.2.2.2) (by kernel_rfl) (by kernel_rfl) (by kernel_rfl) rfl rfl (fun w' hb' hg' => ?_) (fun v hT => ?_)
                    · exact storeRow_mk (n := 2) (by kernel_rfl) (Lib.hid rfl) ((hg' _ (.head _))) (Nat.le_of_lt hg1) rfl rfl faultC_size faultC_size faultC_ones
                    clear hT
                    simp only [Act.put]
                    refine walkW_segn 1 [] facts0 noneHx (by kernel_rfl) (by kernel_rfl) ?_
                    simp only [List.take_succ_cons, List.take_zero, List.drop_succ_cons, List.drop_zero, Nat.reduceAdd]
                    repeat (go_big_quiet_step (fail))
                    (first | refine wpQuiet_nil ?_ | (go_big_quiet_want; (try go_big_quiet_op); trace_state; fail))
                    refine walkW_nil ?_
                    intro w6 b6 hf
                    have KG := Lib.hid (store_R (M := MadeW.store n g2 (faultC 0 0) 47) (Lib.hid rfl) ((hf 23 (by kernel_rfl)).1 rfl))
                    have KN := Lib.hid (store_R (M := MadeW.store n n (fragC S.fi S.fid S.fo S.fm) 27) (Lib.hid rfl) ((hf 22 (by kernel_rfl)).2.1 rfl))
                    have GG := Lib.hid (gots_R H9 (fun A A' h => by simpa using h) ((hf 9 (by kernel_rfl)).2.2.1 rfl))
                    have FF := Lib.hid (F3.out.trans b6)
                    clear hf b6 hrow hne q0 q1 q6 h25 i25 i26 i27 HF0 H8 H9 h8 h9 K1 K2 F3 HXS
                    go_wp2_with fail
                    refine ret_six rfl rfl rfl rfl rfl rfl rfl rfl KN.out KG.out Try.underlying27 Try.underlying47 rfl rfl (by kernel_rfl) (by kernel_rfl) ?_
                    exact ⟨A9, by rw [HRS.out]; rfl, by rw [HRS.out, ← HN.out]; exact GG.out, by rw [← HN.out]; exact FF.out⟩
                  · have h59' : ¬ (S.nx.toNat : Int) = 59 := by omega
                    go_upto_region 17 with fail
                    clear h59 h59' hk44 hfi c0 c1 c6 c7 c8 c9 c10
                    have hsz : n < (w3).heap.size := bk_lt K1.out
                    obtain ⟨Fx, hFx⟩ : ∃ Fx : World → Prop, Fx = fun w => bk w x = some (.cells (wkC S (.slice A' S.b.length c')) 76 (0, 0)) := ⟨_, rfl⟩
                    have HRD : Hid (Rd (w3) n A' S.b) := Lib.hid HXS.out.2.1
                    have HNN := Lib.hid HXS.out.2.2.1
                    have hbl' := Lib.hid hbl
                    obtain ⟨M8, hM8⟩ : ∃ M : MadeW n, M = MadeW.own _ [] S.b := ⟨_, rfl⟩
                    obtain ⟨M9, hM9⟩ : ∃ M : MadeW n, M = MadeW.gots _ (fun A => .slice A S.b.length S.b.length) S.b := ⟨_, rfl⟩
                    have H8 := Lib.hid hM8; have H9 := Lib.hid hM9
                    obtain ⟨f0, hf0⟩ : ∃ f : Fs, f = fun j w => (j = 25 → bk w x = some (.cells (wkC S (.slice A' S.b.length c')) 76 (0, 0))) ∧ (j = 26 → bk w n = some (.cells (fragC false 0 0 false) 27 (0, 0))) ∧ (j = 27 → bk w g2 = some (.cells (faultC 0 0) 47 (0, 0))) := ⟨_, rfl⟩
                    have i25 : ∀ w, f0 25 w → bk w x = some (.cells (wkC S (.slice A' S.b.length c')) 76 (0, 0)) := fun w h => by rw [hf0] at h; exact h.1 rfl
                    have i26 : ∀ w, f0 26 w → bk w n = some (.cells (fragC false 0 0 false) 27 (0, 0)) := fun w h => by rw [hf0] at h; exact h.2.1 rfl
                    have i27 : ∀ w, f0 27 w → bk w g2 = some (.cells (faultC 0 0) 47 (0, 0)) := fun w h => by rw [hf0] at h; exact h.2.2 rfl
                    have HF0 := Lib.hid hf0
                    clear hFx hM8 hM9 hf0
                    refine wp_region_e (n) ([.own 8 H8, .gots 9 H9, .store n 22 27 [11, 111], .store n 23 47 [12, 112], .rest n 25 76, .rest n 26 27, .rest n 27 47]) (fun k => (([(8, []), (9, [8]), (22, [26]), (23, [27]), (24, [])] : List (Nat × List Nat)).lookup k).getD [25]) (f0) (by first | omega | (simp <;> omega)) (by kernel_rfl) (by kernel_rfl) (by kernel_rfl) (by kernel_rfl) (by rw [HF0.out]; exact ini_rows rfl rfl rfl (Nat.le_of_eq rfl) HXS.out.1 K1.out K2.out) ?_
                    have h25 : f0 25 (w3) := by rw [HF0.out]; exact ⟨fun _ => HXS.out.1, fun e => absurd e (by decide), fun e => absurd e (by decide)⟩
                    have hne : Nonempty (LaterF n (w3) [(25, fun w => bk w x = some (.cells (wkC S (.slice A' S.b.length c')) 76 (0, 0)))]) := ⟨⟨w3, Below.refl _ _, fun p hp => (by
                      obtain rfl : p = _ := (by simpa using hp)
                      exact HXS.out.1)⟩⟩
                    have hrow := rowIn_eq (m := n) (W := w3) (gs := [(25, fun w => bk w x = some (.cells (wkC S (.slice A' S.b.length c')) 76 (0, 0)))]) (b := x) (r := .cells (wkC S (.slice A' S.b.length c')) 76 (0, 0)) (fun w h => h _ (List.mem_singleton.2 rfl))
                    have hxn : ¬ x < n := by omega
                    have q0 : (wkC S (.slice A' S.b.length c'))[0]? = some (B S.nx) := rfl
                    have q1 : (wkC S (.slice A' S.b.length c'))[1]? = some (.slice A' S.b.length c') := rfl
                    have q6 : (wkC S (.slice A' S.b.length c'))[6]? = some (.bool S.al) := rfl
                    refine walkW_segn 8 [(25, fun w => bk w x = some (.cells (wkC S (.slice A' S.b.length c')) 76 (0, 0)))] (facts1 i25) ⟨w3, Below.refl _ _, fun p hp => by
                      obtain rfl : p = _ := by simpa using hp
                      exact h25⟩ (by kernel_rfl) (by kernel_rfl) ?_
                    simp only [List.take_succ_cons, List.take_zero, List.drop_succ_cons, List.drop_zero, Nat.reduceAdd]
                    repeat (go_big_quiet_step (fail))
                    (first | refine wpQuiet_nil ?_ | (go_big_quiet_want; (try go_big_quiet_op); trace_state; fail))
                    refine walkW_mk (fun _ => M8) [] M8 ([]) facts0 (by kernel_rfl) (by kernel_rfl) (by kernel_rfl) rfl rfl (fun w' hb' hg' => ?_) (fun v8 h8 => ?_)
                    · unfold madeAtW
                      go_simp
                      ((refine (clone_both A' S.b c' w' ((HRD.out.below hb' (Nat.le_refl _)).mono (by have := hb'.size; omega)) HNN.out hbl'.out).mono ?_; rintro e w4 ⟨v4, rfl, ho, b4⟩; exact ⟨v4, rfl, own_mk H8 (Kept.of_below b4 (by have := hb'.size; omega)) (own_lower ho (by have := hb'.size; omega))⟩))
                    obtain ⟨A8, c8, rfl, n8, le8⟩ := own_T H8 h8
                    simp only [Act.put, List.setIfInBounds_toArray, List.set_cons_succ, List.set_cons_zero, Nat.reduceAdd]
                    refine walkW_mk (fun _ => M9) [] M9 ([(8, M8.R (.slice A8 S.b.length c8))]) (facts1 fun w h => h.1 rfl) (by kernel_rfl) (by kernel_rfl) (by kernel_rfl) rfl rfl (fun w' hb' hg' => ?_) (fun v9 h9 => ?_)
                    · unfold madeAtW
                      go_simp
                      ((refine (clip_any A8 S.b.length c8 le8 w').mono ?_; rintro e w5 ⟨rfl, b5⟩; exact gots_end H9 b5 (by have := hb'.size; omega) ((Gots.of_own (own_R H8 (hg' _ (.head _)))).below b5)))
                    obtain ⟨A9, rfl⟩ := gots_T H9 h9
                    simp only [Act.put, List.setIfInBounds_toArray, List.set_cons_succ, List.set_cons_zero, Nat.reduceAdd]
                    refine walkW_segn 12 [(25, fun w => bk w x = some (.cells (wkC S (.slice A' S.b.length c')) 76 (0, 0)))] (facts1 (fun w h => i25 w h.2.2)) ⟨w3, Below.refl _ _, fun p hp => by
                      obtain rfl : p = _ := by simpa using hp
                      exact (⟨fun (e : (25 : Nat) = 9) => absurd e (by decide), fun (e : (25 : Nat) = 8) => absurd e (by decide), h25⟩)⟩ (by kernel_rfl) (by kernel_rfl) ?_
                    simp only [List.take_succ_cons, List.take_zero, List.drop_succ_cons, List.drop_zero, Nat.reduceAdd]
                    repeat (go_big_quiet_step (fail))
                    (first | refine wpQuiet_nil ?_ | (go_big_quiet_want; (try go_big_quiet_op); trace_state; fail))
                    refine walkW_mk (MadeW.storeAt _ 27) [.pointer (some ⟨n, 0, none⟩), .agg (fragC S.fi S.fid S.fo S.fm)] (MadeW.store _ n (fragC S.fi S.fid S.fo S.fm) 27) ([(26, fun w => bk w n = some (.cells (fragC false 0 0 false) 27 (0, 0)))]) (facts1 fun w h => i26 w h.2.2) (by kernel_rfl) (by kernel_rfl) (by kernel_rfl) rfl rfl (fun w' hb' hg' => ?_) (fun v hT => ?_)
                    · exact storeRow_mk (n := 4) (by kernel_rfl) (Lib.hid rfl) ((hg' _ (.head _))) (Nat.le_refl _) rfl rfl fragC_size fragC_size fragC_ones
                    clear hT
                    simp only [Act.put]
                    refine walkW_mk (MadeW.storeAt _ 47) [.pointer (some ⟨g2, 0, none⟩), .agg (faultC 0 0)] (MadeW.store _ g2 (faultC 0 0) 47) ([(27, fun w => bk w g2 = some (.cells (faultC 0 0) 47 (0, 0)))]) (facts1 fun w h => i27 w h.2.2.2) (by kernel_rfl) (by kernel_rfl) (by kernel_rfl) rfl rfl (fun w' hb' hg' => ?_) (fun v hT => ?_)
                    · exact storeRow_mk (n := 2) (by kernel_rfl) (Lib.hid rfl) ((hg' _ (.head _))) (Nat.le_of_lt hg1) rfl rfl faultC_size faultC_size faultC_ones
                    clear hT
                    simp only [Act.put]
                    refine walkW_segn 1 [] facts0 noneHx (by kernel_rfl) (by kernel_rfl) ?_
                    simp only [List.take_succ_cons, List.take_zero, List.drop_succ_cons, List.drop_zero, Nat.reduceAdd]
                    repeat (go_big_quiet_step (fail))
                    (first | refine wpQuiet_nil ?_ | (go_big_quiet_want; (try go_big_quiet_op); trace_state; fail))
                    refine walkW_nil ?_
                    intro w6 b6 hf
                    have KG := Lib.hid (store_R (M := MadeW.store n g2 (faultC 0 0) 47) (Lib.hid rfl) ((hf 23 (by kernel_rfl)).1 rfl))
                    have KN := Lib.hid (store_R (M := MadeW.store n n (fragC S.fi S.fid S.fo S.fm) 27) (Lib.hid rfl) ((hf 22 (by kernel_rfl)).2.1 rfl))
                    have GG := Lib.hid (gots_R H9 (fun A A' h => by simpa using h) ((hf 9 (by kernel_rfl)).2.2.1 rfl))
                    have FF := Lib.hid (F3.out.trans b6)
                    clear hf b6 hrow hne q0 q1 q6 h25 i25 i26 i27 HF0 H8 H9 h8 h9 K1 K2 F3 HXS
                    go_wp2_with fail
                    refine ret_six rfl rfl rfl rfl rfl rfl rfl rfl KN.out KG.out Try.underlying27 Try.underlying47 rfl rfl (by kernel_rfl) (by kernel_rfl) ?_
                    exact ⟨A9, by rw [HRS.out]; rfl, by rw [HRS.out, ← HN.out]; exact GG.out, by rw [← HN.out]; exact FF.out⟩
            · have hr : R = if k = 59 then ⟨59, [], al', false, 0, 0, false, 0, 0, 0⟩ else ⟨k, b', al', false, 0, 0, false, 0, 0, 0⟩ := by
                have hr := LP.out.hr
                rw [chain_eq, if_neg (by rintro (e | e) <;> contradiction), if_neg h43, if_neg h44] at hr
                exact hr
              have hk44 : ¬ (k.toNat : Int) = 44 := fun e => h44 (UInt8.toNat_inj.1 (by show k.toNat = 44; omega))
              have c7 := LP.out.hx.cell 7
              simp [wkC, wk0] at c7
              have hx1z := bk_lt LP.out.hx.1
              by_cases h59 : k = 59
              · have h59' : (k.toNat : Int) = 59 := by rw [h59]; rfl
                rw [if_pos h59] at hr
                obtain ⟨S, hS⟩ : ∃ S, S = wk0 k [] p' told' fs' mc al' := ⟨_, rfl⟩
                have c1 := LP.out.hx.cell 1
                simp [wkC, wk0] at c1
                have z1 := bk_frozen LP.out.hx.1 1
                have HXS : Hid (WB (wr.setCell ⟨x, 1, none⟩ (.slice none 0 0)) n x S none 0) := Lib.hid (by
                  obtain ⟨h1, h2, h3, h4, h5⟩ := LP.out.hx
                  rw [hS]
                  refine ⟨?_, Rd.nil, fun _ => ⟨rfl, rfl⟩, Nat.le_refl _, h5⟩
                  rw [bk_setCell_same, h1]
                  rfl)
                have K1 : Hid (bk (wr.setCell ⟨x, 1, none⟩ (.slice none 0 0)) n = some (.cells (fragC false 0 0 false) 27 (0, 0))) := Lib.hid ((bk_setCell_other _ _ _ _ _ (by omega)).trans LP.out.k1)
                have K2 : Hid (bk (wr.setCell ⟨x, 1, none⟩ (.slice none 0 0)) g2 = some (.cells (faultC 0 0) 47 (0, 0))) := Lib.hid ((bk_setCell_other _ _ _ _ _ (by omega)).trans LP.out.k2)
                have F3 : Hid (Below n w (wr.setCell ⟨x, 1, none⟩ (.slice none 0 0))) := Lib.hid (LP.out.f.setCell (p := ⟨x, 1, none⟩) (show n ≤ x by omega) _)
                have HRS : Hid (R = ⟨S.nx, S.b, S.al, S.fi, S.fid, S.fo, S.fm, 0, 0, 0⟩) := Lib.hid (by rw [hr, hS, h59]; rfl)
                have hbl : S.b.length < 2 ^ 46 := by rw [hS]; show ([] : List UInt8).length < _; simp
                clear hr hS h0 h60 h43 h44 h59 LP
                go_upto_region 17 with fail
                clear h59' hk44 c1 c7 z1 c0 HLk
                generalize wr.setCell ⟨x, 1, none⟩ (.slice none 0 0) = w7 at *
                have hsz : n < (w7).heap.size := bk_lt K1.out
                obtain ⟨Fx, hFx⟩ : ∃ Fx : World → Prop, Fx = fun w => bk w x = some (.cells (wkC S (.slice (none : Option Addr) S.b.length 0)) 76 (0, 0)) := ⟨_, rfl⟩
                have HRD : Hid (Rd (w7) n (none : Option Addr) S.b) := Lib.hid HXS.out.2.1
                have HNN := Lib.hid HXS.out.2.2.1
                have hbl' := Lib.hid hbl
                obtain ⟨M8, hM8⟩ : ∃ M : MadeW n, M = MadeW.own _ [] S.b := ⟨_, rfl⟩
                obtain ⟨M9, hM9⟩ : ∃ M : MadeW n, M = MadeW.gots _ (fun A => .slice A S.b.length S.b.length) S.b := ⟨_, rfl⟩
                have H8 := Lib.hid hM8; have H9 := Lib.hid hM9
                obtain ⟨f0, hf0⟩ : ∃ f : Fs, f = fun j w => (j = 25 → bk w x = some (.cells (wkC S (.slice (none : Option Addr) S.b.length 0)) 76 (0, 0))) ∧ (j = 26 → bk w n = some (.cells (fragC false 0 0 false) 27 (0, 0))) ∧ (j = 27 → bk w g2 = some (.cells (faultC 0 0) 47 (0, 0))) := ⟨_, rfl⟩
                have i25 : ∀ w, f0 25 w → bk w x = some (.cells (wkC S (.slice (none : Option Addr) S.b.length 0)) 76 (0, 0)) := fun w h => by rw [hf0] at h; exact h.1 rfl
                have i26 : ∀ w, f0 26 w → bk w n = some (.cells (fragC false 0 0 false) 27 (0, 0)) := fun w h => by rw [hf0] at h; exact h.2.1 rfl
                have i27 : ∀ w, f0 27 w → bk w g2 = some (.cells (faultC 0 0) 47 (0, 0)) := fun w h => by rw [hf0] at h; exact h.2.2 rfl
                have HF0 := Lib.hid hf0
                clear hFx hM8 hM9 hf0
                refine wp_region_e (n) ([.own 8 H8, .gots 9 H9, .store n 22 27 [11, 111], .store n 23 47 [12, 112], .rest n 25 76, .rest n 26 27, .rest n 27 47]) (fun k => (([(8, []), (9, [8]), (22, [26]), (23, [27]), (24, [])] : List (Nat × List Nat)).lookup k).getD [25]) (f0) (by first | omega | (simp <;> omega)) (by kernel_rfl) (by kernel_rfl) (by kernel_rfl) (by kernel_rfl) (by rw [HF0.out]; exact ini_rows rfl rfl rfl (Nat.le_of_eq rfl) HXS.out.1 K1.out K2.out) ?_
                have h25 : f0 25 (w7) := by rw [HF0.out]; exact ⟨fun _ => HXS.out.1, fun e => absurd e (by decide), fun e => absurd e (by decide)⟩
                have hne : Nonempty (LaterF n (w7) [(25, fun w => bk w x = some (.cells (wkC S (.slice (none : Option Addr) S.b.length 0)) 76 (0, 0)))]) := ⟨⟨w7, Below.refl _ _, fun p hp => (by
                  obtain rfl : p = _ := (by simpa using hp)
                  exact HXS.out.1)⟩⟩
                have hrow := rowIn_eq (m := n) (W := w7) (gs := [(25, fun w => bk w x = some (.cells (wkC S (.slice (none : Option Addr) S.b.length 0)) 76 (0, 0)))]) (b := x) (r := .cells (wkC S (.slice (none : Option Addr) S.b.length 0)) 76 (0, 0)) (fun w h => h _ (List.mem_singleton.2 rfl))
                have hxn : ¬ x < n := by omega
                have q0 : (wkC S (.slice (none : Option Addr) S.b.length 0))[0]? = some (B S.nx) := rfl
                have q1 : (wkC S (.slice (none : Option Addr) S.b.length 0))[1]? = some (.slice (none : Option Addr) S.b.length 0) := rfl
                have q6 : (wkC S (.slice (none : Option Addr) S.b.length 0))[6]? = some (.bool S.al) := rfl
                refine walkW_segn 8 [(25, fun w => bk w x = some (.cells (wkC S (.slice (none : Option Addr) S.b.length 0)) 76 (0, 0)))] (facts1 i25) ⟨w7, Below.refl _ _, fun p hp => by
                  obtain rfl : p = _ := by simpa using hp
                  exact h25⟩ (by kernel_rfl) (by kernel_rfl) ?_
                simp only [List.take_succ_cons, List.take_zero, List.drop_succ_cons, List.drop_zero, Nat.reduceAdd]
                repeat (go_big_quiet_step (fail))
                (first | refine wpQuiet_nil ?_ | (go_big_quiet_want; (try go_big_quiet_op); trace_state; fail))
                refine walkW_mk (fun _ => M8) [] M8 ([]) facts0 (by kernel_rfl) (by kernel_rfl) (by kernel_rfl) rfl rfl (fun w' hb' hg' => ?_) (fun v8 h8 => ?_)
                · unfold madeAtW
                  go_simp
                  ((refine (clone_both (none : Option Addr) S.b 0 w' ((HRD.out.below hb' (Nat.le_refl _)).mono (by have := hb'.size; omega)) HNN.out hbl'.out).mono ?_; rintro e w4 ⟨v4, rfl, ho, b4⟩; exact ⟨v4, rfl, own_mk H8 (Kept.of_below b4 (by have := hb'.size; omega)) (own_lower ho (by have := hb'.size; omega))⟩))
                obtain ⟨A8, c8, rfl, n8, le8⟩ := own_T H8 h8
                simp only [Act.put, List.setIfInBounds_toArray, List.set_cons_succ, List.set_cons_zero, Nat.reduceAdd]
                refine walkW_mk (fun _ => M9) [] M9 ([(8, M8.R (.slice A8 S.b.length c8))]) (facts1 fun w h => h.1 rfl) (by kernel_rfl) (by kernel_rfl) (by kernel_rfl) rfl rfl (fun w' hb' hg' => ?_) (fun v9 h9 => ?_)
                · unfold madeAtW
                  go_simp
                  ((refine (clip_any A8 S.b.length c8 le8 w').mono ?_; rintro e w5 ⟨rfl, b5⟩; exact gots_end H9 b5 (by have := hb'.size; omega) ((Gots.of_own (own_R H8 (hg' _ (.head _)))).below b5)))
                obtain ⟨A9, rfl⟩ := gots_T H9 h9
                simp only [Act.put, List.setIfInBounds_toArray, List.set_cons_succ, List.set_cons_zero, Nat.reduceAdd]
                refine walkW_segn 12 [(25, fun w => bk w x = some (.cells (wkC S (.slice (none : Option Addr) S.b.length 0)) 76 (0, 0)))] (facts1 (fun w h => i25 w h.2.2)) ⟨w7, Below.refl _ _, fun p hp => by
                  obtain rfl : p = _ := by simpa using hp
                  exact (⟨fun (e : (25 : Nat) = 9) => absurd e (by decide), fun (e : (25 : Nat) = 8) => absurd e (by decide), h25⟩)⟩ (by kernel_rfl) (by kernel_rfl) ?_
                simp only [List.take_succ_cons, List.take_zero, List.drop_succ_cons, List.drop_zero, Nat.reduceAdd]
                repeat (go_big_quiet_step (fail))
                (first | refine wpQuiet_nil ?_ | (go_big_quiet_want; (try go_big_quiet_op); trace_state; fail))
                refine walkW_mk (MadeW.storeAt _ 27) [.pointer (some ⟨n, 0, none⟩), .agg (fragC S.fi S.fid S.fo S.fm)] (MadeW.store _ n (fragC S.fi S.fid S.fo S.fm) 27) ([(26, fun w => bk w n = some (.cells (fragC false 0 0 false) 27 (0, 0)))]) (facts1 fun w h => i26 w h.2.2) (by kernel_rfl) (by kernel_rfl) (by kernel_rfl) rfl rfl (fun w' hb' hg' => ?_) (fun v hT => ?_)
                · exact storeRow_mk (n := 4) (by kernel_rfl) (Lib.hid rfl) ((hg' _ (.head _))) (Nat.le_refl _) rfl rfl fragC_size fragC_size fragC_ones
                clear hT
                simp only [Act.put]
                refine walkW_mk (MadeW.storeAt _ 47) [.pointer (some ⟨g2, 0, none⟩), .agg (faultC 0 0)] (MadeW.store _ g2 (faultC 0 0) 47) ([(27, fun w => bk w g2 = some (.cells (faultC 0 0) 47 (0, 0)))]) (facts1 fun w h => i27 w h.2.2.2) (by kernel_rfl) (by kernel_rfl) (by kernel_rfl) rfl rfl (fun w' hb' hg' => ?_) (fun v hT => ?_)
                · exact storeRow_mk (n := 2) (by kernel_rfl) (Lib.hid rfl) ((hg' _ (.head _))) (Nat.le_of_lt hg1) rfl rfl faultC_size faultC_size faultC_ones
                clear hT
                simp only [Act.put]
                refine walkW_segn 1 [] facts0 noneHx (by kernel_rfl) (by kernel_rfl) ?_
                simp only [List.take_succ_cons, List.take_zero, List.drop_succ_cons, List.drop_zero, Nat.reduceAdd]
                repeat (go_big_quiet_step (fail))
                (first | refine wpQuiet_nil ?_ | (go_big_quiet_want; (try go_big_quiet_op); trace_state; fail))
                refine walkW_nil ?_
                intro w6 b6 hf
                have KG := Lib.hid (store_R (M := MadeW.store n g2 (faultC 0 0) 47) (Lib.hid rfl) ((hf 23 (by kernel_rfl)).1 rfl))
                have KN := Lib.hid (store_R (M := MadeW.store n n (fragC S.fi S.fid S.fo S.fm) 27) (Lib.hid rfl) ((hf 22 (by kernel_rfl)).2.1 rfl))
                have GG := Lib.hid (gots_R H9 (fun A A' h => by simpa using h) ((hf 9 (by kernel_rfl)).2.2.1 rfl))
                have FF := Lib.hid (F3.out.trans b6)
                clear hf b6 hrow hne q0 q1 q6 h25 i25 i26 i27 HF0 H8 H9 h8 h9 K1 K2 F3 HXS
                go_wp2_with fail
                refine ret_six rfl rfl rfl rfl rfl rfl rfl rfl KN.out KG.out Try.underlying27 Try.underlying47 rfl rfl (by kernel_rfl) (by kernel_rfl) ?_
                exact ⟨A9, by rw [HRS.out]; rfl, by rw [HRS.out, ← HN.out]; exact GG.out, by rw [← HN.out]; exact FF.out⟩
              · have h59' : ¬ (k.toNat : Int) = 59 := fun e => h59 (UInt8.toNat_inj.1 (by show k.toNat = 59; omega))
                rw [if_neg h59] at hr
                obtain ⟨S, hS⟩ : ∃ S, S = wk0 k b' p' told' fs' mc al' := ⟨_, rfl⟩
                have HXS : Hid (WB wr n x S AA cc) := Lib.hid (by rw [hS]; exact LP.out.hx)
                have K1 := Lib.hid LP.out.k1; have K2 := Lib.hid LP.out.k2; have F3 := Lib.hid LP.out.f
                have HRS : Hid (R = ⟨S.nx, S.b, S.al, S.fi, S.fid, S.fo, S.fm, 0, 0, 0⟩) := Lib.hid (by rw [hr, hS]; rfl)
                have hbl : S.b.length < 2 ^ 46 := by rw [hS]; show b'.length < _; omega
                clear hr hS h0 h60 h43 h44 h59 LP
                go_upto_region 17 with fail
                clear h59' hk44 c7 c0 HLk
                have hsz : n < (wr).heap.size := bk_lt K1.out
                obtain ⟨Fx, hFx⟩ : ∃ Fx : World → Prop, Fx = fun w => bk w x = some (.cells (wkC S (.slice AA S.b.length cc)) 76 (0, 0)) := ⟨_, rfl⟩
                have HRD : Hid (Rd (wr) n AA S.b) := Lib.hid HXS.out.2.1
                have HNN := Lib.hid HXS.out.2.2.1
                have hbl' := Lib.hid hbl
                obtain ⟨M8, hM8⟩ : ∃ M : MadeW n, M = MadeW.own _ [] S.b := ⟨_, rfl⟩
                obtain ⟨M9, hM9⟩ : ∃ M : MadeW n, M = MadeW.gots _ (fun A => .slice A S.b.length S.b.length) S.b := ⟨_, rfl⟩
                have H8 := Lib.hid hM8; have H9 := Lib.hid hM9
                obtain ⟨f0, hf0⟩ : ∃ f : Fs, f = fun j w => (j = 25 → bk w x = some (.cells (wkC S (.slice AA S.b.length cc)) 76 (0, 0))) ∧ (j = 26 → bk w n = some (.cells (fragC false 0 0 false) 27 (0, 0))) ∧ (j = 27 → bk w g2 = some (.cells (faultC 0 0) 47 (0, 0))) := ⟨_, rfl⟩
                have i25 : ∀ w, f0 25 w → bk w x = some (.cells (wkC S (.slice AA S.b.length cc)) 76 (0, 0)) := fun w h => by rw [hf0] at h; exact h.1 rfl
                have i26 : ∀ w, f0 26 w → bk w n = some (.cells (fragC false 0 0 false) 27 (0, 0)) := fun w h => by rw [hf0] at h; exact h.2.1 rfl
                have i27 : ∀ w, f0 27 w → bk w g2 = some (.cells (faultC 0 0) 47 (0, 0)) := fun w h => by rw [hf0] at h; exact h.2.2 rfl
                have HF0 := Lib.hid hf0
                clear hFx hM8 hM9 hf0
                refine wp_region_e (n) ([.own 8 H8, .gots 9 H9, .store n 22 27 [11, 111], .store n 23 47 [12, 112], .rest n 25 76, .rest n 26 27, .rest n 27 47]) (fun k => (([(8, []), (9, [8]), (22, [26]), (23, [27]), (24, [])] : List (Nat × List Nat)).lookup k).getD [25]) (f0) (by first | omega | (simp <;> omega)) (by kernel_rfl) (by kernel_rfl) (by kernel_rfl) (by kernel_rfl) (by rw [HF0.out]; exact ini_rows rfl rfl rfl (Nat.le_of_eq rfl) HXS.out.1 K1.out K2.out) ?_
                have h25 : f0 25 (wr) := by rw [HF0.out]; exact ⟨fun _ => HXS.out.1, fun e => absurd e (by decide), fun e => absurd e (by decide)⟩
                have hne : Nonempty (LaterF n (wr) [(25, fun w => bk w x = some (.cells (wkC S (.slice AA S.b.length cc)) 76 (0, 0)))]) := ⟨⟨wr, Below.refl _ _, fun p hp => (by
                  obtain rfl : p = _ := (by simpa using hp)
                  exact HXS.out.1)⟩⟩
                have hrow := rowIn_eq (m := n) (W := wr) (gs := [(25, fun w => bk w x = some (.cells (wkC S (.slice AA S.b.length cc)) 76 (0, 0)))]) (b := x) (r := .cells (wkC S (.slice AA S.b.length cc)) 76 (0, 0)) (fun w h => h _ (List.mem_singleton.2 rfl))
                have hxn : ¬ x < n := by omega
                have q0 : (wkC S (.slice AA S.b.length cc))[0]? = some (B S.nx) := rfl
                have q1 : (wkC S (.slice AA S.b.length cc))[1]? = some (.slice AA S.b.length cc) := rfl
                have q6 : (wkC S (.slice AA S.b.length cc))[6]? = some (.bool S.al) := rfl
                refine walkW_segn 8 [(25, fun w => bk w x = some (.cells (wkC S (.slice AA S.b.length cc)) 76 (0, 0)))] (facts1 i25) ⟨wr, Below.refl _ _, fun p hp => by
                  obtain rfl : p = _ := by simpa using hp
                  exact h25⟩ (by kernel_rfl) (by kernel_rfl) ?_
                simp only [List.take_succ_cons, List.take_zero, List.drop_succ_cons, List.drop_zero, Nat.reduceAdd]
                repeat (go_big_quiet_step (fail))
                (first | refine wpQuiet_nil ?_ | (go_big_quiet_want; (try go_big_quiet_op); trace_state; fail))
                refine walkW_mk (fun _ => M8) [] M8 ([]) facts0 (by kernel_rfl) (by kernel_rfl) (by kernel_rfl) rfl rfl (fun w' hb' hg' => ?_) (fun v8 h8 => ?_)
                · unfold madeAtW
                  go_simp
                  ((refine (clone_both AA S.b cc w' ((HRD.out.below hb' (Nat.le_refl _)).mono (by have := hb'.size; omega)) HNN.out hbl'.out).mono ?_; rintro e w4 ⟨v4, rfl, ho, b4⟩; exact ⟨v4, rfl, own_mk H8 (Kept.of_below b4 (by have := hb'.size; omega)) (own_lower ho (by have := hb'.size; omega))⟩))
                obtain ⟨A8, c8, rfl, n8, le8⟩ := own_T H8 h8
                simp only [Act.put, List.setIfInBounds_toArray, List.set_cons_succ, List.set_cons_zero, Nat.reduceAdd]
                refine walkW_mk (fun _ => M9) [] M9 ([(8, M8.R (.slice A8 S.b.length c8))]) (facts1 fun w h => h.1 rfl) (by kernel_rfl) (by kernel_rfl) (by kernel_rfl) rfl rfl (fun w' hb' hg' => ?_) (fun v9 h9 => ?_)
                · unfold madeAtW
                  go_simp
                  ((refine (clip_any A8 S.b.length c8 le8 w').mono ?_; rintro e w5 ⟨rfl, b5⟩; exact gots_end H9 b5 (by have := hb'.size; omega) ((Gots.of_own (own_R H8 (hg' _ (.head _)))).below b5)))
                obtain ⟨A9, rfl⟩ := gots_T H9 h9
                simp only [Act.put, List.setIfInBounds_toArray, List.set_cons_succ, List.set_cons_zero, Nat.reduceAdd]
                refine walkW_segn 12 [(25, fun w => bk w x = some (.cells (wkC S (.slice AA S.b.length cc)) 76 (0, 0)))] (facts1 (fun w h => i25 w h.2.2)) ⟨wr, Below.refl _ _, fun p hp => by
                  obtain rfl : p = _ := by simpa using hp
                  exact (⟨fun (e : (25 : Nat) = 9) => absurd e (by decide), fun (e : (25 : Nat) = 8) => absurd e (by decide), h25⟩)⟩ (by kernel_rfl) (by kernel_rfl) ?_
                simp only [List.take_succ_cons, List.take_zero, List.drop_succ_cons, List.drop_zero, Nat.reduceAdd]
                repeat (go_big_quiet_step (fail))
                (first | refine wpQuiet_nil ?_ | (go_big_quiet_want; (try go_big_quiet_op); trace_state; fail))
                refine walkW_mk (MadeW.storeAt _ 27) [.pointer (some ⟨n, 0, none⟩), .agg (fragC S.fi S.fid S.fo S.fm)] (MadeW.store _ n (fragC S.fi S.fid S.fo S.fm) 27) ([(26, fun w => bk w n = some (.cells (fragC false 0 0 false) 27 (0, 0)))]) (facts1 fun w h => i26 w h.2.2) (by kernel_rfl) (by kernel_rfl) (by kernel_rfl) rfl rfl (fun w' hb' hg' => ?_) (fun v hT => ?_)
                · exact storeRow_mk (n := 4) (by kernel_rfl) (Lib.hid rfl) ((hg' _ (.head _))) (Nat.le_refl _) rfl rfl fragC_size fragC_size fragC_ones
                clear hT
                simp only [Act.put]
                refine walkW_mk (MadeW.storeAt _ 47) [.pointer (some ⟨g2, 0, none⟩), .agg (faultC 0 0)] (MadeW.store _ g2 (faultC 0 0) 47) ([(27, fun w => bk w g2 = some (.cells (faultC 0 0) 47 (0, 0)))]) (facts1 fun w h => i27 w h.2.2.2) (by kernel_rfl) (by kernel_rfl) (by kernel_rfl) rfl rfl (fun w' hb' hg' => ?_) (fun v hT => ?_)
                · exact storeRow_mk (n := 2) (by kernel_rfl) (Lib.hid rfl) ((hg' _ (.head _))) (Nat.le_of_lt hg1) rfl rfl faultC_size faultC_size faultC_ones
                clear hT
                simp only [Act.put]
                refine walkW_segn 1 [] facts0 noneHx (by kernel_rfl) (by kernel_rfl) ?_
                simp only [List.take_succ_cons, List.take_zero, List.drop_succ_cons, List.drop_zero, Nat.reduceAdd]
                repeat (go_big_quiet_step (fail))
                (first | refine wpQuiet_nil ?_ | (go_big_quiet_want; (try go_big_quiet_op); trace_state; fail))
                refine walkW_nil ?_
                intro w6 b6 hf
                have KG := Lib.hid (store_R (M := MadeW.store n g2 (faultC 0 0) 47) (Lib.hid rfl) ((hf 23 (by kernel_rfl)).1 rfl))
                have KN := Lib.hid (store_R (M := MadeW.store n n (fragC S.fi S.fid S.fo S.fm) 27) (Lib.hid rfl) ((hf 22 (by kernel_rfl)).2.1 rfl))
                have GG := Lib.hid (gots_R H9 (fun A A' h => by simpa using h) ((hf 9 (by kernel_rfl)).2.2.1 rfl))
                have FF := Lib.hid (F3.out.trans b6)
                clear hf b6 hrow hne q0 q1 q6 h25 i25 i26 i27 HF0 H8 H9 h8 h9 K1 K2 F3 HXS
                go_wp2_with fail
                refine ret_six rfl rfl rfl rfl rfl rfl rfl rfl KN.out KG.out Try.underlying27 Try.underlying47 rfl rfl (by kernel_rfl) (by kernel_rfl) ?_
                exact ⟨A9, by rw [HRS.out]; rfl, by rw [HRS.out, ← HN.out]; exact GG.out, by rw [← HN.out]; exact FF.out⟩
  · have h40' : ¬ (at' : Int) = 40 := by omega
    rw [if_neg h40] at HR
    go_upto_region 4 with fail
    go_wp2_with fail
    refine (steps_any _).mono ?_
    rintro e w2 ⟨rfl, km, b2⟩
    obtain ⟨gm, hgm⟩ : ∃ g, g = (w1).heap.size := ⟨_, rfl⟩
    rw [← hgm] at km ⊢
    have hgx : x < gm := by rw [hgm]; exact bk_lt HX.out.1
    have LP : Hid (Lp R mc n x g2 gm (2 ^ 33) w w2 nx b at' t0 true false A c) := Lib.hid
      ⟨HX.out.up b2, HR.out, km, KF.out.1.trans (b2.mono (by rw [← hgm]; omega)), bk_keep b2 (bk_lt KF.out.2.1) KF.out.2.1, bk_keep b2 (bk_lt KF.out.2.2) KF.out.2.2, by omega, by have := HT.out; omega⟩
    clear km b2 hgm HX KF HR
    go_wp2_with fail
    go_loopw [13] (fun e wr => ∃ (nx' : UInt8) (b' : List UInt8) (p' told' : Nat) (fs' al' : Bool) (AA : Option Addr) (cc : Nat), e = .int .i64 0 ∧ Hid (Lp R mc n x g2 gm (2 ^ 33) w wr nx' b' p' told' fs' al' AA cc)) (fun _ wr => lenAt wr x)
    case atStart => exact ⟨nx, b, at', t0, true, false, A, c, rfl, LP⟩
    case round =>
      clear LP
      obtain ⟨k, b', p', told', fs', al', AA, cc, rfl, LP⟩ := hrel
      have hle := LP.out.le; have hlt := LP.out.lt
      have HLk := look_any wr gm k LP.out.km
      have c0 := LP.out.hx.cell 0
      simp [wkC, wk0] at c0
      by_cases h0 : k = 0
      · have C := each_any n x _ AA cc wr LP.out.hx (show p' < 2 ^ 40 by omega) (show told' < 2 ^ 40 by omega) (show b'.length < 2 ^ 40 by omega)
        rw [show lookV k = fv 45 by rw [h0]; rfl, show isStep k = true by rw [h0]; rfl] at HLk
        have STP : Stepped R mc (wk0 k b' p' told' fs' mc al') (wk0 k b' p' told' fs' mc al').eachE (wk0 k b' p' told' fs' mc al').eachS := by
          have hr := LP.out.hr
          rw [h0] at hr ⊢
          exact stepped_each R mc b' p' told' fs' al' hr
        obtain ⟨E, hE⟩ : ∃ E, E = (wk0 k b' p' told' fs' mc al').eachE := ⟨_, rfl⟩
        obtain ⟨S, hS⟩ : ∃ E, E = (wk0 k b' p' told' fs' mc al').eachS := ⟨_, rfl⟩
        rw [← hE, ← hS] at C STP
        unfold fv at HLk
        have HC := Lib.hid C; have HS := Lib.hid STP
        clear C STP hE hS h0
        go_wp2_with fail
        refine HC.out.mono ?_
        rintro e w3 ⟨A', c', rfl, h1, g1⟩
        clear HC HLk c0
        by_cases hE0 : E = 0
        · obtain ⟨nx2, b2, p2, al2, hS2, hlen, hsum, hr⟩ := HS.out.1 hE0
          subst hS2
          have LP2 := Lib.hid (LP.out.next g1 (by omega) (by omega) hgx h1 hsum hr)
          have hm : Hid (lenAt w3 x < lenAt wr x) := Lib.hid (by rw [lenAt_WB h1, lenAt_WB LP.out.hx]; exact hlen)
          subst hE0
          clear h1 g1 hlen hsum hr LP HS
          go_wp2_with fail
          exact ⟨⟨nx2, b2, p2, p', false, al2, A', c', rfl, LP2⟩, hm.out⟩
        · obtain ⟨hE8, hRR, hc8, hf32⟩ := HS.out.2 hE0
          have HRR := Lib.hid hRR
          have K1 := Lib.hid (g1.keep (by omega) LP.out.k1); have K2 := Lib.hid (g1.keep (by omega) LP.out.k2)
          have F3 := Lib.hid (LP.out.f.trans (g1.below (by omega) (Nat.le_of_lt (bk_lt LP.out.k1))))
          have c6 := h1.cell 6; have c11 := h1.cell 11; have c12 := h1.cell 12
          simp [wkC] at c6 c11 c12
          have hEi : ¬ (E : Int) = 0 := by omega
          have lx3 := bk_lt h1.1
          clear h1 g1 hRR LP HS hE0
          have kn := K1.out; have kg := K2.out
          have ln := bk_lt kn; have lg := bk_lt kg
          have n0 := bk_cell kn 0; have n1 := bk_cell kn 1; have n2 := bk_cell kn 2; have n3 := bk_cell kn 3
          have m0 := bk_cell kg 0; have m1 := bk_cell kg 1
          simp [fragC, faultC] at n0 n1 n2 n3 m0 m1
          have zn0 := bk_frozen kn 0; have zn1 := bk_frozen kn 1; have zn2 := bk_frozen kn 2; have zn3 := bk_frozen kn 3
          have zm0 := bk_frozen kg 0; have zm1 := bk_frozen kg 1
          clear kn kg
          obtain ⟨al3, hal3⟩ : ∃ a, a = S.al := ⟨_, rfl⟩
          obtain ⟨co3, hco3⟩ : ∃ a, a = S.code := ⟨_, rfl⟩
          obtain ⟨fa3, hfa3⟩ : ∃ a, a = S.fat := ⟨_, rfl⟩
          rw [← hal3] at c6 HRR
          rw [← hco3] at c11 HRR hc8
          rw [← hfa3] at c12 HRR hf32
          clear hal3 hco3 hfa3
          cases al3
          case false =>
            go_upto_region 13 with fail
            go_region
            have kN : bk ((((((((w3).setCell ⟨n, 0, none⟩ (.bool false)).setCell ⟨n, 1, none⟩ (.int .u32 0)).setCell ⟨n, 2, none⟩ (.int .u16 0)).setCell ⟨n, 3, none⟩ (.bool false)).setCell ⟨g2, 0, none⟩ (.int .u8 co3)).setCell ⟨g2, 1, none⟩ (.int .u32 fa3)).drew) n = some (.cells (fragC false 0 0 false) 27 (0, 0)) := by
              rw [bk_drew, bk_setCell_other _ _ _ _ _ (by omega), bk_setCell_other _ _ _ _ _ (by omega), bk_setCell_same, bk_setCell_same, bk_setCell_same, bk_setCell_same, K1.out]; rfl
            have kG : bk ((((((((w3).setCell ⟨n, 0, none⟩ (.bool false)).setCell ⟨n, 1, none⟩ (.int .u32 0)).setCell ⟨n, 2, none⟩ (.int .u16 0)).setCell ⟨n, 3, none⟩ (.bool false)).setCell ⟨g2, 0, none⟩ (.int .u8 co3)).setCell ⟨g2, 1, none⟩ (.int .u32 fa3)).drew) g2 = some (.cells (faultC co3 fa3) 47 (0, 0)) := by
              rw [bk_drew, bk_setCell_same, bk_setCell_same, bk_setCell_other _ _ _ _ _ (by omega), bk_setCell_other _ _ _ _ _ (by omega), bk_setCell_other _ _ _ _ _ (by omega), bk_setCell_other _ _ _ _ _ (by omega), K2.out]; rfl
            have FF : Hid (Below n w ((((((((w3).setCell ⟨n, 0, none⟩ (.bool false)).setCell ⟨n, 1, none⟩ (.int .u32 0)).setCell ⟨n, 2, none⟩ (.int .u16 0)).setCell ⟨n, 3, none⟩ (.bool false)).setCell ⟨g2, 0, none⟩ (.int .u8 co3)).setCell ⟨g2, 1, none⟩ (.int .u32 fa3)).drew)) := Lib.hid
              (((((((F3.out.setCell (p := ⟨n, 0, none⟩) (Nat.le_refl _) _).setCell (p := ⟨n, 1, none⟩) (Nat.le_refl _) _).setCell (p := ⟨n, 2, none⟩) (Nat.le_refl _) _).setCell (p := ⟨n, 3, none⟩) (Nat.le_refl _) _).setCell (p := ⟨g2, 0, none⟩) (Nat.le_of_lt hg1) _).setCell (p := ⟨g2, 1, none⟩) (Nat.le_of_lt hg1) _).drew)
            have KN := Lib.hid kN; have KG := Lib.hid kG
            clear kN kG n0 n1 n2 n3 m0 m1 zn0 zn1 zn2 zn3 zm0 zm1 c6 c11 c12 ln lg K1 K2 F3
            generalize (((((((w3).setCell ⟨n, 0, none⟩ (.bool false)).setCell ⟨n, 1, none⟩ (.int .u32 0)).setCell ⟨n, 2, none⟩ (.int .u16 0)).setCell ⟨n, 3, none⟩ (.bool false)).setCell ⟨g2, 0, none⟩ (.int .u8 co3)).setCell ⟨g2, 1, none⟩ (.int .u32 fa3)).drew = w5 at *
            go_wp2_with fail
            refine ret_six rfl rfl rfl rfl rfl rfl rfl rfl KN.out KG.out Try.underlying27 Try.underlying47 rfl rfl (by kernel_rfl) (by kernel_rfl) ?_
            exact ⟨none, by rw [HRR.out]; rfl, by rw [HRR.out]; exact Gots.nil, by rw [← HN.out]; exact FF.out⟩
          case true =>
            by_cases hE7 : E = 7
            · have hE7' : (E : Int) = 7 := by omega
              subst hE7
              go_upto_region 13 with fail
              go_region
              have kN : bk ((((((((w3).setCell ⟨n, 0, none⟩ (.bool false)).setCell ⟨n, 1, none⟩ (.int .u32 0)).setCell ⟨n, 2, none⟩ (.int .u16 0)).setCell ⟨n, 3, none⟩ (.bool false)).setCell ⟨g2, 0, none⟩ (.int .u8 co3)).setCell ⟨g2, 1, none⟩ (.int .u32 fa3)).drew) n = some (.cells (fragC false 0 0 false) 27 (0, 0)) := by
                rw [bk_drew, bk_setCell_other _ _ _ _ _ (by omega), bk_setCell_other _ _ _ _ _ (by omega), bk_setCell_same, bk_setCell_same, bk_setCell_same, bk_setCell_same, K1.out]; rfl
              have kG : bk ((((((((w3).setCell ⟨n, 0, none⟩ (.bool false)).setCell ⟨n, 1, none⟩ (.int .u32 0)).setCell ⟨n, 2, none⟩ (.int .u16 0)).setCell ⟨n, 3, none⟩ (.bool false)).setCell ⟨g2, 0, none⟩ (.int .u8 co3)).setCell ⟨g2, 1, none⟩ (.int .u32 fa3)).drew) g2 = some (.cells (faultC co3 fa3) 47 (0, 0)) := by
                rw [bk_drew, bk_setCell_same, bk_setCell_same, bk_setCell_other _ _ _ _ _ (by omega), bk_setCell_other _ _ _ _ _ (by omega), bk_setCell_other _ _ _ _ _ (by omega), bk_setCell_other _ _ _ _ _ (by omega), K2.out]; rfl
              have FF : Hid (Below n w ((((((((w3).setCell ⟨n, 0, none⟩ (.bool false)).setCell ⟨n, 1, none⟩ (.int .u32 0)).setCell ⟨n, 2, none⟩ (.int .u16 0)).setCell ⟨n, 3, none⟩ (.bool false)).setCell ⟨g2, 0, none⟩ (.int .u8 co3)).setCell ⟨g2, 1, none⟩ (.int .u32 fa3)).drew)) := Lib.hid
                (((((((F3.out.setCell (p := ⟨n, 0, none⟩) (Nat.le_refl _) _).setCell (p := ⟨n, 1, none⟩) (Nat.le_refl _) _).setCell (p := ⟨n, 2, none⟩) (Nat.le_refl _) _).setCell (p := ⟨n, 3, none⟩) (Nat.le_refl _) _).setCell (p := ⟨g2, 0, none⟩) (Nat.le_of_lt hg1) _).setCell (p := ⟨g2, 1, none⟩) (Nat.le_of_lt hg1) _).drew)
              have KN := Lib.hid kN; have KG := Lib.hid kG
              clear kN kG n0 n1 n2 n3 m0 m1 zn0 zn1 zn2 zn3 zm0 zm1 c6 c11 c12 ln lg K1 K2 F3
              generalize (((((((w3).setCell ⟨n, 0, none⟩ (.bool false)).setCell ⟨n, 1, none⟩ (.int .u32 0)).setCell ⟨n, 2, none⟩ (.int .u16 0)).setCell ⟨n, 3, none⟩ (.bool false)).setCell ⟨g2, 0, none⟩ (.int .u8 co3)).setCell ⟨g2, 1, none⟩ (.int .u32 fa3)).drew = w5 at *
              go_wp2_with fail
              refine ret_six rfl rfl rfl rfl rfl rfl rfl rfl KN.out KG.out Try.underlying27 Try.underlying47 rfl rfl (by kernel_rfl) (by kernel_rfl) ?_
              exact ⟨none, by rw [HRR.out]; rfl, by rw [HRR.out]; exact Gots.nil, by rw [← HN.out]; exact FF.out⟩
            · have hE7' : ¬ (E : Int) = 7 := by omega
              have hE7b : (E == 7) = false := by rw [beq_eq_false_iff_ne]; exact hE7
              have hE7c : ((E : Int) == 7) = false := by rw [beq_eq_false_iff_ne]; omega
              rw [hE7b] at HRR
              clear hE7b
              go_upto_region 13 with fail
              go_region
              have kN : bk ((((((((w3).setCell ⟨n, 0, none⟩ (.bool false)).setCell ⟨n, 1, none⟩ (.int .u32 0)).setCell ⟨n, 2, none⟩ (.int .u16 0)).setCell ⟨n, 3, none⟩ (.bool false)).setCell ⟨g2, 0, none⟩ (.int .u8 co3)).setCell ⟨g2, 1, none⟩ (.int .u32 fa3)).drew) n = some (.cells (fragC false 0 0 false) 27 (0, 0)) := by
                rw [bk_drew, bk_setCell_other _ _ _ _ _ (by omega), bk_setCell_other _ _ _ _ _ (by omega), bk_setCell_same, bk_setCell_same, bk_setCell_same, bk_setCell_same, K1.out]; rfl
              have kG : bk ((((((((w3).setCell ⟨n, 0, none⟩ (.bool false)).setCell ⟨n, 1, none⟩ (.int .u32 0)).setCell ⟨n, 2, none⟩ (.int .u16 0)).setCell ⟨n, 3, none⟩ (.bool false)).setCell ⟨g2, 0, none⟩ (.int .u8 co3)).setCell ⟨g2, 1, none⟩ (.int .u32 fa3)).drew) g2 = some (.cells (faultC co3 fa3) 47 (0, 0)) := by
                rw [bk_drew, bk_setCell_same, bk_setCell_same, bk_setCell_other _ _ _ _ _ (by omega), bk_setCell_other _ _ _ _ _ (by omega), bk_setCell_other _ _ _ _ _ (by omega), bk_setCell_other _ _ _ _ _ (by omega), K2.out]; rfl
              have FF : Hid (Below n w ((((((((w3).setCell ⟨n, 0, none⟩ (.bool false)).setCell ⟨n, 1, none⟩ (.int .u32 0)).setCell ⟨n, 2, none⟩ (.int .u16 0)).setCell ⟨n, 3, none⟩ (.bool false)).setCell ⟨g2, 0, none⟩ (.int .u8 co3)).setCell ⟨g2, 1, none⟩ (.int .u32 fa3)).drew)) := Lib.hid
                (((((((F3.out.setCell (p := ⟨n, 0, none⟩) (Nat.le_refl _) _).setCell (p := ⟨n, 1, none⟩) (Nat.le_refl _) _).setCell (p := ⟨n, 2, none⟩) (Nat.le_refl _) _).setCell (p := ⟨n, 3, none⟩) (Nat.le_refl _) _).setCell (p := ⟨g2, 0, none⟩) (Nat.le_of_lt hg1) _).setCell (p := ⟨g2, 1, none⟩) (Nat.le_of_lt hg1) _).drew)
              have KN := Lib.hid kN; have KG := Lib.hid kG
              clear kN kG n0 n1 n2 n3 m0 m1 zn0 zn1 zn2 zn3 zm0 zm1 c6 c11 c12 ln lg K1 K2 F3
              generalize (((((((w3).setCell ⟨n, 0, none⟩ (.bool false)).setCell ⟨n, 1, none⟩ (.int .u32 0)).setCell ⟨n, 2, none⟩ (.int .u16 0)).setCell ⟨n, 3, none⟩ (.bool false)).setCell ⟨g2, 0, none⟩ (.int .u8 co3)).setCell ⟨g2, 1, none⟩ (.int .u32 fa3)).drew = w5 at *
              go_wp2_with fail
              refine ret_six rfl rfl rfl rfl rfl rfl rfl rfl KN.out KG.out Try.underlying27 Try.underlying47 rfl rfl (by kernel_rfl) (by kernel_rfl) ?_
              exact ⟨none, by rw [HRR.out]; rfl, by rw [HRR.out]; exact Gots.nil, by rw [← HN.out]; exact FF.out⟩
      · by_cases h60 : k = 60
        · have C := end_any n x _ AA cc wr LP.out.hx (show p' < 2 ^ 40 by omega) (show b'.length < 2 ^ 40 by omega)
          rw [show lookV k = fv 46 by rw [h60]; rfl, show isStep k = true by rw [h60]; rfl] at HLk
          have STP : Stepped R mc (wk0 k b' p' told' fs' mc al') (wk0 k b' p' told' fs' mc al').endE (wk0 k b' p' told' fs' mc al').endS :=
            stepped_end R mc k b' p' told' fs' al' _ (.inr h60) (fun e => absurd e h0) LP.out.hr
          obtain ⟨E, hE⟩ : ∃ E, E = (wk0 k b' p' told' fs' mc al').endE := ⟨_, rfl⟩
          obtain ⟨S, hS⟩ : ∃ E, E = (wk0 k b' p' told' fs' mc al').endS := ⟨_, rfl⟩
          rw [← hE, ← hS] at C STP
          unfold fv at HLk
          have HC := Lib.hid C; have HS := Lib.hid STP
          clear C STP hE hS h0 h60
          go_wp2_with fail
          refine HC.out.mono ?_
          rintro e w3 ⟨A', c', rfl, h1, g1⟩
          clear HC HLk c0
          by_cases hE0 : E = 0
          · obtain ⟨nx2, b2, p2, al2, hS2, hlen, hsum, hr⟩ := HS.out.1 hE0
            subst hS2
            have LP2 := Lib.hid (LP.out.next g1 (by omega) (by omega) hgx h1 hsum hr)
            have hm : Hid (lenAt w3 x < lenAt wr x) := Lib.hid (by rw [lenAt_WB h1, lenAt_WB LP.out.hx]; exact hlen)
            subst hE0
            clear h1 g1 hlen hsum hr LP HS
            go_wp2_with fail
            exact ⟨⟨nx2, b2, p2, p', false, al2, A', c', rfl, LP2⟩, hm.out⟩
          · obtain ⟨hE8, hRR, hc8, hf32⟩ := HS.out.2 hE0
            have HRR := Lib.hid hRR
            have K1 := Lib.hid (g1.keep (by omega) LP.out.k1); have K2 := Lib.hid (g1.keep (by omega) LP.out.k2)
            have F3 := Lib.hid (LP.out.f.trans (g1.below (by omega) (Nat.le_of_lt (bk_lt LP.out.k1))))
            have c6 := h1.cell 6; have c11 := h1.cell 11; have c12 := h1.cell 12
            simp [wkC] at c6 c11 c12
            have hEi : ¬ (E : Int) = 0 := by omega
            have lx3 := bk_lt h1.1
            clear h1 g1 hRR LP HS hE0
            have kn := K1.out; have kg := K2.out
            have ln := bk_lt kn; have lg := bk_lt kg
            have n0 := bk_cell kn 0; have n1 := bk_cell kn 1; have n2 := bk_cell kn 2; have n3 := bk_cell kn 3
            have m0 := bk_cell kg 0; have m1 := bk_cell kg 1
            simp [fragC, faultC] at n0 n1 n2 n3 m0 m1
            have zn0 := bk_frozen kn 0; have zn1 := bk_frozen kn 1; have zn2 := bk_frozen kn 2; have zn3 := bk_frozen kn 3
            have zm0 := bk_frozen kg 0; have zm1 := bk_frozen kg 1
            clear kn kg
            obtain ⟨al3, hal3⟩ : ∃ a, a = S.al := ⟨_, rfl⟩
            obtain ⟨co3, hco3⟩ : ∃ a, a = S.code := ⟨_, rfl⟩
            obtain ⟨fa3, hfa3⟩ : ∃ a, a = S.fat := ⟨_, rfl⟩
            rw [← hal3] at c6 HRR
            rw [← hco3] at c11 HRR hc8
            rw [← hfa3] at c12 HRR hf32
            clear hal3 hco3 hfa3
            cases al3
            case false =>
              go_upto_region 13 with fail
              go_region
              have kN : bk ((((((((w3).setCell ⟨n, 0, none⟩ (.bool false)).setCell ⟨n, 1, none⟩ (.int .u32 0)).setCell ⟨n, 2, none⟩ (.int .u16 0)).setCell ⟨n, 3, none⟩ (.bool false)).setCell ⟨g2, 0, none⟩ (.int .u8 co3)).setCell ⟨g2, 1, none⟩ (.int .u32 fa3)).drew) n = some (.cells (fragC false 0 0 false) 27 (0, 0)) := by
                rw [bk_drew, bk_setCell_other _ _ _ _ _ (by omega), bk_setCell_other _ _ _ _ _ (by omega), bk_setCell_same, bk_setCell_same, bk_setCell_same, bk_setCell_same, K1.out]; rfl
              have kG : bk ((((((((w3).setCell ⟨n, 0, none⟩ (.bool false)).setCell ⟨n, 1, none⟩ (.int .u32 0)).setCell ⟨n, 2, none⟩ (.int .u16 0)).setCell ⟨n, 3, none⟩ (.bool false)).setCell ⟨g2, 0, none⟩ (.int .u8 co3)).setCell ⟨g2, 1, none⟩ (.int .u32 fa3)).drew) g2 = some (.cells (faultC co3 fa3) 47 (0, 0)) := by
                rw [bk_drew, bk_setCell_same, bk_setCell_same, bk_setCell_other _ _ _ _ _ (by omega), bk_setCell_other _ _ _ _ _ (by omega), bk_setCell_other _ _ _ _ _ (by omega), bk_setCell_other _ _ _ _ _ (by omega), K2.out]; rfl
              have FF : Hid (Below n w ((((((((w3).setCell ⟨n, 0, none⟩ (.bool false)).setCell ⟨n, 1, none⟩ (.int .u32 0)).setCell ⟨n, 2, none⟩ (.int .u16 0)).setCell ⟨n, 3, none⟩ (.bool false)).setCell ⟨g2, 0, none⟩ (.int .u8 co3)).setCell ⟨g2, 1, none⟩ (.int .u32 fa3)).drew)) := Lib.hid
                (((((((F3.out.setCell (p := ⟨n, 0, none⟩) (Nat.le_refl _) _).setCell (p := ⟨n, 1, none⟩) (Nat.le_refl _) _).setCell (p := ⟨n, 2, none⟩) (Nat.le_refl _) _).setCell (p := ⟨n, 3, none⟩) (Nat.le_refl _) _).setCell (p := ⟨g2, 0, none⟩) (Nat.le_of_lt hg1) _).setCell (p := ⟨g2, 1, none⟩) (Nat.le_of_lt hg1) _).drew)
              have KN := Lib.hid kN; have KG := Lib.hid kG
              clear kN kG n0 n1 n2 n3 m0 m1 zn0 zn1 zn2 zn3 zm0 zm1 c6 c11 c12 ln lg K1 K2 F3
              generalize (((((((w3).setCell ⟨n, 0, none⟩ (.bool false)).setCell ⟨n, 1, none⟩ (.int .u32 0)).setCell ⟨n, 2, none⟩ (.int .u16 0)).setCell ⟨n, 3, none⟩ (.bool false)).setCell ⟨g2, 0, none⟩ (.int .u8 co3)).setCell ⟨g2, 1, none⟩ (.int .u32 fa3)).drew = w5 at *
              go_wp2_with fail
              refine ret_six rfl rfl rfl rfl rfl rfl rfl rfl KN.out KG.out Try.underlying27 Try.underlying47 rfl rfl (by kernel_rfl) (by kernel_rfl) ?_
              exact ⟨none, by rw [HRR.out]; rfl, by rw [HRR.out]; exact Gots.nil, by rw [← HN.out]; exact FF.out⟩
            case true =>
              by_cases hE7 : E = 7
              · have hE7' : (E : Int) = 7 := by omega
                subst hE7
                go_upto_region 13 with fail
                go_region
                have kN : bk ((((((((w3).setCell ⟨n, 0, none⟩ (.bool false)).setCell ⟨n, 1, none⟩ (.int .u32 0)).setCell ⟨n, 2, none⟩ (.int .u16 0)).setCell ⟨n, 3, none⟩ (.bool false)).setCell ⟨g2, 0, none⟩ (.int .u8 co3)).setCell ⟨g2, 1, none⟩ (.int .u32 fa3)).drew) n = some (.cells (fragC false 0 0 false) 27 (0, 0)) := by
                  rw [bk_drew, bk_setCell_other _ _ _ _ _ (by omega), bk_setCell_other _ _ _ _ _ (by omega), bk_setCell_same, bk_setCell_same, bk_setCell_same, bk_setCell_same, K1.out]; rfl
                have kG : bk ((((((((w3).setCell ⟨n, 0, none⟩ (.bool false)).setCell ⟨n, 1, none⟩ (.int .u32 0)).setCell ⟨n, 2, none⟩ (.int .u16 0)).setCell ⟨n, 3, none⟩ (.bool false)).setCell ⟨g2, 0, none⟩ (.int .u8 co3)).setCell ⟨g2, 1, none⟩ (.int .u32 fa3)).drew) g2 = some (.cells (faultC co3 fa3) 47 (0, 0)) := by
                  rw [bk_drew, bk_setCell_same, bk_setCell_same, bk_setCell_other _ _ _ _ _ (by omega), bk_setCell_other _ _ _ _ _ (by omega), bk_setCell_other _ _ _ _ _ (by omega), bk_setCell_other _ _ _ _ _ (by omega), K2.out]; rfl
                have FF : Hid (Below n w ((((((((w3).setCell ⟨n, 0, none⟩ (.bool false)).setCell ⟨n, 1, none⟩ (.int .u32 0)).setCell ⟨n, 2, none⟩ (.int .u16 0)).setCell ⟨n, 3, none⟩ (.bool false)).setCell ⟨g2, 0, none⟩ (.int .u8 co3)).setCell ⟨g2, 1, none⟩ (.int .u32 fa3)).drew)) := Lib.hid
                  (((((((F3.out.setCell (p := ⟨n, 0, none⟩) (Nat.le_refl _) _).setCell (p := ⟨n, 1, none⟩) (Nat.le_refl _) _).setCell (p := ⟨n, 2, none⟩) (Nat.le_refl _) _).setCell (p := ⟨n, 3, none⟩) (Nat.le_refl _) _).setCell (p := ⟨g2, 0, none⟩) (Nat.le_of_lt hg1) _).setCell (p := ⟨g2, 1, none⟩) (Nat.le_of_lt hg1) _).drew)
                have KN := Lib.hid kN; have KG := Lib.hid kG
                clear kN kG n0 n1 n2 n3 m0 m1 zn0 zn1 zn2 zn3 zm0 zm1 c6 c11 c12 ln lg K1 K2 F3
                generalize (((((((w3).setCell ⟨n, 0, none⟩ (.bool false)).setCell ⟨n, 1, none⟩ (.int .u32 0)).setCell ⟨n, 2, none⟩ (.int .u16 0)).setCell ⟨n, 3, none⟩ (.bool false)).setCell ⟨g2, 0, none⟩ (.int .u8 co3)).setCell ⟨g2, 1, none⟩ (.int .u32 fa3)).drew = w5 at *
                go_wp2_with fail
                refine ret_six rfl rfl rfl rfl rfl rfl rfl rfl KN.out KG.out Try.underlying27 Try.underlying47 rfl rfl (by kernel_rfl) (by kernel_rfl) ?_
                exact ⟨none, by rw [HRR.out]; rfl, by rw [HRR.out]; exact Gots.nil, by rw [← HN.out]; exact FF.out⟩
              · have hE7' : ¬ (E : Int) = 7 := by omega
                have hE7b : (E == 7) = false := by rw [beq_eq_false_iff_ne]; exact hE7
                have hE7c : ((E : Int) == 7) = false := by rw [beq_eq_false_iff_ne]; omega
                rw [hE7b] at HRR
                clear hE7b
                go_upto_region 13 with fail
                go_region
                have kN : bk ((((((((w3).setCell ⟨n, 0, none⟩ (.bool false)).setCell ⟨n, 1, none⟩ (.int .u32 0)).setCell ⟨n, 2, none⟩ (.int .u16 0)).setCell ⟨n, 3, none⟩ (.bool false)).setCell ⟨g2, 0, none⟩ (.int .u8 co3)).setCell ⟨g2, 1, none⟩ (.int .u32 fa3)).drew) n = some (.cells (fragC false 0 0 false) 27 (0, 0)) := by
                  rw [bk_drew, bk_setCell_other _ _ _ _ _ (by omega), bk_setCell_other _ _ _ _ _ (by omega), bk_setCell_same, bk_setCell_same, bk_setCell_same, bk_setCell_same, K1.out]; rfl
                have kG : bk ((((((((w3).setCell ⟨n, 0, none⟩ (.bool false)).setCell ⟨n, 1, none⟩ (.int .u32 0)).setCell ⟨n, 2, none⟩ (.int .u16 0)).setCell ⟨n, 3, none⟩ (.bool false)).setCell ⟨g2, 0, none⟩ (.int .u8 co3)).setCell ⟨g2, 1, none⟩ (.int .u32 fa3)).drew) g2 = some (.cells (faultC co3 fa3) 47 (0, 0)) := by
                  rw [bk_drew, bk_setCell_same, bk_setCell_same, bk_setCell_other _ _ _ _ _ (by omega), bk_setCell_other _ _ _ _ _ (by omega), bk_setCell_other _ _ _ _ _ (by omega), bk_setCell_other _ _ _ _ _ (by omega), K2.out]; rfl
                have FF : Hid (Below n w ((((((((w3).setCell ⟨n, 0, none⟩ (.bool false)).setCell ⟨n, 1, none⟩ (.int .u32 0)).setCell ⟨n, 2, none⟩ (.int .u16 0)).setCell ⟨n, 3, none⟩ (.bool false)).setCell ⟨g2, 0, none⟩ (.int .u8 co3)).setCell ⟨g2, 1, none⟩ (.int .u32 fa3)).drew)) := Lib.hid
                  (((((((F3.out.setCell (p := ⟨n, 0, none⟩) (Nat.le_refl _) _).setCell (p := ⟨n, 1, none⟩) (Nat.le_refl _) _).setCell (p := ⟨n, 2, none⟩) (Nat.le_refl _) _).setCell (p := ⟨n, 3, none⟩) (Nat.le_refl _) _).setCell (p := ⟨g2, 0, none⟩) (Nat.le_of_lt hg1) _).setCell (p := ⟨g2, 1, none⟩) (Nat.le_of_lt hg1) _).drew)
                have KN := Lib.hid kN; have KG := Lib.hid kG
                clear kN kG n0 n1 n2 n3 m0 m1 zn0 zn1 zn2 zn3 zm0 zm1 c6 c11 c12 ln lg K1 K2 F3
                generalize (((((((w3).setCell ⟨n, 0, none⟩ (.bool false)).setCell ⟨n, 1, none⟩ (.int .u32 0)).setCell ⟨n, 2, none⟩ (.int .u16 0)).setCell ⟨n, 3, none⟩ (.bool false)).setCell ⟨g2, 0, none⟩ (.int .u8 co3)).setCell ⟨g2, 1, none⟩ (.int .u32 fa3)).drew = w5 at *
                go_wp2_with fail
                refine ret_six rfl rfl rfl rfl rfl rfl rfl rfl KN.out KG.out Try.underlying27 Try.underlying47 rfl rfl (by kernel_rfl) (by kernel_rfl) ?_
                exact ⟨none, by rw [HRR.out]; rfl, by rw [HRR.out]; exact Gots.nil, by rw [← HN.out]; exact FF.out⟩
        · by_cases h43 : k = 43
          · have C := route_any n x _ AA cc wr LP.out.hx (show p' < 2 ^ 40 by omega) (show b'.length < 2 ^ 40 by omega)
            rw [show lookV k = fv 47 by rw [h43]; rfl, show isStep k = true by rw [h43]; rfl] at HLk
            have STP : Stepped R mc (wk0 k b' p' told' fs' mc al') (wk0 k b' p' told' fs' mc al').routeE (wk0 k b' p' told' fs' mc al').routeS := by
              have hr := LP.out.hr
              rw [h43] at hr ⊢
              exact stepped_route R mc b' p' told' fs' al' _ hr
            obtain ⟨E, hE⟩ : ∃ E, E = (wk0 k b' p' told' fs' mc al').routeE := ⟨_, rfl⟩
            obtain ⟨S, hS⟩ : ∃ E, E = (wk0 k b' p' told' fs' mc al').routeS := ⟨_, rfl⟩
            rw [← hE, ← hS] at C STP
            unfold fv at HLk
            have HC := Lib.hid C; have HS := Lib.hid STP
            clear C STP hE hS h0 h60 h43
            go_wp2_with fail
            refine HC.out.mono ?_
            rintro e w3 ⟨A', c', rfl, h1, g1⟩
            clear HC HLk c0
            by_cases hE0 : E = 0
            · obtain ⟨nx2, b2, p2, al2, hS2, hlen, hsum, hr⟩ := HS.out.1 hE0
              subst hS2
              have LP2 := Lib.hid (LP.out.next g1 (by omega) (by omega) hgx h1 hsum hr)
              have hm : Hid (lenAt w3 x < lenAt wr x) := Lib.hid (by rw [lenAt_WB h1, lenAt_WB LP.out.hx]; exact hlen)
              subst hE0
              clear h1 g1 hlen hsum hr LP HS
              go_wp2_with fail
              exact ⟨⟨nx2, b2, p2, p', false, al2, A', c', rfl, LP2⟩, hm.out⟩
            · obtain ⟨hE8, hRR, hc8, hf32⟩ := HS.out.2 hE0
              have HRR := Lib.hid hRR
              have K1 := Lib.hid (g1.keep (by omega) LP.out.k1); have K2 := Lib.hid (g1.keep (by omega) LP.out.k2)
              have F3 := Lib.hid (LP.out.f.trans (g1.below (by omega) (Nat.le_of_lt (bk_lt LP.out.k1))))
              have c6 := h1.cell 6; have c11 := h1.cell 11; have c12 := h1.cell 12
              simp [wkC] at c6 c11 c12
              have hEi : ¬ (E : Int) = 0 := by omega
              have lx3 := bk_lt h1.1
              clear h1 g1 hRR LP HS hE0
              have kn := K1.out; have kg := K2.out
              have ln := bk_lt kn; have lg := bk_lt kg
              have n0 := bk_cell kn 0; have n1 := bk_cell kn 1; have n2 := bk_cell kn 2; have n3 := bk_cell kn 3
              have m0 := bk_cell kg 0; have m1 := bk_cell kg 1
              simp [fragC, faultC] at n0 n1 n2 n3 m0 m1
              have zn0 := bk_frozen kn 0; have zn1 := bk_frozen kn 1; have zn2 := bk_frozen kn 2; have zn3 := bk_frozen kn 3
              have zm0 := bk_frozen kg 0; have zm1 := bk_frozen kg 1
              clear kn kg
              obtain ⟨al3, hal3⟩ : ∃ a, a = S.al := ⟨_, rfl⟩
              obtain ⟨co3, hco3⟩ : ∃ a, a = S.code := ⟨_, rfl⟩
              obtain ⟨fa3, hfa3⟩ : ∃ a, a = S.fat := ⟨_, rfl⟩
              rw [← hal3] at c6 HRR
              rw [← hco3] at c11 HRR hc8
              rw [← hfa3] at c12 HRR hf32
              clear hal3 hco3 hfa3
              cases al3
              case false =>
                go_upto_region 13 with fail
                go_region
                have kN : bk ((((((((w3).setCell ⟨n, 0, none⟩ (.bool false)).setCell ⟨n, 1, none⟩ (.int .u32 0)).setCell ⟨n, 2, none⟩ (.int .u16 0)).setCell ⟨n, 3, none⟩ (.bool false)).setCell ⟨g2, 0, none⟩ (.int .u8 co3)).setCell ⟨g2, 1, none⟩ (.int .u32 fa3)).drew) n = some (.cells (fragC false 0 0 false) 27 (0, 0)) := by
                  rw [bk_drew, bk_setCell_other _ _ _ _ _ (by omega), bk_setCell_other _ _ _ _ _ (by omega), bk_setCell_same, bk_setCell_same, bk_setCell_same, bk_setCell_same, K1.out]; rfl
                have kG : bk ((((((((w3).setCell ⟨n, 0, none⟩ (.bool false)).setCell ⟨n, 1, none⟩ (.int .u32 0)).setCell ⟨n, 2, none⟩ (.int .u16 0)).setCell ⟨n, 3, none⟩ (.bool false)).setCell ⟨g2, 0, none⟩ (.int .u8 co3)).setCell ⟨g2, 1, none⟩ (.int .u32 fa3)).drew) g2 = some (.cells (faultC co3 fa3) 47 (0, 0)) := by
                  rw [bk_drew, bk_setCell_same, bk_setCell_same, bk_setCell_other _ _ _ _ _ (by omega), bk_setCell_other _ _ _ _ _ (by omega), bk_setCell_other _ _ _ _ _ (by omega), bk_setCell_other _ _ _ _ _ (by omega), K2.out]; rfl
                have FF : Hid (Below n w ((((((((w3).setCell ⟨n, 0, none⟩ (.bool false)).setCell ⟨n, 1, none⟩ (.int .u32 0)).setCell ⟨n, 2, none⟩ (.int .u16 0)).setCell ⟨n, 3, none⟩ (.bool false)).setCell ⟨g2, 0, none⟩ (.int .u8 co3)).setCell ⟨g2, 1, none⟩ (.int .u32 fa3)).drew)) := Lib.hid
                  (((((((F3.out.setCell (p := ⟨n, 0, none⟩) (Nat.le_refl _) _).setCell (p := ⟨n, 1, none⟩) (Nat.le_refl _) _).setCell (p := ⟨n, 2, none⟩) (Nat.le_refl _) _).setCell (p := ⟨n, 3, none⟩) (Nat.le_refl _) _).setCell (p := ⟨g2, 0, none⟩) (Nat.le_of_lt hg1) _).setCell (p := ⟨g2, 1, none⟩) (Nat.le_of_lt hg1) _).drew)
                have KN := Lib.hid kN; have KG := Lib.hid kG
                clear kN kG n0 n1 n2 n3 m0 m1 zn0 zn1 zn2 zn3 zm0 zm1 c6 c11 c12 ln lg K1 K2 F3
                generalize (((((((w3).setCell ⟨n, 0, none⟩ (.bool false)).setCell ⟨n, 1, none⟩ (.int .u32 0)).setCell ⟨n, 2, none⟩ (.int .u16 0)).setCell ⟨n, 3, none⟩ (.bool false)).setCell ⟨g2, 0, none⟩ (.int .u8 co3)).setCell ⟨g2, 1, none⟩ (.int .u32 fa3)).drew = w5 at *
                go_wp2_with fail
                refine ret_six rfl rfl rfl rfl rfl rfl rfl rfl KN.out KG.out Try.underlying27 Try.underlying47 rfl rfl (by kernel_rfl) (by kernel_rfl) ?_
                exact ⟨none, by rw [HRR.out]; rfl, by rw [HRR.out]; exact Gots.nil, by rw [← HN.out]; exact FF.out⟩
              case true =>
                by_cases hE7 : E = 7
                · have hE7' : (E : Int) = 7 := by omega
                  subst hE7
                  go_upto_region 13 with fail
                  go_region
                  have kN : bk ((((((((w3).setCell ⟨n, 0, none⟩ (.bool false)).setCell ⟨n, 1, none⟩ (.int .u32 0)).setCell ⟨n, 2, none⟩ (.int .u16 0)).setCell ⟨n, 3, none⟩ (.bool false)).setCell ⟨g2, 0, none⟩ (.int .u8 co3)).setCell ⟨g2, 1, none⟩ (.int .u32 fa3)).drew) n = some (.cells (fragC false 0 0 false) 27 (0, 0)) := by
                    rw [bk_drew, bk_setCell_other _ _ _ _ _ (by omega), bk_setCell_other _ _ _ _ _ (by omega), bk_setCell_same, bk_setCell_same, bk_setCell_same, bk_setCell_same, K1.out]; rfl
                  have kG : bk ((((((((w3).setCell ⟨n, 0, none⟩ (.bool false)).setCell ⟨n, 1, none⟩ (.int .u32 0)).setCell ⟨n, 2, none⟩ (.int .u16 0)).setCell ⟨n, 3, none⟩ (.bool false)).setCell ⟨g2, 0, none⟩ (.int .u8 co3)).setCell ⟨g2, 1, none⟩ (.int .u32 fa3)).drew) g2 = some (.cells (faultC co3 fa3) 47 (0, 0)) := by
                    rw [bk_drew, bk_setCell_same, bk_setCell_same, bk_setCell_other _ _ _ _ _ (by omega), bk_setCell_other _ _ _ _ _ (by omega), bk_setCell_other _ _ _ _ _ (by omega), bk_setCell_other _ _ _ _ _ (by omega), K2.out]; rfl
                  have FF : Hid (Below n w ((((((((w3).setCell ⟨n, 0, none⟩ (.bool false)).setCell ⟨n, 1, none⟩ (.int .u32 0)).setCell ⟨n, 2, none⟩ (.int .u16 0)).setCell ⟨n, 3, none⟩ (.bool false)).setCell ⟨g2, 0, none⟩ (.int .u8 co3)).setCell ⟨g2, 1, none⟩ (.int .u32 fa3)).drew)) := Lib.hid
                    (((((((F3.out.setCell (p := ⟨n, 0, none⟩) (Nat.le_refl _) _).setCell (p := ⟨n, 1, none⟩) (Nat.le_refl _) _).setCell (p := ⟨n, 2, none⟩) (Nat.le_refl _) _).setCell (p := ⟨n, 3, none⟩) (Nat.le_refl _) _).setCell (p := ⟨g2, 0, none⟩) (Nat.le_of_lt hg1) _).setCell (p := ⟨g2, 1, none⟩) (Nat.le_of_lt hg1) _).drew)
                  have KN := Lib.hid kN; have KG := Lib.hid kG
                  clear kN kG n0 n1 n2 n3 m0 m1 zn0 zn1 zn2 zn3 zm0 zm1 c6 c11 c12 ln lg K1 K2 F3
                  generalize (((((((w3).setCell ⟨n, 0, none⟩ (.bool false)).setCell ⟨n, 1, none⟩ (.int .u32 0)).setCell ⟨n, 2, none⟩ (.int .u16 0)).setCell ⟨n, 3, none⟩ (.bool false)).setCell ⟨g2, 0, none⟩ (.int .u8 co3)).setCell ⟨g2, 1, none⟩ (.int .u32 fa3)).drew = w5 at *
                  go_wp2_with fail
                  refine ret_six rfl rfl rfl rfl rfl rfl rfl rfl KN.out KG.out Try.underlying27 Try.underlying47 rfl rfl (by kernel_rfl) (by kernel_rfl) ?_
                  exact ⟨none, by rw [HRR.out]; rfl, by rw [HRR.out]; exact Gots.nil, by rw [← HN.out]; exact FF.out⟩
                · have hE7' : ¬ (E : Int) = 7 := by omega
                  have hE7b : (E == 7) = false := by rw [beq_eq_false_iff_ne]; exact hE7
                  have hE7c : ((E : Int) == 7) = false := by rw [beq_eq_false_iff_ne]; omega
                  rw [hE7b] at HRR
                  clear hE7b
                  go_upto_region 13 with fail
                  go_region
                  have kN : bk ((((((((w3).setCell ⟨n, 0, none⟩ (.bool false)).setCell ⟨n, 1, none⟩ (.int .u32 0)).setCell ⟨n, 2, none⟩ (.int .u16 0)).setCell ⟨n, 3, none⟩ (.bool false)).setCell ⟨g2, 0, none⟩ (.int .u8 co3)).setCell ⟨g2, 1, none⟩ (.int .u32 fa3)).drew) n = some (.cells (fragC false 0 0 false) 27 (0, 0)) := by
                    rw [bk_drew, bk_setCell_other _ _ _ _ _ (by omega), bk_setCell_other _ _ _ _ _ (by omega), bk_setCell_same, bk_setCell_same, bk_setCell_same, bk_setCell_same, K1.out]; rfl
                  have kG : bk ((((((((w3).setCell ⟨n, 0, none⟩ (.bool false)).setCell ⟨n, 1, none⟩ (.int .u32 0)).setCell ⟨n, 2, none⟩ (.int .u16 0)).setCell ⟨n, 3, none⟩ (.bool false)).setCell ⟨g2, 0, none⟩ (.int .u8 co3)).setCell ⟨g2, 1, none⟩ (.int .u32 fa3)).drew) g2 = some (.cells (faultC co3 fa3) 47 (0, 0)) := by
                    rw [bk_drew, bk_setCell_same, bk_setCell_same, bk_setCell_other _ _ _ _ _ (by omega), bk_setCell_other _ _ _ _ _ (by omega), bk_setCell_other _ _ _ _ _ (by omega), bk_setCell_other _ _ _ _ _ (by omega), K2.out]; rfl
                  have FF : Hid (Below n w ((((((((w3).setCell ⟨n, 0, none⟩ (.bool false)).setCell ⟨n, 1, none⟩ (.int .u32 0)).setCell ⟨n, 2, none⟩ (.int .u16 0)).setCell ⟨n, 3, none⟩ (.bool false)).setCell ⟨g2, 0, none⟩ (.int .u8 co3)).setCell ⟨g2, 1, none⟩ (.int .u32 fa3)).drew)) := Lib.hid
                    (((((((F3.out.setCell (p := ⟨n, 0, none⟩) (Nat.le_refl _) _).setCell (p := ⟨n, 1, none⟩) (Nat.le_refl _) _).setCell (p := ⟨n, 2, none⟩) (Nat.le_refl _) _).setCell (p := ⟨n, 3, none⟩) (Nat.le_refl _) _).setCell (p := ⟨g2, 0, none⟩) (Nat.le_of_lt hg1) _).setCell (p := ⟨g2, 1, none⟩) (Nat.le_of_lt hg1) _).drew)
                  have KN := Lib.hid kN; have KG := Lib.hid kG
                  clear kN kG n0 n1 n2 n3 m0 m1 zn0 zn1 zn2 zn3 zm0 zm1 c6 c11 c12 ln lg K1 K2 F3
                  generalize (((((((w3).setCell ⟨n, 0, none⟩ (.bool false)).setCell ⟨n, 1, none⟩ (.int .u32 0)).setCell ⟨n, 2, none⟩ (.int .u16 0)).setCell ⟨n, 3, none⟩ (.bool false)).setCell ⟨g2, 0, none⟩ (.int .u8 co3)).setCell ⟨g2, 1, none⟩ (.int .u32 fa3)).drew = w5 at *
                  go_wp2_with fail
                  refine ret_six rfl rfl rfl rfl rfl rfl rfl rfl KN.out KG.out Try.underlying27 Try.underlying47 rfl rfl (by kernel_rfl) (by kernel_rfl) ?_
                  exact ⟨none, by rw [HRR.out]; rfl, by rw [HRR.out]; exact Gots.nil, by rw [← HN.out]; exact FF.out⟩
          · rw [show lookV k = .nilFunc by unfold lookV; rw [if_neg h0, if_neg h60, if_neg h43], show isStep k = false by
              unfold isStep
              rw [show (k == 0) = false by rw [beq_eq_false_iff_ne]; exact h0, show (k == 60) = false by rw [beq_eq_false_iff_ne]; exact h60, show (k == 43) = false by rw [beq_eq_false_iff_ne]; exact h43]
              rfl] at HLk
            by_cases h44 : k = 44
            · have hk44 : (k.toNat : Int) = 44 := by rw [h44]; rfl
              by_cases h8 : b'.length < 8
              · have C := part_short n x _ AA cc wr LP.out.hx h8
                obtain ⟨E, hE⟩ : ∃ E, E = 5 := ⟨_, rfl⟩
                rw [show ((5 : Int)) = ((E : Nat) : Int) by rw [hE]; rfl] at C
                have hRR : R = ⟨0, [], (wk0 k b' p' told' fs' mc al').al && E == 7, false, 0, 0, false, (wk0 k b' p' told' fs' mc al').code, (wk0 k b' p' told' fs' mc al').fat, E⟩ := by
                  have hr := LP.out.hr
                  rw [h44, chain_eq, if_neg (by decide), if_neg (by decide), if_pos rfl, if_pos h8] at hr
                  rw [hr, hE]
                  simp [tlE, wk0]
                obtain ⟨S, hS⟩ : ∃ E, E = wk0 k b' p' told' fs' mc al' := ⟨_, rfl⟩
                have c6 := LP.out.hx.cell 6; have c11 := LP.out.hx.cell 11; have c12 := LP.out.hx.cell 12
                rw [← hS] at c6 c11 c12 hRR
                have hc8 : S.code < 256 := by rw [hS]; simp [wk0]
                have hf32 : S.fat < 4294967296 := by rw [hS]; simp [wk0]
                simp [wkC] at c6 c11 c12
                have K1 := Lib.hid LP.out.k1; have K2 := Lib.hid LP.out.k2; have F3 := Lib.hid LP.out.f
                have HRR := Lib.hid hRR; have HC := Lib.hid C
                have hEi : ¬ (E : Int) = 0 := by omega
                have lx3 := bk_lt LP.out.hx.1
                have hE8 : E < 256 := by omega
                clear hRR C hS hE LP h0 h60 h43 h44
                go_wp2_with fail
                refine HC.out.mono ?_
                rintro e w3 ⟨rfl, rfl⟩
                clear HC HLk c0
                have kn := K1.out; have kg := K2.out
                have ln := bk_lt kn; have lg := bk_lt kg
                have n0 := bk_cell kn 0; have n1 := bk_cell kn 1; have n2 := bk_cell kn 2; have n3 := bk_cell kn 3
                have m0 := bk_cell kg 0; have m1 := bk_cell kg 1
                simp [fragC, faultC] at n0 n1 n2 n3 m0 m1
                have zn0 := bk_frozen kn 0; have zn1 := bk_frozen kn 1; have zn2 := bk_frozen kn 2; have zn3 := bk_frozen kn 3
                have zm0 := bk_frozen kg 0; have zm1 := bk_frozen kg 1
                clear kn kg
                obtain ⟨al3, hal3⟩ : ∃ a, a = S.al := ⟨_, rfl⟩
                obtain ⟨co3, hco3⟩ : ∃ a, a = S.code := ⟨_, rfl⟩
                obtain ⟨fa3, hfa3⟩ : ∃ a, a = S.fat := ⟨_, rfl⟩
                rw [← hal3] at c6 HRR
                rw [← hco3] at c11 HRR hc8
                rw [← hfa3] at c12 HRR hf32
                clear hal3 hco3 hfa3
                cases al3
                case false =>
                  go_upto_region 13 with fail
                  go_region
                  have kN : bk ((((((((wr).setCell ⟨n, 0, none⟩ (.bool false)).setCell ⟨n, 1, none⟩ (.int .u32 0)).setCell ⟨n, 2, none⟩ (.int .u16 0)).setCell ⟨n, 3, none⟩ (.bool false)).setCell ⟨g2, 0, none⟩ (.int .u8 co3)).setCell ⟨g2, 1, none⟩ (.int .u32 fa3)).drew) n = some (.cells (fragC false 0 0 false) 27 (0, 0)) := by
                    rw [bk_drew, bk_setCell_other _ _ _ _ _ (by omega), bk_setCell_other _ _ _ _ _ (by omega), bk_setCell_same, bk_setCell_same, bk_setCell_same, bk_setCell_same, K1.out]; rfl
                  have kG : bk ((((((((wr).setCell ⟨n, 0, none⟩ (.bool false)).setCell ⟨n, 1, none⟩ (.int .u32 0)).setCell ⟨n, 2, none⟩ (.int .u16 0)).setCell ⟨n, 3, none⟩ (.bool false)).setCell ⟨g2, 0, none⟩ (.int .u8 co3)).setCell ⟨g2, 1, none⟩ (.int .u32 fa3)).drew) g2 = some (.cells (faultC co3 fa3) 47 (0, 0)) := by
                    rw [bk_drew, bk_setCell_same, bk_setCell_same, bk_setCell_other _ _ _ _ _ (by omega), bk_setCell_other _ _ _ _ _ (by omega), bk_setCell_other _ _ _ _ _ (by omega), bk_setCell_other _ _ _ _ _ (by omega), K2.out]; rfl
                  have FF : Hid (Below n w ((((((((wr).setCell ⟨n, 0, none⟩ (.bool false)).setCell ⟨n, 1, none⟩ (.int .u32 0)).setCell ⟨n, 2, none⟩ (.int .u16 0)).setCell ⟨n, 3, none⟩ (.bool false)).setCell ⟨g2, 0, none⟩ (.int .u8 co3)).setCell ⟨g2, 1, none⟩ (.int .u32 fa3)).drew)) := Lib.hid
                    (((((((F3.out.setCell (p := ⟨n, 0, none⟩) (Nat.le_refl _) _).setCell (p := ⟨n, 1, none⟩) (Nat.le_refl _) _).setCell (p := ⟨n, 2, none⟩) (Nat.le_refl _) _).setCell (p := ⟨n, 3, none⟩) (Nat.le_refl _) _).setCell (p := ⟨g2, 0, none⟩) (Nat.le_of_lt hg1) _).setCell (p := ⟨g2, 1, none⟩) (Nat.le_of_lt hg1) _).drew)
                  have KN := Lib.hid kN; have KG := Lib.hid kG
                  clear kN kG n0 n1 n2 n3 m0 m1 zn0 zn1 zn2 zn3 zm0 zm1 c6 c11 c12 ln lg K1 K2 F3
                  generalize (((((((wr).setCell ⟨n, 0, none⟩ (.bool false)).setCell ⟨n, 1, none⟩ (.int .u32 0)).setCell ⟨n, 2, none⟩ (.int .u16 0)).setCell ⟨n, 3, none⟩ (.bool false)).setCell ⟨g2, 0, none⟩ (.int .u8 co3)).setCell ⟨g2, 1, none⟩ (.int .u32 fa3)).drew = w5 at *
                  go_wp2_with fail
                  refine ret_six rfl rfl rfl rfl rfl rfl rfl rfl KN.out KG.out Try.underlying27 Try.underlying47 rfl rfl (by kernel_rfl) (by kernel_rfl) ?_
                  exact ⟨none, by rw [HRR.out]; rfl, by rw [HRR.out]; exact Gots.nil, by rw [← HN.out]; exact FF.out⟩
                case true =>
                  by_cases hE7 : E = 7
                  · have hE7' : (E : Int) = 7 := by omega
                    subst hE7
                    go_upto_region 13 with fail
                    go_region
                    have kN : bk ((((((((wr).setCell ⟨n, 0, none⟩ (.bool false)).setCell ⟨n, 1, none⟩ (.int .u32 0)).setCell ⟨n, 2, none⟩ (.int .u16 0)).setCell ⟨n, 3, none⟩ (.bool false)).setCell ⟨g2, 0, none⟩ (.int .u8 co3)).setCell ⟨g2, 1, none⟩ (.int .u32 fa3)).drew) n = some (.cells (fragC false 0 0 false) 27 (0, 0)) := by
                      rw [bk_drew, bk_setCell_other _ _ _ _ _ (by omega), bk_setCell_other _ _ _ _ _ (by omega), bk_setCell_same, bk_setCell_same, bk_setCell_same, bk_setCell_same, K1.out]; rfl
                    have kG : bk ((((((((wr).setCell ⟨n, 0, none⟩ (.bool false)).setCell ⟨n, 1, none⟩ (.int .u32 0)).setCell ⟨n, 2, none⟩ (.int .u16 0)).setCell ⟨n, 3, none⟩ (.bool false)).setCell ⟨g2, 0, none⟩ (.int .u8 co3)).setCell ⟨g2, 1, none⟩ (.int .u32 fa3)).drew) g2 = some (.cells (faultC co3 fa3) 47 (0, 0)) := by
                      rw [bk_drew, bk_setCell_same, bk_setCell_same, bk_setCell_other _ _ _ _ _ (by omega), bk_setCell_other _ _ _ _ _ (by omega), bk_setCell_other _ _ _ _ _ (by omega), bk_setCell_other _ _ _ _ _ (by omega), K2.out]; rfl
                    have FF : Hid (Below n w ((((((((wr).setCell ⟨n, 0, none⟩ (.bool false)).setCell ⟨n, 1, none⟩ (.int .u32 0)).setCell ⟨n, 2, none⟩ (.int .u16 0)).setCell ⟨n, 3, none⟩ (.bool false)).setCell ⟨g2, 0, none⟩ (.int .u8 co3)).setCell ⟨g2, 1, none⟩ (.int .u32 fa3)).drew)) := Lib.hid
                      (((((((F3.out.setCell (p := ⟨n, 0, none⟩) (Nat.le_refl _) _).setCell (p := ⟨n, 1, none⟩) (Nat.le_refl _) _).setCell (p := ⟨n, 2, none⟩) (Nat.le_refl _) _).setCell (p := ⟨n, 3, none⟩) (Nat.le_refl _) _).setCell (p := ⟨g2, 0, none⟩) (Nat.le_of_lt hg1) _).setCell (p := ⟨g2, 1, none⟩) (Nat.le_of_lt hg1) _).drew)
                    have KN := Lib.hid kN; have KG := Lib.hid kG
                    clear kN kG n0 n1 n2 n3 m0 m1 zn0 zn1 zn2 zn3 zm0 zm1 c6 c11 c12 ln lg K1 K2 F3
                    generalize (((((((wr).setCell ⟨n, 0, none⟩ (.bool false)).setCell ⟨n, 1, none⟩ (.int .u32 0)).setCell ⟨n, 2, none⟩ (.int .u16 0)).setCell ⟨n, 3, none⟩ (.bool false)).setCell ⟨g2, 0, none⟩ (.int .u8 co3)).setCell ⟨g2, 1, none⟩ (.int .u32 fa3)).drew = w5 at *
                    go_wp2_with fail
                    refine ret_six rfl rfl rfl rfl rfl rfl rfl rfl KN.out KG.out Try.underlying27 Try.underlying47 rfl rfl (by kernel_rfl) (by kernel_rfl) ?_
                    exact ⟨none, by rw [HRR.out]; rfl, by rw [HRR.out]; exact Gots.nil, by rw [← HN.out]; exact FF.out⟩
                  · have hE7' : ¬ (E : Int) = 7 := by omega
                    have hE7b : (E == 7) = false := by rw [beq_eq_false_iff_ne]; exact hE7
                    have hE7c : ((E : Int) == 7) = false := by rw [beq_eq_false_iff_ne]; omega
                    rw [hE7b] at HRR
                    clear hE7b
                    go_upto_region 13 with fail
                    go_region
                    have kN : bk ((((((((wr).setCell ⟨n, 0, none⟩ (.bool false)).setCell ⟨n, 1, none⟩ (.int .u32 0)).setCell ⟨n, 2, none⟩ (.int .u16 0)).setCell ⟨n, 3, none⟩ (.bool false)).setCell ⟨g2, 0, none⟩ (.int .u8 co3)).setCell ⟨g2, 1, none⟩ (.int .u32 fa3)).drew) n = some (.cells (fragC false 0 0 false) 27 (0, 0)) := by
                      rw [bk_drew, bk_setCell_other _ _ _ _ _ (by omega), bk_setCell_other _ _ _ _ _ (by omega), bk_setCell_same, bk_setCell_same, bk_setCell_same, bk_setCell_same, K1.out]; rfl
                    have kG : bk ((((((((wr).setCell ⟨n, 0, none⟩ (.bool false)).setCell ⟨n, 1, none⟩ (.int .u32 0)).setCell ⟨n, 2, none⟩ (.int .u16 0)).setCell ⟨n, 3, none⟩ (.bool false)).setCell ⟨g2, 0, none⟩ (.int .u8 co3)).setCell ⟨g2, 1, none⟩ (.int .u32 fa3)).drew) g2 = some (.cells (faultC co3 fa3) 47 (0, 0)) := by
                      rw [bk_drew, bk_setCell_same, bk_setCell_same, bk_setCell_other _ _ _ _ _ (by omega), bk_setCell_other _ _ _ _ _ (by omega), bk_setCell_other _ _ _ _ _ (by omega), bk_setCell_other _ _ _ _ _ (by omega), K2.out]; rfl
                    have FF : Hid (Below n w ((((((((wr).setCell ⟨n, 0, none⟩ (.bool false)).setCell ⟨n, 1, none⟩ (.int .u32 0)).setCell ⟨n, 2, none⟩ (.int .u16 0)).setCell ⟨n, 3, none⟩ (.bool false)).setCell ⟨g2, 0, none⟩ (.int .u8 co3)).setCell ⟨g2, 1, none⟩ (.int .u32 fa3)).drew)) := Lib.hid
                      (((((((F3.out.setCell (p := ⟨n, 0, none⟩) (Nat.le_refl _) _).setCell (p := ⟨n, 1, none⟩) (Nat.le_refl _) _).setCell (p := ⟨n, 2, none⟩) (Nat.le_refl _) _).setCell (p := ⟨n, 3, none⟩) (Nat.le_refl _) _).setCell (p := ⟨g2, 0, none⟩) (Nat.le_of_lt hg1) _).setCell (p := ⟨g2, 1, none⟩) (Nat.le_of_lt hg1) _).drew)
                    have KN := Lib.hid kN; have KG := Lib.hid kG
                    clear kN kG n0 n1 n2 n3 m0 m1 zn0 zn1 zn2 zn3 zm0 zm1 c6 c11 c12 ln lg K1 K2 F3
                    generalize (((((((wr).setCell ⟨n, 0, none⟩ (.bool false)).setCell ⟨n, 1, none⟩ (.int .u32 0)).setCell ⟨n, 2, none⟩ (.int .u16 0)).setCell ⟨n, 3, none⟩ (.bool false)).setCell ⟨g2, 0, none⟩ (.int .u8 co3)).setCell ⟨g2, 1, none⟩ (.int .u32 fa3)).drew = w5 at *
                    go_wp2_with fail
                    refine ret_six rfl rfl rfl rfl rfl rfl rfl rfl KN.out KG.out Try.underlying27 Try.underlying47 rfl rfl (by kernel_rfl) (by kernel_rfl) ?_
                    exact ⟨none, by rw [HRR.out]; rfl, by rw [HRR.out]; exact Gots.nil, by rw [← HN.out]; exact FF.out⟩
              · have C := part_any n x _ AA cc wr LP.out.hx rfl (show 8 ≤ b'.length by omega) (show p' < 2 ^ 40 by omega) (show b'.length < 2 ^ 40 by omega)
                have hr := LP.out.hr
                rw [h44] at hr
                by_cases hw : wholeB b' = true
                · have STP := stepped_part R mc b' p' told' fs' al' _ (by omega) hw hr
                  rw [← h44] at STP
                  rw [show wholeB (wk0 k b' p' told' fs' mc al').b = true from hw] at C
                  obtain ⟨E, hE⟩ : ∃ E, E = 0 := ⟨_, rfl⟩
                  obtain ⟨S, hS⟩ : ∃ E, E = (wk0 k b' p' told' fs' mc al').partS := ⟨_, rfl⟩
                  rw [← hS] at C STP
                  have HC := Lib.hid C; have HS := Lib.hid STP
                  clear C STP hE hS h0 h60 h43 h44 hr hw h8
                  go_wp2_with fail
                  refine HC.out.mono ?_
                  rintro e w3 ⟨A', c', rfl, h1, g1⟩
                  clear HC HLk c0
                  obtain ⟨nx2, b2, p2, al2, hS2, hlen, hsum, hr⟩ := HS.out.1 rfl
                  subst hS2
                  have LP2 := Lib.hid (LP.out.next g1 (by omega) (by omega) hgx h1 hsum hr)
                  have hm : Hid (lenAt w3 x < lenAt wr x) := Lib.hid (by rw [lenAt_WB h1, lenAt_WB LP.out.hx]; exact hlen)
                  clear h1 g1 hlen hsum hr LP HS
                  go_wp2_with fail
                  exact ⟨⟨nx2, b2, p2, p', false, al2, A', c', rfl, LP2⟩, hm.out⟩
                · have hRR := part_last R mc b' p' told' al' _ (by omega) (by simpa using hw) hr
                  have hwf : wholeB b' = false := by simpa using hw
                  rw [show wholeB (wk0 k b' p' told' fs' mc al').b = false from hwf] at C
                  obtain ⟨S, hS⟩ : ∃ E, E = (wk0 k b' p' told' fs' mc al').partS := ⟨_, rfl⟩
                  rw [← hS] at C
                  have hS2 : S = Wk.pass { wk0 k b' p' told' fs' mc al' with fi := true, fid := pid b', fo := wd b' / 8, fm := wd b' % 2 == 1 } 8 := by
                    rw [hS]; unfold Wk.partS; rw [show wholeB (wk0 k b' p' told' fs' mc al').b = false from hwf]; rfl
                  have HRS : Hid (R = ⟨S.nx, S.b, S.al, S.fi, S.fid, S.fo, S.fm, 0, 0, 0⟩) := Lib.hid (by rw [hRR, hS2]; rfl)
                  have hfi : S.fi = true := by rw [hS2]; rfl
                  have hbl : S.b.length < 2 ^ 46 := by rw [hS2]; show (b'.drop 8).length < _; rw [List.length_drop]; omega
                  have HC := Lib.hid C
                  clear C hS hS2 h0 h60 h43 h44 hr hw h8 hRR hwf
                  go_wp2_with fail
                  refine HC.out.mono ?_
                  rintro e w3 ⟨A', c', rfl, h1, g1⟩
                  clear HC HLk c0
                  have K1 := Lib.hid (g1.keep (by omega) LP.out.k1); have K2 := Lib.hid (g1.keep (by omega) LP.out.k2)
                  have F3 := Lib.hid (LP.out.f.trans (g1.below (by omega) (Nat.le_of_lt (bk_lt LP.out.k1))))
                  have c0 := h1.cell 0; have c1 := h1.cell 1; have c6 := h1.cell 6; have c7 := h1.cell 7; have c8 := h1.cell 8; have c9 := h1.cell 9; have c10 := h1.cell 10
                  simp [wkC, hfi] at c0 c1 c6 c7 c8 c9 c10
                  have HXS := Lib.hid h1
                  clear h1 g1 LP
                  by_cases h59 : S.nx.toNat = 59
                  · have h59' : (S.nx.toNat : Int) = 59 := by omega
                    go_upto_region 17 with fail
                    clear h59 h59' hk44 hfi c0 c1 c6 c7 c8 c9 c10
                    have hsz : n < (w3).heap.size := bk_lt K1.out
                    obtain ⟨Fx, hFx⟩ : ∃ Fx : World → Prop, Fx = fun w => bk w x = some (.cells (wkC S (.slice A' S.b.length c')) 76 (0, 0)) := ⟨_, rfl⟩
                    have HRD : Hid (Rd (w3) n A' S.b) := Lib.hid HXS.out.2.1
                    have HNN := Lib.hid HXS.out.2.2.1
                    have hbl' := Lib.hid hbl
                    obtain ⟨M8, hM8⟩ : ∃ M : MadeW n, M = MadeW.own _ [] S.b := ⟨_, rfl⟩
                    obtain ⟨M9, hM9⟩ : ∃ M : MadeW n, M = MadeW.gots _ (fun A => .slice A S.b.length S.b.length) S.b := ⟨_, rfl⟩
                    have H8 := Lib.hid hM8; have H9 := Lib.hid hM9
                    obtain ⟨f0, hf0⟩ : ∃ f : Fs, f = fun j w => (j = 25 → bk w x = some (.cells (wkC S (.slice A' S.b.length c')) 76 (0, 0))) ∧ (j = 26 → bk w n = some (.cells (fragC false 0 0 false) 27 (0, 0))) ∧ (j = 27 → bk w g2 = some (.cells (faultC 0 0) 47 (0, 0))) := ⟨_, rfl⟩
                    have i25 : ∀ w, f0 25 w → bk w x = some (.cells (wkC S (.slice A' S.b.length c')) 76 (0, 0)) := fun w h => by rw [hf0] at h; exact h.1 rfl
                    have i26 : ∀ w, f0 26 w → bk w n = some (.cells (fragC false 0 0 false) 27 (0, 0)) := fun w h => by rw [hf0] at h; exact h.2.1 rfl
                    have i27 : ∀ w, f0 27 w → bk w g2 = some (.cells (faultC 0 0) 47 (0, 0)) := fun w h => by rw [hf0] at h; exact h.2.2 rfl
                    have HF0 := Lib.hid hf0
                    clear hFx hM8 hM9 hf0
                    refine wp_region_e (n) ([.own 8 H8, .gots 9 H9, .store n 22 27 [11, 111], .store n 23 47 [12, 112], .rest n 25 76, .rest n 26 27, .rest n 27 47]) (fun k => (([(8, []), (9, [8]), (22, [26]), (23, [27]), (24, [])] : List (Nat × List Nat)).lookup k).getD [25]) (f0) (by first | omega | (simp <;> omega)) (by kernel_rfl) (by kernel_rfl) (by kernel_rfl) (by kernel_rfl) (by rw [HF0.out]; exact ini_rows rfl rfl rfl (Nat.le_of_eq rfl) HXS.out.1 K1.out K2.out) ?_
                    have h25 : f0 25 (w3) := by rw [HF0.out]; exact ⟨fun _ => HXS.out.1, fun e => absurd e (by decide), fun e => absurd e (by decide)⟩
                    have hne : Nonempty (LaterF n (w3) [(25, fun w => bk w x = some (.cells (wkC S (.slice A' S.b.length c')) 76 (0, 0)))]) := ⟨⟨w3, Below.refl _ _, fun p hp => (by
                      obtain rfl : p = _ := (by simpa using hp)
                      exact HXS.out.1)⟩⟩
                    have hrow := rowIn_eq (m := n) (W := w3) (gs := [(25, fun w => bk w x = some (.cells (wkC S (.slice A' S.b.length c')) 76 (0, 0)))]) (b := x) (r := .cells (wkC S (.slice A' S.b.length c')) 76 (0, 0)) (fun w h => h _ (List.mem_singleton.2 rfl))
                    have hxn : ¬ x < n := by omega
                    have q0 : (wkC S (.slice A' S.b.length c'))[0]? = some (B S.nx) := rfl
                    have q1 : (wkC S (.slice A' S.b.length c'))[1]? = some (.slice A' S.b.length c') := rfl
                    have q6 : (wkC S (.slice A' S.b.length c'))[6]? = some (.bool S.al) := rfl
                    refine walkW_segn 8 [(25, fun w => bk w x = some (.cells (wkC S (.slice A' S.b.length c')) 76 (0, 0)))] (facts1 i25) ⟨w3, Below.refl _ _, fun p hp => by
                      obtain rfl : p = _ := by simpa using hp
                      exact h25⟩ (by kernel_rfl) (by kernel_rfl) ?_
                    simp only [List.take_succ_cons, List.take_zero, List.drop_succ_cons, List.drop_zero, Nat.reduceAdd]
                    repeat (go_big_quiet_step (fail))
                    (first | refine wpQuiet_nil ?_ | (go_big_quiet_want; (try go_big_quiet_op); trace_state; fail))
                    refine walkW_mk (fun _ => M8) [] M8 ([]) facts0 (by kernel_rfl) (by kernel_rfl) (by kernel_rfl) rfl rfl (fun w' hb' hg' => ?_) (fun v8 h8 => ?_)
                    · unfold madeAtW
                      go_simp
                      ((refine (clone_both A' S.b c' w' ((HRD.out.below hb' (Nat.le_refl _)).mono (by have := hb'.size; omega)) HNN.out hbl'.out).mono ?_; rintro e w4 ⟨v4, rfl, ho, b4⟩; exact ⟨v4, rfl, own_mk H8 (Kept.of_below b4 (by have := hb'.size; omega)) (own_lower ho (by have := hb'.size; omega))⟩))
                    obtain ⟨A8, c8, rfl, n8, le8⟩ := own_T H8 h8
                    simp only [Act.put, List.setIfInBounds_toArray, List.set_cons_succ, List.set_cons_zero, Nat.reduceAdd]
                    refine walkW_mk (fun _ => M9) [] M9 ([(8, M8.R (.slice A8 S.b.length c8))]) (facts1 fun w h => h.1 rfl) (by kernel_rfl) (by kernel_rfl) (by kernel_rfl) rfl rfl (fun w' hb' hg' => ?_) (fun v9 h9 => ?_)
                    · unfold madeAtW
                      go_simp
                      ((refine (clip_any A8 S.b.length c8 le8 w').mono ?_; rintro e w5 ⟨rfl, b5⟩; exact gots_end H9 b5 (by have := hb'.size; omega) ((Gots.of_own (own_R H8 (hg' _ (.head _)))).below b5)))
                    obtain ⟨A9, rfl⟩ := gots_T H9 h9
                    simp only [Act.put, List.setIfInBounds_toArray, List.set_cons_succ, List.set_cons_zero, Nat.reduceAdd]
                    refine walkW_segn 12 [(25, fun w => bk w x = some (.cells (wkC S (.slice A' S.b.length c')) 76 (0, 0)))] (facts1 (fun w h => i25 w h.2.2)) ⟨w3, Below.refl _ _, fun p hp => by
                      obtain rfl : p = _ := by simpa using hp
                      exact (⟨fun (e : (25 : Nat) = 9) => absurd e (by decide), fun (e : (25 : Nat) = 8) => absurd e (by decide), h25⟩)⟩ (by kernel_rfl) (by kernel_rfl) ?_
                    simp only [List.take_succ_cons, List.take_zero, List.drop_succ_cons, List.drop_zero, Nat.reduceAdd]
                    repeat (go_big_quiet_step (fail))
                    (first | refine wpQuiet_nil ?_ | (go_big_quiet_want; (try go_big_quiet_op); trace_state; fail))
                    refine walkW_mk (MadeW.storeAt _ 27) [.pointer (some ⟨n, 0, none⟩), .agg (fragC S.fi S.fid S.fo S.fm)] (MadeW.store _ n (fragC S.fi S.fid S.fo S.fm) 27) ([(26, fun w => bk w n = some (.cells (fragC false 0 0 false) 27 (0, 0)))]) (facts1 fun w h => i26 w h.2.2) (by kernel_rfl) (by kernel_rfl) (by kernel_rfl) rfl rfl (fun w' hb' hg' => ?_) (fun v hT => ?_)
                    · exact storeRow_mk (n := 4) (by kernel_rfl) (Lib.hid rfl) ((hg' _ (.head _))) (Nat.le_refl _) rfl rfl fragC_size fragC_size fragC_ones
                    clear hT
                    simp only [Act.put]
                    refine walkW_mk (MadeW.storeAt _ 47) [.pointer (some ⟨g2, 0, none⟩), .agg (faultC 0 0)] (MadeW.store _ g2 (faultC 0 0) 47) ([(27, fun w => bk w g2 = some (.cells (faultC 0 0) 47 (0, 0)))]) (facts1 fun w h => i27 w h.2.2.2) (by kernel_rfl) (by kernel_rfl) (by kernel_rfl) rfl rfl (fun w' hb' hg' => ?_) (fun v hT => ?_)
                    · exact storeRow_mk (n := 2) (by kernel_rfl) (Lib.hid rfl) ((hg' _ (.head _))) (Nat.le_of_lt hg1) rfl rfl faultC_size faultC_size faultC_ones
                    clear hT
                    simp only [Act.put]
                    refine walkW_segn 1 [] facts0 noneHx (by kernel_rfl) (by kernel_rfl) ?_
                    simp only [List.take_succ_cons, List.take_zero, List.drop_succ_cons, List.drop_zero, Nat.reduceAdd]
                    repeat (go_big_quiet_step (fail))
                    (first | refine wpQuiet_nil ?_ | (go_big_quiet_want; (try go_big_quiet_op); trace_state; fail))
                    refine walkW_nil ?_
                    intro w6 b6 hf
                    have KG := Lib.hid (store_R (M := MadeW.store n g2 (faultC 0 0) 47) (Lib.hid rfl) ((hf 23 (by kernel_rfl)).1 rfl))
                    have KN := Lib.hid (store_R (M := MadeW.store n n (fragC S.fi S.fid S.fo S.fm) 27) (Lib.hid rfl) ((hf 22 (by kernel_rfl)).2.1 rfl))
                    have GG := Lib.hid (gots_R H9 (fun A A' h => by simpa using h) ((hf 9 (by kernel_rfl)).2.2.1 rfl))
                    have FF := Lib.hid (F3.out.trans b6)
                    clear hf b6 hrow hne q0 q1 q6 h25 i25 i26 i27 HF0 H8 H9 h8 h9 K1 K2 F3 HXS
                    go_wp2_with fail
                    refine ret_six rfl rfl rfl rfl rfl rfl rfl rfl KN.out KG.out Try.underlying27 Try.underlying47 rfl rfl (by kernel_rfl) (by kernel_rfl) ?_
                    exact ⟨A9, by rw [HRS.out]; rfl, by rw [HRS.out, ← HN.out]; exact GG.out, by rw [← HN.out]; exact FF.out⟩
                  · have h59' : ¬ (S.nx.toNat : Int) = 59 := by omega
                    go_upto_region 17 with fail
                    clear h59 h59' hk44 hfi c0 c1 c6 c7 c8 c9 c10
                    have hsz : n < (w3).heap.size := bk_lt K1.out
                    obtain ⟨Fx, hFx⟩ : ∃ Fx : World → Prop, Fx = fun w => bk w x = some (.cells (wkC S (.slice A' S.b.length c')) 76 (0, 0)) := ⟨_, rfl⟩
                    have HRD : Hid (Rd (w3) n A' S.b) := Lib.hid HXS.out.2.1
                    have HNN := Lib.hid HXS.out.2.2.1
                    have hbl' := Lib.hid hbl
                    obtain ⟨M8, hM8⟩ : ∃ M : MadeW n, M = MadeW.own _ [] S.b := ⟨_, rfl⟩
                    obtain ⟨M9, hM9⟩ : ∃ M : MadeW n, M = MadeW.gots _ (fun A => .slice A S.b.length S.b.length) S.b := ⟨_, rfl⟩
                    have H8 := Lib.hid hM8; have H9 := Lib.hid hM9
                    obtain ⟨f0, hf0⟩ : ∃ f : Fs, f = fun j w => (j = 25 → bk w x = some (.cells (wkC S (.slice A' S.b.length c')) 76 (0, 0))) ∧ (j = 26 → bk w n = some (.cells (fragC false 0 0 false) 27 (0, 0))) ∧ (j = 27 → bk w g2 = some (.cells (faultC 0 0) 47 (0, 0))) := ⟨_, rfl⟩
                    have i25 : ∀ w, f0 25 w → bk w x = some (.cells (wkC S (.slice A' S.b.length c')) 76 (0, 0)) := fun w h => by rw [hf0] at h; exact h.1 rfl
                    have i26 : ∀ w, f0 26 w → bk w n = some (.cells (fragC false 0 0 false) 27 (0, 0)) := fun w h => by rw [hf0] at h; exact h.2.1 rfl
                    have i27 : ∀ w, f0 27 w → bk w g2 = some (.cells (faultC 0 0) 47 (0, 0)) := fun w h => by rw [hf0] at h; exact h.2.2 rfl
                    have HF0 := Lib.hid hf0
                    clear hFx hM8 hM9 hf0
                    refine wp_region_e (n) ([.own 8 H8, .gots 9 H9, .store n 22 27 [11, 111], .store n 23 47 [12, 112], .rest n 25 76, .rest n 26 27, .rest n 27 47]) (fun k => (([(8, []), (9, [8]), (22, [26]), (23, [27]), (24, [])] : List (Nat × List Nat)).lookup k).getD [25]) (f0) (by first | omega | (simp <;> omega)) (by kernel_rfl) (by kernel_rfl) (by kernel_rfl) (by kernel_rfl) (by rw [HF0.out]; exact ini_rows rfl rfl rfl (Nat.le_of_eq rfl) HXS.out.1 K1.out K2.out) ?_
                    have h25 : f0 25 (w3) := by rw [HF0.out]; exact ⟨fun _ => HXS.out.1, fun e => absurd e (by decide), fun e => absurd e (by decide)⟩
                    have hne : Nonempty (LaterF n (w3) [(25, fun w => bk w x = some (.cells (wkC S (.slice A' S.b.length c')) 76 (0, 0)))]) := ⟨⟨w3, Below.refl _ _, fun p hp => (by
                      obtain rfl : p = _ := (by simpa using hp)
                      exact HXS.out.1)⟩⟩
                    have hrow := rowIn_eq (m := n) (W := w3) (gs := [(25, fun w => bk w x = some (.cells (wkC S (.slice A' S.b.length c')) 76 (0, 0)))]) (b := x) (r := .cells (wkC S (.slice A' S.b.length c')) 76 (0, 0)) (fun w h => h _ (List.mem_singleton.2 rfl))
                    have hxn : ¬ x < n := by omega
                    have q0 : (wkC S (.slice A' S.b.length c'))[0]? = some (B S.nx) := rfl
                    have q1 : (wkC S (.slice A' S.b.length c'))[1]? = some (.slice A' S.b.length c') := rfl
                    have q6 : (wkC S (.slice A' S.b.length c'))[6]? = some (.bool S.al) := rfl
                    refine walkW_segn 8 [(25, fun w => bk w x = some (.cells (wkC S (.slice A' S.b.length c')) 76 (0, 0)))] (facts1 i25) ⟨w3, Below.refl _ _, fun p hp => by
                      obtain rfl : p = _ := by simpa using hp
                      exact h25⟩ (by kernel_rfl) (by kernel_rfl) ?_
                    simp only [List.take_succ_cons, List.take_zero, List.drop_succ_cons, List.drop_zero, Nat.reduceAdd]
                    repeat (go_big_quiet_step (fail))
                    (first | refine wpQuiet_nil ?_ | (go_big_quiet_want; (try go_big_quiet_op); trace_state; fail))
                    refine walkW_mk (fun _ => M8) [] M8 ([]) facts0 (by kernel_rfl) (by kernel_rfl) (by kernel_rfl) rfl rfl (fun w' hb' hg' => ?_) (fun v8 h8 => ?_)
                    · unfold madeAtW
                      go_simp
                      ((refine (clone_both A' S.b c' w' ((HRD.out.below hb' (Nat.le_refl _)).mono (by have := hb'.size; omega)) HNN.out hbl'.out).mono ?_; rintro e w4 ⟨v4, rfl, ho, b4⟩; exact ⟨v4, rfl, own_mk H8 (Kept.of_below b4 (by have := hb'.size; omega)) (own_lower ho (by have := hb'.size; omega))⟩))
                    obtain ⟨A8, c8, rfl, n8, le8⟩ := own_T H8 h8
                    simp only [Act.put, List.setIfInBounds_toArray, List.set_cons_succ, List.set_cons_zero, Nat.reduceAdd]
                    refine walkW_mk (fun _ => M9) [] M9 ([(8, M8.R (.slice A8 S.b.length c8))]) (facts1 fun w h => h.1 rfl) (by kernel_rfl) (by kernel_rfl) (by kernel_rfl) rfl rfl (fun w' hb' hg' => ?_) (fun v9 h9 => ?_)
                    · unfold madeAtW
                      go_simp
                      ((refine (clip_any A8 S.b.length c8 le8 w').mono ?_; rintro e w5 ⟨rfl, b5⟩; exact gots_end H9 b5 (by have := hb'.size; omega) ((Gots.of_own (own_R H8 (hg' _ (.head _)))).below b5)))
                    obtain ⟨A9, rfl⟩ := gots_T H9 h9
                    simp only [Act.put, List.setIfInBounds_toArray, List.set_cons_succ, List.set_cons_zero, Nat.reduceAdd]
                    refine walkW_segn 12 [(25, fun w => bk w x = some (.cells (wkC S (.slice A' S.b.length c')) 76 (0, 0)))] (facts1 (fun w h => i25 w h.2.2)) ⟨w3, Below.refl _ _, fun p hp => by
                      obtain rfl : p = _ := by simpa using hp
                      exact (⟨fun (e : (25 : Nat) = 9) => absurd e (by decide), fun (e : (25 : Nat) = 8) => absurd e (by decide), h25⟩)⟩ (by kernel_rfl) (by kernel_rfl) ?_
                    simp only [List.take_succ_cons, List.take_zero, List.drop_succ_cons, List.drop_zero, Nat.reduceAdd]
                    repeat (go_big_quiet_step (fail))
                    (first | refine wpQuiet_nil ?_ | (go_big_quiet_want; (try go_big_quiet_op); trace_state; fail))
                    refine walkW_mk (MadeW.storeAt _ 27) [.pointer (some ⟨n, 0, none⟩), .agg (fragC S.fi S.fid S.fo S.fm)] (MadeW.store _ n (fragC S.fi S.fid S.fo S.fm) 27) ([(26, fun w => bk w n = some (.cells (fragC false 0 0 false) 27 (0, 0)))]) (facts1 fun w h => i26 w h.2.2) (by kernel_rfl) (by kernel_rfl) (by kernel_rfl) rfl rfl (fun w' hb' hg' => ?_) (fun v hT => ?_)
                    · exact storeRow_mk (n := 4) (by kernel_rfl) (Lib.hid rfl) ((hg' _ (.head _))) (Nat.le_refl _) rfl rfl fragC_size fragC_size fragC_ones
                    clear hT
                    simp only [Act.put]
                    refine walkW_mk (MadeW.storeAt _ 47) [.pointer (some ⟨g2, 0, none⟩), .agg (faultC 0 0)] (MadeW.store _ g2 (faultC 0 0) 47) ([(27, fun w => bk w g2 = some (.cells (faultC 0 0) 47 (0, 0)))]) (facts1 fun w h => i27 w h.2.2.2) (by kernel_rfl) (by kernel_rfl) (by kernel_rfl) rfl rfl (fun w' hb' hg' => ?_) (fun v hT => ?_)
                    · exact storeRow_mk (n := 2) (by kernel_rfl) (Lib.hid rfl) ((hg' _ (.head _))) (Nat.le_of_lt hg1) rfl rfl faultC_size faultC_size faultC_ones
                    clear hT
                    simp only [Act.put]
                    refine walkW_segn 1 [] facts0 noneHx (by kernel_rfl) (by kernel_rfl) ?_
                    simp only [List.take_succ_cons, List.take_zero, List.drop_succ_cons, List.drop_zero, Nat.reduceAdd]
                    repeat (go_big_quiet_step (fail))
                    (first | refine wpQuiet_nil ?_ | (go_big_quiet_want; (try go_big_quiet_op); trace_state; fail))
                    refine walkW_nil ?_
                    intro w6 b6 hf
                    have KG := Lib.hid (store_R (M := MadeW.store n g2 (faultC 0 0) 47) (Lib.hid rfl) ((hf 23 (by kernel_rfl)).1 rfl))
                    have KN := Lib.hid (store_R (M := MadeW.store n n (fragC S.fi S.fid S.fo S.fm) 27) (Lib.hid rfl) ((hf 22 (by kernel_rfl)).2.1 rfl))
                    have GG := Lib.hid (gots_R H9 (fun A A' h => by simpa using h) ((hf 9 (by kernel_rfl)).2.2.1 rfl))
                    have FF := Lib.hid (F3.out.trans b6)
                    clear hf b6 hrow hne q0 q1 q6 h25 i25 i26 i27 HF0 H8 H9 h8 h9 K1 K2 F3 HXS
                    go_wp2_with fail
                    refine ret_six rfl rfl rfl rfl rfl rfl rfl rfl KN.out KG.out Try.underlying27 Try.underlying47 rfl rfl (by kernel_rfl) (by kernel_rfl) ?_
                    exact ⟨A9, by rw [HRS.out]; rfl, by rw [HRS.out, ← HN.out]; exact GG.out, by rw [← HN.out]; exact FF.out⟩
            · have hr : R = if k = 59 then ⟨59, [], al', false, 0, 0, false, 0, 0, 0⟩ else ⟨k, b', al', false, 0, 0, false, 0, 0, 0⟩ := by
                have hr := LP.out.hr
                rw [chain_eq, if_neg (by rintro (e | e) <;> contradiction), if_neg h43, if_neg h44] at hr
                exact hr
              have hk44 : ¬ (k.toNat : Int) = 44 := fun e => h44 (UInt8.toNat_inj.1 (by show k.toNat = 44; omega))
              have c7 := LP.out.hx.cell 7
              simp [wkC, wk0] at c7
              have hx1z := bk_lt LP.out.hx.1
              by_cases h59 : k = 59
              · have h59' : (k.toNat : Int) = 59 := by rw [h59]; rfl
                rw [if_pos h59] at hr
                obtain ⟨S, hS⟩ : ∃ S, S = wk0 k [] p' told' fs' mc al' := ⟨_, rfl⟩
                have c1 := LP.out.hx.cell 1
                simp [wkC, wk0] at c1
                have z1 := bk_frozen LP.out.hx.1 1
                have HXS : Hid (WB (wr.setCell ⟨x, 1, none⟩ (.slice none 0 0)) n x S none 0) := Lib.hid (by
                  obtain ⟨h1, h2, h3, h4, h5⟩ := LP.out.hx
                  rw [hS]
                  refine ⟨?_, Rd.nil, fun _ => ⟨rfl, rfl⟩, Nat.le_refl _, h5⟩
                  rw [bk_setCell_same, h1]
                  rfl)
                have K1 : Hid (bk (wr.setCell ⟨x, 1, none⟩ (.slice none 0 0)) n = some (.cells (fragC false 0 0 false) 27 (0, 0))) := Lib.hid ((bk_setCell_other _ _ _ _ _ (by omega)).trans LP.out.k1)
                have K2 : Hid (bk (wr.setCell ⟨x, 1, none⟩ (.slice none 0 0)) g2 = some (.cells (faultC 0 0) 47 (0, 0))) := Lib.hid ((bk_setCell_other _ _ _ _ _ (by omega)).trans LP.out.k2)
                have F3 : Hid (Below n w (wr.setCell ⟨x, 1, none⟩ (.slice none 0 0))) := Lib.hid (LP.out.f.setCell (p := ⟨x, 1, none⟩) (show n ≤ x by omega) _)
                have HRS : Hid (R = ⟨S.nx, S.b, S.al, S.fi, S.fid, S.fo, S.fm, 0, 0, 0⟩) := Lib.hid (by rw [hr, hS, h59]; rfl)
                have hbl : S.b.length < 2 ^ 46 := by rw [hS]; show ([] : List UInt8).length < _; simp
                clear hr hS h0 h60 h43 h44 h59 LP
                go_upto_region 17 with fail
                clear h59' hk44 c1 c7 z1 c0 HLk
                generalize wr.setCell ⟨x, 1, none⟩ (.slice none 0 0) = w7 at *
                have hsz : n < (w7).heap.size := bk_lt K1.out
                obtain ⟨Fx, hFx⟩ : ∃ Fx : World → Prop, Fx = fun w => bk w x = some (.cells (wkC S (.slice (none : Option Addr) S.b.length 0)) 76 (0, 0)) := ⟨_, rfl⟩
                have HRD : Hid (Rd (w7) n (none : Option Addr) S.b) := Lib.hid HXS.out.2.1
                have HNN := Lib.hid HXS.out.2.2.1
                have hbl' := Lib.hid hbl
                obtain ⟨M8, hM8⟩ : ∃ M : MadeW n, M = MadeW.own _ [] S.b := ⟨_, rfl⟩
                obtain ⟨M9, hM9⟩ : ∃ M : MadeW n, M = MadeW.gots _ (fun A => .slice A S.b.length S.b.length) S.b := ⟨_, rfl⟩
                have H8 := Lib.hid hM8; have H9 := Lib.hid hM9
                obtain ⟨f0, hf0⟩ : ∃ f : Fs, f = fun j w => (j = 25 → bk w x = some (.cells (wkC S (.slice (none : Option Addr) S.b.length 0)) 76 (0, 0))) ∧ (j = 26 → bk w n = some (.cells (fragC false 0 0 false) 27 (0, 0))) ∧ (j = 27 → bk w g2 = some (.cells (faultC 0 0) 47 (0, 0))) := ⟨_, rfl⟩
                have i25 : ∀ w, f0 25 w → bk w x = some (.cells (wkC S (.slice (none : Option Addr) S.b.length 0)) 76 (0, 0)) := fun w h => by rw [hf0] at h; exact h.1 rfl
                have i26 : ∀ w, f0 26 w → bk w n = some (.cells (fragC false 0 0 false) 27 (0, 0)) := fun w h => by rw [hf0] at h; exact h.2.1 rfl
                have i27 : ∀ w, f0 27 w → bk w g2 = some (.cells (faultC 0 0) 47 (0, 0)) := fun w h => by rw [hf0] at h; exact h.2.2 rfl
                have HF0 := Lib.hid hf0
                clear hFx hM8 hM9 hf0
                refine wp_region_e (n) ([.own 8 H8, .gots 9 H9, .store n 22 27 [11, 111], .store n 23 47 [12, 112], .rest n 25 76, .rest n 26 27, .rest n 27 47]) (fun k => (([(8, []), (9, [8]), (22, [26]), (23, [27]), (24, [])] : List (Nat × List Nat)).lookup k).getD [25]) (f0) (by first | omega | (simp <;> omega)) (by kernel_rfl) (by kernel_rfl) (by kernel_rfl) (by kernel_rfl) (by rw [HF0.out]; exact ini_rows rfl rfl rfl (Nat.le_of_eq rfl) HXS.out.1 K1.out K2.out) ?_
                have h25 : f0 25 (w7) := by rw [HF0.out]; exact ⟨fun _ => HXS.out.1, fun e => absurd e (by decide), fun e => absurd e (by decide)⟩
                have hne : Nonempty (LaterF n (w7) [(25, fun w => bk w x = some (.cells (wkC S (.slice (none : Option Addr) S.b.length 0)) 76 (0, 0)))]) := ⟨⟨w7, Below.refl _ _, fun p hp => (by
                  obtain rfl : p = _ := (by simpa using hp)
                  exact HXS.out.1)⟩⟩
                have hrow := rowIn_eq (m := n) (W := w7) (gs := [(25, fun w => bk w x = some (.cells (wkC S (.slice (none : Option Addr) S.b.length 0)) 76 (0, 0)))]) (b := x) (r := .cells (wkC S (.slice (none : Option Addr) S.b.length 0)) 76 (0, 0)) (fun w h => h _ (List.mem_singleton.2 rfl))
                have hxn : ¬ x < n := by omega
                have q0 : (wkC S (.slice (none : Option Addr) S.b.length 0))[0]? = some (B S.nx) := rfl
                have q1 : (wkC S (.slice (none : Option Addr) S.b.length 0))[1]? = some (.slice (none : Option Addr) S.b.length 0) := rfl
                have q6 : (wkC S (.slice (none : Option Addr) S.b.length 0))[6]? = some (.bool S.al) := rfl
                refine walkW_segn 8 [(25, fun w => bk w x = some (.cells (wkC S (.slice (none : Option Addr) S.b.length 0)) 76 (0, 0)))] (facts1 i25) ⟨w7, Below.refl _ _, fun p hp => by
                  obtain rfl : p = _ := by simpa using hp
                  exact h25⟩ (by kernel_rfl) (by kernel_rfl) ?_
                simp only [List.take_succ_cons, List.take_zero, List.drop_succ_cons, List.drop_zero, Nat.reduceAdd]
                repeat (go_big_quiet_step (fail))
                (first | refine wpQuiet_nil ?_ | (go_big_quiet_want; (try go_big_quiet_op); trace_state; fail))
                refine walkW_mk (fun _ => M8) [] M8 ([]) facts0 (by kernel_rfl) (by kernel_rfl) (by kernel_rfl) rfl rfl (fun w' hb' hg' => ?_) (fun v8 h8 => ?_)
                · unfold madeAtW
                  go_simp
                  ((refine (clone_both (none : Option Addr) S.b 0 w' ((HRD.out.below hb' (Nat.le_refl _)).mono (by have := hb'.size; omega)) HNN.out hbl'.out).mono ?_; rintro e w4 ⟨v4, rfl, ho, b4⟩; exact ⟨v4, rfl, own_mk H8 (Kept.of_below b4 (by have := hb'.size; omega)) (own_lower ho (by have := hb'.size; omega))⟩))
                obtain ⟨A8, c8, rfl, n8, le8⟩ := own_T H8 h8
                simp only [Act.put, List.setIfInBounds_toArray, List.set_cons_succ, List.set_cons_zero, Nat.reduceAdd]
                refine walkW_mk (fun _ => M9) [] M9 ([(8, M8.R (.slice A8 S.b.length c8))]) (facts1 fun w h => h.1 rfl) (by kernel_rfl) (by kernel_rfl) (by kernel_rfl) rfl rfl (fun w' hb' hg' => ?_) (fun v9 h9 => ?_)
                · unfold madeAtW
                  go_simp
                  ((refine (clip_any A8 S.b.length c8 le8 w').mono ?_; rintro e w5 ⟨rfl, b5⟩; exact gots_end H9 b5 (by have := hb'.size; omega) ((Gots.of_own (own_R H8 (hg' _ (.head _)))).below b5)))
                obtain ⟨A9, rfl⟩ := gots_T H9 h9
                simp only [Act.put, List.setIfInBounds_toArray, List.set_cons_succ, List.set_cons_zero, Nat.reduceAdd]
                refine walkW_segn 12 [(25, fun w => bk w x = some (.cells (wkC S (.slice (none : Option Addr) S.b.length 0)) 76 (0, 0)))] (facts1 (fun w h => i25 w h.2.2)) ⟨w7, Below.refl _ _, fun p hp => by
                  obtain rfl : p = _ := by simpa using hp
                  exact (⟨fun (e : (25 : Nat) = 9) => absurd e (by decide), fun (e : (25 : Nat) = 8) => absurd e (by decide), h25⟩)⟩ (by kernel_rfl) (by kernel_rfl) ?_
                simp only [List.take_succ_cons, List.take_zero, List.drop_succ_cons, List.drop_zero, Nat.reduceAdd]
                repeat (go_big_quiet_step (fail))
                (first | refine wpQuiet_nil ?_ | (go_big_quiet_want; (try go_big_quiet_op); trace_state; fail))
                refine walkW_mk (MadeW.storeAt _ 27) [.pointer (some ⟨n, 0, none⟩), .agg (fragC S.fi S.fid S.fo S.fm)] (MadeW.store _ n (fragC S.fi S.fid S.fo S.fm) 27) ([(26, fun w => bk w n = some (.cells (fragC false 0 0 false) 27 (0, 0)))]) (facts1 fun w h => i26 w h.2.2) (by kernel_rfl) (by kernel_rfl) (by kernel_rfl) rfl rfl (fun w' hb' hg' => ?_) (fun v hT => ?_)
                · exact storeRow_mk (n := 4) (by kernel_rfl) (Lib.hid rfl) ((hg' _ (.head _))) (Nat.le_refl _) rfl rfl fragC_size fragC_size fragC_ones
                clear hT
                simp only [Act.put]
                refine walkW_mk (MadeW.storeAt _ 47) [.pointer (some ⟨g2, 0, none⟩), .agg (faultC 0 0)] (MadeW.store _ g2 (faultC 0 0) 47) ([(27, fun w => bk w g2 = some (.cells (faultC 0 0) 47 (0, 0)))]) (facts1 fun w h => i27 w h.2.2.2) (by kernel_rfl) (by kernel_rfl) (by kernel_rfl) rfl rfl (fun w' hb' hg' => ?_) (fun v hT => ?_)
                · exact storeRow_mk (n := 2) (by kernel_rfl) (Lib.hid rfl) ((hg' _ (.head _))) (Nat.le_of_lt hg1) rfl rfl faultC_size faultC_size faultC_ones
                clear hT
                simp only [Act.put]
                refine walkW_segn 1 [] facts0 noneHx (by kernel_rfl) (by kernel_rfl) ?_
                simp only [List.take_succ_cons, List.take_zero, List.drop_succ_cons, List.drop_zero, Nat.reduceAdd]
                repeat (go_big_quiet_step (fail))
                (first | refine wpQuiet_nil ?_ | (go_big_quiet_want; (try go_big_quiet_op); trace_state; fail))
                refine walkW_nil ?_
                intro w6 b6 hf
                have KG := Lib.hid (store_R (M := MadeW.store n g2 (faultC 0 0) 47) (Lib.hid rfl) ((hf 23 (by kernel_rfl)).1 rfl))
                have KN := Lib.hid (store_R (M := MadeW.store n n (fragC S.fi S.fid S.fo S.fm) 27) (Lib.hid rfl) ((hf 22 (by kernel_rfl)).2.1 rfl))
                have GG := Lib.hid (gots_R H9 (fun A A' h => by simpa using h) ((hf 9 (by kernel_rfl)).2.2.1 rfl))
                have FF := Lib.hid (F3.out.trans b6)
                clear hf b6 hrow hne q0 q1 q6 h25 i25 i26 i27 HF0 H8 H9 h8 h9 K1 K2 F3 HXS
                go_wp2_with fail
                refine ret_six rfl rfl rfl rfl rfl rfl rfl rfl KN.out KG.out Try.underlying27 Try.underlying47 rfl rfl (by kernel_rfl) (by kernel_rfl) ?_
                exact ⟨A9, by rw [HRS.out]; rfl, by rw [HRS.out, ← HN.out]; exact GG.out, by rw [← HN.out]; exact FF.out⟩
              · have h59' : ¬ (k.toNat : Int) = 59 := fun e => h59 (UInt8.toNat_inj.1 (by show k.toNat = 59; omega))
                rw [if_neg h59] at hr
                obtain ⟨S, hS⟩ : ∃ S, S = wk0 k b' p' told' fs' mc al' := ⟨_, rfl⟩
                have HXS : Hid (WB wr n x S AA cc) := Lib.hid (by rw [hS]; exact LP.out.hx)
                have K1 := Lib.hid LP.out.k1; have K2 := Lib.hid LP.out.k2; have F3 := Lib.hid LP.out.f
                have HRS : Hid (R = ⟨S.nx, S.b, S.al, S.fi, S.fid, S.fo, S.fm, 0, 0, 0⟩) := Lib.hid (by rw [hr, hS]; rfl)
                have hbl : S.b.length < 2 ^ 46 := by rw [hS]; show b'.length < _; omega
                clear hr hS h0 h60 h43 h44 h59 LP
                go_upto_region 17 with fail
                clear h59' hk44 c7 c0 HLk
                have hsz : n < (wr).heap.size := bk_lt K1.out
                obtain ⟨Fx, hFx⟩ : ∃ Fx : World → Prop, Fx = fun w => bk w x = some (.cells (wkC S (.slice AA S.b.length cc)) 76 (0, 0)) := ⟨_, rfl⟩
                have HRD : Hid (Rd (wr) n AA S.b) := Lib.hid HXS.out.2.1
                have HNN := Lib.hid HXS.out.2.2.1
                have hbl' := Lib.hid hbl
                obtain ⟨M8, hM8⟩ : ∃ M : MadeW n, M = MadeW.own _ [] S.b := ⟨_, rfl⟩
                obtain ⟨M9, hM9⟩ : ∃ M : MadeW n, M = MadeW.gots _ (fun A => .slice A S.b.length S.b.length) S.b := ⟨_, rfl⟩
                have H8 := Lib.hid hM8; have H9 := Lib.hid hM9
                obtain ⟨f0, hf0⟩ : ∃ f : Fs, f = fun j w => (j = 25 → bk w x = some (.cells (wkC S (.slice AA S.b.length cc)) 76 (0, 0))) ∧ (j = 26 → bk w n = some (.cells (fragC false 0 0 false) 27 (0, 0))) ∧ (j = 27 → bk w g2 = some (.cells (faultC 0 0) 47 (0, 0))) := ⟨_, rfl⟩
                have i25 : ∀ w, f0 25 w → bk w x = some (.cells (wkC S (.slice AA S.b.length cc)) 76 (0, 0)) := fun w h => by rw [hf0] at h; exact h.1 rfl
                have i26 : ∀ w, f0 26 w → bk w n = some (.cells (fragC false 0 0 false) 27 (0, 0)) := fun w h => by rw [hf0] at h; exact h.2.1 rfl
                have i27 : ∀ w, f0 27 w → bk w g2 = some (.cells (faultC 0 0) 47 (0, 0)) := fun w h => by rw [hf0] at h; exact h.2.2 rfl
                have HF0 := Lib.hid hf0
                clear hFx hM8 hM9 hf0
                refine wp_region_e (n) ([.own 8 H8, .gots 9 H9, .store n 22 27 [11, 111], .store n 23 47 [12, 112], .rest n 25 76, .rest n 26 27, .rest n 27 47]) (fun k => (([(8, []), (9, [8]), (22, [26]), (23, [27]), (24, [])] : List (Nat × List Nat)).lookup k).getD [25]) (f0) (by first | omega | (simp <;> omega)) (by kernel_rfl) (by kernel_rfl) (by kernel_rfl) (by kernel_rfl) (by rw [HF0.out]; exact ini_rows rfl rfl rfl (Nat.le_of_eq rfl) HXS.out.1 K1.out K2.out) ?_
                have h25 : f0 25 (wr) := by rw [HF0.out]; exact ⟨fun _ => HXS.out.1, fun e => absurd e (by decide), fun e => absurd e (by decide)⟩
                have hne : Nonempty (LaterF n (wr) [(25, fun w => bk w x = some (.cells (wkC S (.slice AA S.b.length cc)) 76 (0, 0)))]) := ⟨⟨wr, Below.refl _ _, fun p hp => (by
                  obtain rfl : p = _ := (by simpa using hp)
                  exact HXS.out.1)⟩⟩
                have hrow := rowIn_eq (m := n) (W := wr) (gs := [(25, fun w => bk w x = some (.cells (wkC S (.slice AA S.b.length cc)) 76 (0, 0)))]) (b := x) (r := .cells (wkC S (.slice AA S.b.length cc)) 76 (0, 0)) (fun w h => h _ (List.mem_singleton.2 rfl))
                have hxn : ¬ x < n := by omega
                have q0 : (wkC S (.slice AA S.b.length cc))[0]? = some (B S.nx) := rfl
                have q1 : (wkC S (.slice AA S.b.length cc))[1]? = some (.slice AA S.b.length cc) := rfl
                have q6 : (wkC S (.slice AA S.b.length cc))[6]? = some (.bool S.al) := rfl
                refine walkW_segn 8 [(25, fun w => bk w x = some (.cells (wkC S (.slice AA S.b.length cc)) 76 (0, 0)))] (facts1 i25) ⟨wr, Below.refl _ _, fun p hp => by
                  obtain rfl : p = _ := by simpa using hp
                  exact h25⟩ (by kernel_rfl) (by kernel_rfl) ?_
                simp only [List.take_succ_cons, List.take_zero, List.drop_succ_cons, List.drop_zero, Nat.reduceAdd]
                repeat (go_big_quiet_step (fail))
                (first | refine wpQuiet_nil ?_ | (go_big_quiet_want; (try go_big_quiet_op); trace_state; fail))
                refine walkW_mk (fun _ => M8) [] M8 ([]) facts0 (by kernel_rfl) (by kernel_rfl) (by kernel_rfl) rfl rfl (fun w' hb' hg' => ?_) (fun v8 h8 => ?_)
                · unfold madeAtW
                  go_simp
                  ((refine (clone_both AA S.b cc w' ((HRD.out.below hb' (Nat.le_refl _)).mono (by have := hb'.size; omega)) HNN.out hbl'.out).mono ?_; rintro e w4 ⟨v4, rfl, ho, b4⟩; exact ⟨v4, rfl, own_mk H8 (Kept.of_below b4 (by have := hb'.size; omega)) (own_lower ho (by have := hb'.size; omega))⟩))
                obtain ⟨A8, c8, rfl, n8, le8⟩ := own_T H8 h8
                simp only [Act.put, List.setIfInBounds_toArray, List.set_cons_succ, List.set_cons_zero, Nat.reduceAdd]
                refine walkW_mk (fun _ => M9) [] M9 ([(8, M8.R (.slice A8 S.b.length c8))]) (facts1 fun w h => h.1 rfl) (by kernel_rfl) (by kernel_rfl) (by kernel_rfl) rfl rfl (fun w' hb' hg' => ?_) (fun v9 h9 => ?_)
                · unfold madeAtW
                  go_simp
                  ((refine (clip_any A8 S.b.length c8 le8 w').mono ?_; rintro e w5 ⟨rfl, b5⟩; exact gots_end H9 b5 (by have := hb'.size; omega) ((Gots.of_own (own_R H8 (hg' _ (.head _)))).below b5)))
                obtain ⟨A9, rfl⟩ := gots_T H9 h9
                simp only [Act.put, List.setIfInBounds_toArray, List.set_cons_succ, List.set_cons_zero, Nat.reduceAdd]
                refine walkW_segn 12 [(25, fun w => bk w x = some (.cells (wkC S (.slice AA S.b.length cc)) 76 (0, 0)))] (facts1 (fun w h => i25 w h.2.2)) ⟨wr, Below.refl _ _, fun p hp => by
                  obtain rfl : p = _ := by simpa using hp
                  exact (⟨fun (e : (25 : Nat) = 9) => absurd e (by decide), fun (e : (25 : Nat) = 8) => absurd e (by decide), h25⟩)⟩ (by kernel_rfl) (by kernel_rfl) ?_
                simp only [List.take_succ_cons, List.take_zero, List.drop_succ_cons, List.drop_zero, Nat.reduceAdd]
                repeat (go_big_quiet_step (fail))
                (first | refine wpQuiet_nil ?_ | (go_big_quiet_want; (try go_big_quiet_op); trace_state; fail))
                refine walkW_mk (MadeW.storeAt _ 27) [.pointer (some ⟨n, 0, none⟩), .agg (fragC S.fi S.fid S.fo S.fm)] (MadeW.store _ n (fragC S.fi S.fid S.fo S.fm) 27) ([(26, fun w => bk w n = some (.cells (fragC false 0 0 false) 27 (0, 0)))]) (facts1 fun w h => i26 w h.2.2) (by kernel_rfl) (by kernel_rfl) (by kernel_rfl) rfl rfl (fun w' hb' hg' => ?_) (fun v hT => ?_)
                · exact storeRow_mk (n := 4) (by kernel_rfl) (Lib.hid rfl) ((hg' _ (.head _))) (Nat.le_refl _) rfl rfl fragC_size fragC_size fragC_ones
                clear hT
                simp only [Act.put]
                refine walkW_mk (MadeW.storeAt _ 47) [.pointer (some ⟨g2, 0, none⟩), .agg (faultC 0 0)] (MadeW.store _ g2 (faultC 0 0) 47) ([(27, fun w => bk w g2 = some (.cells (faultC 0 0) 47 (0, 0)))]) (facts1 fun w h => i27 w h.2.2.2) (by kernel_rfl) (by kernel_rfl) (by kernel_rfl) rfl rfl (fun w' hb' hg' => ?_) (fun v hT => ?_)
                · exact storeRow_mk (n := 2) (by kernel_rfl) (Lib.hid rfl) ((hg' _ (.head _))) (Nat.le_of_lt hg1) rfl rfl faultC_size faultC_size faultC_ones
                clear hT
                simp only [Act.put]
                refine walkW_segn 1 [] facts0 noneHx (by kernel_rfl) (by kernel_rfl) ?_
                simp only [List.take_succ_cons, List.take_zero, List.drop_succ_cons, List.drop_zero, Nat.reduceAdd]
                repeat (go_big_quiet_step (fail))
                (first | refine wpQuiet_nil ?_ | (go_big_quiet_want; (try go_big_quiet_op); trace_state; fail))
                refine walkW_nil ?_
                intro w6 b6 hf
                have KG := Lib.hid (store_R (M := MadeW.store n g2 (faultC 0 0) 47) (Lib.hid rfl) ((hf 23 (by kernel_rfl)).1 rfl))
                have KN := Lib.hid (store_R (M := MadeW.store n n (fragC S.fi S.fid S.fo S.fm) 27) (Lib.hid rfl) ((hf 22 (by kernel_rfl)).2.1 rfl))
                have GG := Lib.hid (gots_R H9 (fun A A' h => by simpa using h) ((hf 9 (by kernel_rfl)).2.2.1 rfl))
                have FF := Lib.hid (F3.out.trans b6)
                clear hf b6 hrow hne q0 q1 q6 h25 i25 i26 i27 HF0 H8 H9 h8 h9 K1 K2 F3 HXS
                go_wp2_with fail
                refine ret_six rfl rfl rfl rfl rfl rfl rfl rfl KN.out KG.out Try.underlying27 Try.underlying47 rfl rfl (by kernel_rfl) (by kernel_rfl) ?_
                exact ⟨A9, by rw [HRS.out]; rfl, by rw [HRS.out, ← HN.out]; exact GG.out, by rw [← HN.out]; exact FF.out⟩
end Go.Proofs.Ytbfiakikhkiefaa

import Derived.Test.YtjimmfbjhkoekaaMgU
import Derived.Test.YtjimmfbjhkoekaaMgX
import Derived.Test.YtjimmfbjhkoekaaMgS
import Derived.Test.YtjimmfbjhkoekaaMgO
import Derived.Test.YtjimmfbjhkoekaaMhB
import Derived.Deep.RegionLaw
/- Icmps: a row of options of one's own, each with bytes of its own. -/
namespace Go.Proofs.Ytjimmfbjhkoekaa
open Go.RowKit
set_option maxRecDepth 100000
set_option maxHeartbeats 1000000
/-- A row of options of one's own; where their bytes lie. -/
structure OO (w : World) (n : Nat) (A : Option Addr) (c : Nat) (ol : List Ov) : Prop where
  row : w.ownsRow n 97 2 (.slice A ol.length c) ol.length (ovF ol)
  ok : ∀ x ∈ ol, OvOk w w.heap.size x
  at' : ∀ x ∈ ol, ∀ a, x.A = some a → n ≤ a.block ∧ a.block < w.heap.size ∧ (Value.slice A ol.length c).ownBlock ≠ some a.block ∧ ∃ cur, bk w a.block = some (.cells cur 5 (0, 0))
theorem OO.nil (w : World) (n : Nat) : OO w n none 0 [] := ⟨World.ownsRow_nil _ _ _ _, fun x hx => by simp at hx, fun x hx => by simp at hx⟩
theorem OvOk.turn {F : Nat → Prop} {w w' : World} {x : Ov} (h : OvOk w w.heap.size x) (t : Tn F w w') (hF : ∀ a, x.A = some a → ¬ F a.block) : OvOk w' w'.heap.size x := by
  refine ⟨fun h0 => ?_, h.nil, h.le, h.lt⟩
  obtain ⟨b, o, e, hb, hc⟩ := h.rd h0
  refine ⟨b, o, e, Nat.lt_of_lt_of_le hb t.size, fun j hj => ?_⟩
  rw [← hc j hj]
  exact cell_of_bk (t.old b hb (hF _ e)) _
theorem OO.turn {F : Nat → Prop} {w w' : World} {n c : Nat} {A : Option Addr} {ol : List Ov} (h : OO w n A c ol) (t : Tn F w w') (h1 : ∀ k, (Value.slice A ol.length c).ownBlock = some k → ¬ F k) (h2 : ∀ x ∈ ol, ∀ a, x.A = some a → ¬ F a.block) : OO w' n A c ol :=
  ⟨own_turnG h.row fun k hk => t.old k (h.row.lt k hk).2 (h1 k hk), fun x hx => (h.ok x hx).turn t (h2 x hx), fun x hx a e => by obtain ⟨p, q, r, cur, z⟩ := h.at' x hx a e; exact ⟨p, Nat.lt_of_lt_of_le q t.size, r, cur, t.keep (h2 x hx a e) z⟩⟩
theorem OO.below {w w' : World} {n c : Nat} {A : Option Addr} {ol : List Ov} (h : OO w n A c ol) (hb : Below w.heap.size w w') : OO w' n A c ol :=
  h.turn (Tn.of (F := fun _ => False) hb) (fun _ _ e => e) (fun _ _ _ _ e => e)
theorem OO.turnBelow {F : Nat → Prop} {w w' : World} {n c : Nat} {A : Option Addr} {ol : List Ov} (h : OO w n A c ol) (t : Tn F w w') (hF : ∀ k, F k → k < n) : OO w' n A c ol :=
  h.turn t (fun k hk e => by have := (h.row.lt k hk).1; have := hF k e; omega) (fun x hx a e f => by have := (h.at' x hx a e).1; have := hF _ f; omega)
theorem OO.ovs {w : World} {n c : Nat} {A : Option Addr} {ol : List Ov} (h : OO w n A c ol) : Ovs w w.heap.size A ol ∧ ol.length ≤ c ∧ c < 2 ^ 63 := by
  obtain ⟨h1, _, h3, _⟩ := own_rws h.row
  obtain ⟨A', c', e, h4, h5⟩ := own_slG h.row
  cases e
  exact ⟨⟨h1, h.ok⟩, h3, h5⟩
/-- One option more. -/
theorem OO.snoc {w wb w' : World} {n c c2 : Nat} {A A2 : Option Addr} {ol : List Ov} {x : Ov} (h : OO w n A c ol) (hb : Below w.heap.size w wb) (hx : OvOk wb wb.heap.size x) (hxa : ∀ a, x.A = some a → w.heap.size ≤ a.block ∧ a.block < wb.heap.size ∧ ∃ cur, bk wb a.block = some (.cells cur 5 (0, 0))) (hn : n ≤ w.heap.size)
    (hr : w'.ownsRow n 97 2 (.slice A2 (ol.length + 1) c2) (ol.length + 1) (ovF ol ++ x.row.toList)) (hg : wb.grownBy w' (Value.slice A ol.length c).ownBlock) (ho : (Value.slice A2 (ol.length + 1) c2).ownBlock = (Value.slice A ol.length c).ownBlock ∨ (Value.slice A2 (ol.length + 1) c2).ownBlock = some wb.heap.size) : OO w' n A2 c2 (ol ++ [x]) := by
  have hB := h.below hb
  have t : Tn (fun k => (Value.slice A ol.length c).ownBlock = some k) wb w' := Tn.grown hg fun k e => e
  have hxo : ∀ a, x.A = some a → (Value.slice A ol.length c).ownBlock ≠ some a.block := fun a e f => by
    have := (h.row.lt _ f).2; have := (hxa a e).1; omega
  have el : (ol ++ [x]).length = ol.length + 1 := by simp
  have own : ∀ y ∈ ol ++ [x], ∀ a, y.A = some a → n ≤ a.block ∧ a.block < wb.heap.size ∧ (Value.slice A ol.length c).ownBlock ≠ some a.block ∧ ∃ cur, bk wb a.block = some (.cells cur 5 (0, 0)) := fun y hy a e => by
    rcases List.mem_append.1 hy with hy | hy
    · exact hB.at' y hy a e
    · rw [List.mem_singleton] at hy
      subst hy
      exact ⟨Nat.le_trans hn (hxa a e).1, (hxa a e).2.1, hxo a e, (hxa a e).2.2⟩
  refine ⟨by rw [el, ovF_snoc]; exact hr, fun y hy => ?_, fun y hy a e => ?_⟩
  · have hok : OvOk wb wb.heap.size y := by
      rcases List.mem_append.1 hy with hy | hy
      · exact hB.ok y hy
      · rw [List.mem_singleton] at hy; subst hy; exact hx
    exact hok.turn t fun a e => (own y hy a e).2.2.1
  · obtain ⟨p, q, r, cur, z⟩ := own y hy a e
    refine ⟨p, Nat.lt_of_lt_of_le q t.size, ?_, cur, t.keep r z⟩
    rw [el]
    rcases ho with ho | ho
    · rw [ho]; exact r
    · rw [ho]; intro f; have := Option.some.inj f; omega
theorem wpList_app {w : World} {ops : Array Oper} {rest : List Oper} {o : Oper} {a : Act} {Q : Exit → Act → World → Prop} (hgd : o.guard = none) (s x : Operand)
    (ho : o.op = .call { callee := .builtin .append, args := #[s, x], argTypes := #[27, 27] })
    (n : Nat) (v : Value) (l m : List UInt8) (k : Nat) (hs : a.eval s = v) (hown : Own w n v l) (A : Option Addr) (c : Nat) (hx : a.eval x = .slice A k c) (hk : k = m.length) (hr : Rd w w.heap.size A m) (hA : A = none → m = [] ∧ c = 0) (hn : n ≤ w.heap.size) (hl : l.length + m.length < 2 ^ 46) (N : Nat) (hN : (l ++ m).length = N)
    (h : ∀ A' c' w', Own w' n (.slice A' N c') (l ++ m) → w.grownBy w' v.ownBlock → (∀ k, (Value.slice A' N c').ownBlock = some k → v.ownBlock = some k ∨ w.heap.size ≤ k) → wpList Try.prog ops Q rest (a.put o.dst (.slice A' N c')) w') :
    wpList Try.prog ops Q (o :: rest) a w := by
  subst hk hN
  obtain ⟨v', w', h1, h2, h3, h4⟩ := run_app n v l m hown A c hr hA hn hl o.type
  refine wpList_plain hgd fun K hK => ?_
  unfold Oper.wp execOp
  simp only [ho, resolve, invoke, builtin, Sem.run_bind, Sem.run_pure, Result.andThen_ok, List.map_toArray, List.map_cons, List.map_nil, hs, hx, h1]
  obtain ⟨A', c', rfl, _⟩ := h2.sl
  exact hK _ _ (h _ _ w' h2 h3 h4)
/-- An option of bytes of one's own. -/
theorem Own.ov {w : World} {n c : Nat} {A : Option Addr} {L : List UInt8} (h : Own w n (.slice A L.length c) L) (k : UInt8) : OvOk w w.heap.size ⟨k, A, L, c⟩ ∧ ∀ a, A = some a → n ≤ a.block ∧ a.block < w.heap.size ∧ ∃ cur, bk w a.block = some (.cells cur 5 (0, 0)) := by
  rcases h with ⟨e, rfl⟩ | ⟨g, c', cur, e, hg, hb, h1, h2, h3, h4, _⟩
  · cases e
    exact ⟨⟨Rd.nil, fun _ => ⟨rfl, rfl⟩, Nat.le_refl _, by show (0 : Nat) < _; decide⟩, fun a e => by cases e⟩
  · cases e
    exact ⟨⟨Rd.of_take hb h4 (bk_lt hb), (fun e => by cases e), h1, by unfold maxLen at h3; show c < _; omega⟩, fun a e => by cases e; exact ⟨hg, bk_lt hb, cur, hb⟩⟩
/-- Options of one's own stay where blocks of their types do. -/
theorem OO.kept {m : Nat} {D : List TypeId} {w w' : World} {n c : Nat} {A : Option Addr} {ol : List Ov} (h : OO w n A c ol) (hk : Kept m D w w') (h5 : 5 ∉ D) (hO : 97 ∉ D) : Ovs w' w'.heap.size A ol ∧ ol.length ≤ c ∧ c < 2 ^ 63 := by
  obtain ⟨h1, h2, h3⟩ := h.ovs
  refine ⟨⟨fun h0 => ?_, fun x hx => ?_⟩, h2, h3⟩
  · obtain ⟨g, o, cc, t, fr, e, hlt, hb, hc⟩ := h1.1 h0
    rcases h.row.2 with ⟨e2, hl⟩ | ⟨g', cap, cur, e2, _, hb', _⟩
    · rw [e] at e2; cases e2
    · rw [e] at e2
      cases e2
      have hb2 : bk w g = some (.cells cur 97 (0, 0)) := hb'
      rw [hb2] at hb
      cases hb
      exact ⟨g, _, _, _, _, e, Nat.lt_of_lt_of_le hlt hk.size, hk.row hb2 hO, hc⟩
  · have hx0 := h.ok x hx
    refine ⟨fun h0 => ?_, hx0.nil, hx0.le, hx0.lt⟩
    obtain ⟨b, o, e, hb, hc⟩ := hx0.rd h0
    obtain ⟨_, _, _, cur, hcur⟩ := h.at' x hx _ e
    refine ⟨b, o, e, Nat.lt_of_lt_of_le hb hk.size, fun j hj => ?_⟩
    rw [← hc j hj]
    exact cell_of_bk ((hk.row hcur h5).trans hcur.symm) _
end Go.Proofs.Ytjimmfbjhkoekaa
/- own: what a message's kind has of it: reports, echoes and questions. -/
namespace Go.Proofs.Ytjimmfbjhkoekaa
open Go.RowKit
set_option maxRecDepth 100000
set_option maxHeartbeats 2000000
@[go_sem ↓] theorem ldAdrP (dst : Option Tmp) (x : Operand) (t : TypeId) (pos : String) (af : Array Edge) (g : Option (Nat × Bool)) (a : Act) (w : World) (K : Act → World → Prop) (Q : Exit → Act → World → Prop) :
    Oper.wp Try.prog ⟨dst, .load 23 x, t, pos, af, g⟩ a w K Q = ldPtr (wpHid Try.prog ⟨dst, .load 23 x, t, pos, af, g⟩ a w K Q) 16 w (fun c => K (a.put dst (.agg c)) w) (a.eval x) :=
  wp_load_bk 23 16 _ Try.underlying23 rfl (by kernel_rfl) dst x t pos af g a w K Q
@[go_sem ↓] theorem stAdrP (dst : Option Tmp) (x y : Operand) (t : TypeId) (pos : String) (af : Array Edge) (g : Option (Nat × Bool)) (a : Act) (w : World) (K : Act → World → Prop) (Q : Exit → Act → World → Prop) :
    Oper.wp Try.prog ⟨dst, .store 23 x y, t, pos, af, g⟩ a w K Q = stAt (wpHid Try.prog ⟨dst, .store 23 x y, t, pos, af, g⟩ a w K Q) 16 w (fun w' => K (a.put dst undef) w') (a.eval x) (a.eval y) :=
  wp_store_any 23 16 (by kernel_rfl) dst x y t pos af g a w K Q
@[go_sem ↓] theorem qlAdrP (dst : Option Tmp) (x : Operand) (t : TypeId) (pos : String) (af : Array Edge) (g : Option (Nat × Bool)) (a : Act) (m : Nat) (W : World) (K : Act → Prop) :
    Oper.quiet Try.prog ⟨dst, .load 23 x, t, pos, af, g⟩ a (fun w' => ∃ x : Later m W, w' = x.w) K =
      ldLater (quietHid Try.prog ⟨dst, .load 23 x, t, pos, af, g⟩ a (fun w' => ∃ x : Later m W, w' = x.w) K) m 16 W (fun c => K (a.put dst (.agg c))) (a.eval x) :=
  quiet_load_bk 23 16 _ Try.underlying23 rfl (by kernel_rfl) dst x t pos af g a m W K
/-- Where own stands. -/
structure OwnW (w W : World) (s : Nat) (m mo : Mv) : Prop where
  bl : Below w.heap.size w W
  k1 : bk W s = some (.cells (mC m) 33 (0, 0))
  k2 : bk W (s + 1) = some (.cells (mC (mZ 0 0)) 33 (0, 0))
  k3 : bk W (s + 1 + 1) = some (.cells (mC mo) 33 (0, 0))
  hs : s = w.heap.size
theorem OwnW.set {w W : World} {s j : Nat} {m mo mo' : Mv} {v : Value} (h : OwnW w W s m mo) (e : (mC mo).setIfInBounds j v = mC mo') : OwnW w (W.setCell ⟨s + 1 + 1, j, none⟩ v) s m mo' :=
  ⟨h.bl.setCell (p := ⟨s + 1 + 1, j, none⟩) (by have := h.hs; show _ ≤ s + 1 + 1; omega) v, by rw [bk_setCell_other _ _ _ _ _ (by omega)]; exact h.k1, by rw [bk_setCell_other _ _ _ _ _ (by omega)]; exact h.k2, by rw [bk_setCell_same, h.k3, ← e]; rfl, h.hs⟩
theorem OwnW.row {w W : World} {s : Nat} {m mo mo' : Mv} {c : Array Value} (h : OwnW w W s m mo) (e : c = mC mo') : OwnW w (W.setRow (s + 1 + 1) c) s m mo' := by
  have hs := h.hs
  refine ⟨below_setRow h.bl (by omega) _, by rw [bk_setRow_other _ _ _ _ (by omega)]; exact h.k1, by rw [bk_setRow_other _ _ _ _ (by omega)]; exact h.k2, by rw [bk_setRow_same, h.k3, e]; rfl, h.hs⟩
theorem OwnW.part {w W : World} {s j : Nat} {m mo mo' : Mv} {z : List UInt8} (h : OwnW w W s m mo) (e : spl (mC mo).toList j (z.map B) = mC mo') : OwnW w (W.setRow (s + 1 + 1) (spl (mC mo).toList j (List.map B z).toArray.toList)) s m mo' := h.row e
theorem OwnW.below {w W W' : World} {s : Nat} {m mo : Mv} (h : OwnW w W s m mo) (hb : Below W.heap.size W W') : OwnW w W' s m mo :=
  ⟨h.bl.trans (hb.mono h.bl.size), bk_keep hb (bk_lt h.k1) h.k1, bk_keep hb (bk_lt h.k2) h.k2, bk_keep hb (bk_lt h.k3) h.k3, h.hs⟩
theorem OwnW.turn {F : Nat → Prop} {w W W' : World} {s : Nat} {m mo : Mv} (h : OwnW w W s m mo) (t : Tn F W W') (hF : ∀ k, F k → s + 1 + 1 < k) : OwnW w W' s m mo :=
  ⟨h.bl.trans (t.below (fun k e => by have := hF k e; have := h.hs; omega) h.bl.size), t.keep (fun e => by have := hF _ e; omega) h.k1, t.keep (fun e => by have := hF _ e; omega) h.k2, t.keep (fun e => by have := hF _ e; omega) h.k3, h.hs⟩
/-- What own hands back. -/
def OwnR (m : Mv) (n0 : Nat) (e : Ending) (w w' : World) : Prop := ∃ mo : Mv, e = .returned (.agg (mC mo)) ∧ mo.pl = ownM m.pl ∧ Below w.heap.size w w' ∧ ∀ (D : List TypeId) w'', 5 ∉ D → 97 ∉ D → Kept n0 D w' w'' → MvOk w'' w''.heap.size mo
theorem own_fin {w W : World} {s n0 : Nat} {m mo : Mv} (h : OwnW w W s m mo) (hpl : mo.pl = ownM m.pl) (hn : n0 ≤ w.heap.size) (hok : MvOk w n0 mo) : OwnR m n0 (.returned (.agg (mC mo))) w (W.setRow (s + 1) (mC mo)) := by
  have hs := h.hs
  have b : Below w.heap.size w (W.setRow (s + 1) (mC mo)) := below_setRow h.bl (by omega) _
  refine ⟨mo, rfl, hpl, b, fun D w'' _ _ hk => ?_⟩
  have b2 := (b.mono hn).trans hk.below
  exact (hok.below b2 (Nat.le_refl _)).mono (Nat.le_trans hn b2.size)
theorem own_cell2 {w W : World} {s : Nat} {m mo : Mv} (h : OwnW w W s m mo) : bk (W.setRow (s + 1) (mC mo)) (s + 1) = some (.cells (mC mo) 33 (0, 0)) := by rw [bk_setRow_same, h.k2]; rfl
theorem own_ok130 {w : World} {n : Nat} {m : Mv} (h : MvOk w n m) : MvOk w n { mZ m.kind m.code with mx := m.mx, grp := m.grp, hg := m.hg, rob := m.rob, int := m.int, SA := m.SA, ss := m.ss, sc := m.sc } :=
  ⟨Rd.nil, fun _ => ⟨rfl, rfl⟩, Nat.le_refl _, by show 0 < 2 ^ 63; decide, ⟨Rws.nil, fun x hx => by simp [mZ] at hx⟩, Nat.le_refl _, by show 0 < 2 ^ 63; decide, h.ss, h.s16, h.sl, h.sc, Rws.nil, fun r hr => by simp [mZ] at hr, Nat.le_refl _, by show 0 < 2 ^ 63; decide, by show 0 < 4294967296; decide, by show 0 < 65536; decide, by show 0 < 4294967296; decide, by show 0 < 4294967296; decide, h.b5⟩
theorem own_ok143 {w : World} {n : Nat} {m : Mv} (h : MvOk w n m) : MvOk w n { mZ m.kind m.code with RA := m.RA, rs := m.rs, rc := m.rc } :=
  ⟨Rd.nil, fun _ => ⟨rfl, rfl⟩, Nat.le_refl _, by show 0 < 2 ^ 63; decide, ⟨Rws.nil, fun x hx => by simp [mZ] at hx⟩, Nat.le_refl _, by show 0 < 2 ^ 63; decide, Rws.nil, fun z hz => by simp [mZ] at hz, Nat.le_refl _, by show 0 < 2 ^ 63; decide, h.rs, h.rss, h.rl, h.rc, by show 0 < 4294967296; decide, by show 0 < 65536; decide, by show 0 < 4294967296; decide, by show 0 < 4294967296; decide, by show 0 < 65536; decide⟩
theorem own_okD {w : World} {n : Nat} {m : Mv} (h : MvOk w n m) : MvOk w n { mZ m.kind m.code with param := m.param, DA := m.DA, dd := m.dd, dc := m.dc } :=
  ⟨h.d, h.dn, h.dl, h.dc, ⟨Rws.nil, fun x hx => by simp [mZ] at hx⟩, Nat.le_refl _, by show 0 < 2 ^ 63; decide, Rws.nil, fun z hz => by simp [mZ] at hz, Nat.le_refl _, by show 0 < 2 ^ 63; decide, Rws.nil, fun r hr => by simp [mZ] at hr, Nat.le_refl _, by show 0 < 2 ^ 63; decide, h.b1, by show 0 < 65536; decide, by show 0 < 4294967296; decide, by show 0 < 4294967296; decide, by show 0 < 65536; decide⟩
theorem own130 (m : Mv) (w : World) (n0 : Nat) (hn0 : n0 ≤ w.heap.size) (hok : MvOk w n0 m) (hk : m.kind = 130) : Calls Try.prog 24 #[.agg (mC m)] w fun e w' => OwnR m n0 e w w' := by
  have OK := Lib.hid (hok.mono hn0); have OK0 := Lib.hid hok; have HK := Lib.hid hk; have HN0 := Lib.hid hn0
  clear hok hk hn0
  go_enter Try.func24, Try.ntmps24
  go_upto_region 1 with fail
  obtain ⟨s, hs⟩ : ∃ s, s = w.heap.size := ⟨_, rfl⟩
  generalize hW : World.alloc (World.alloc w _) _ = W
  have a1 : bk W s = some (.cells (mC m) 33 (0, 0)) := by rw [← hW, hs, bk_alloc_past _ _ _ (by simp)]; exact bk_alloc_at _ _ _ rfl
  have a2 : bk W (s + 1) = some (.cells (mC (mZ 0 0)) 33 (0, 0)) := by rw [← hW, hs]; exact (bk_alloc_at _ _ _ (by simp)).trans (by kernel_rfl)
  have b1 : Below w.heap.size w W := by rw [← hW]; exact (by (repeat (first | exact Below.refl _ _ | assumption | refine Below.drew ?_ | refine bdrewN ?_ _ | refine Below.alloc ?_ (by first | omega | (simp <;> omega) | (simp only [World.size_alloc] <;> omega)) _ | refine below_setRow ?_ (by first | omega | (simp <;> omega)) _ | refine Below.setCell ?_ (by first | omega | (simp <;> omega)) _)))
  have z1 : W.heap.size = s + 1 + 1 := by rw [← hW, hs]; simp
  have u0 := (bk_cell a1 0).trans (mC_0 m)
  have u1 := (bk_cell a1 1).trans (mC_1 m)
  have l1 := bk_lt a1
  have A := Lib.hid (And.intro a1 (And.intro a2 (And.intro b1 z1))); have HS := Lib.hid hs; have HZ := Lib.hid z1
  rw [← hs]
  clear a1 a2 b1 z1 hW hs
  go_upto_region 2 with fail
  rw [HZ.out]
  clear u0 l1
  generalize hW : World.alloc W _ = W2
  have P : Hid (OwnW w W2 s m (mZ m.kind m.code)) := Lib.hid (by
    obtain ⟨a1, a2, b1, z1⟩ := A.out
    rw [← hW]
    have b2 : Below W.heap.size W (W.alloc (.cells (mC (mZ m.kind m.code)) 33)) := (by (repeat (first | exact Below.refl _ _ | assumption | refine Below.drew ?_ | refine bdrewN ?_ _ | refine Below.alloc ?_ (by first | omega | (simp <;> omega) | (simp only [World.size_alloc] <;> omega)) _ | refine below_setRow ?_ (by first | omega | (simp <;> omega)) _ | refine Below.setCell ?_ (by first | omega | (simp <;> omega)) _)))
    exact ⟨b1.trans (b2.mono b1.size), bk_keep b2 (bk_lt a1) a1, bk_keep b2 (bk_lt a2) a2, bk_alloc_at _ _ _ z1.symm, HS.out⟩)
  have u0 : W2.cell? ⟨s, 0, none⟩ = some (.int .u8 130) := by rw [bk_cell P.out.k1, mC_0, HK.out]; rfl
  have l1 := bk_lt P.out.k1
  clear u1 hW A HZ
  have us := (bk_cell (P).out.k1 42).trans (mC_42 m)
  have ut := (bk_cell (P).out.k3 42).trans (mC_42 _)
  have fz := bk_frozen (P).out.k3 42
  have lt := bk_lt (P).out.k3
  go_upto_region 14 with fail
  have P3 := Lib.hid ((P).out.set (j := 42) (v := .int .u16 (m.mx : Int)) (sM42 _ _))
  generalize World.setCell W2 ⟨s + 1 + 1, 42, none⟩ (.int .u16 (m.mx : Int)) = W3 at *
  clear us ut fz lt
  replace u0 := (cell_of_bk ((P3).out.k1.trans (P).out.k1.symm) 0).trans u0
  replace l1 := bk_lt (P3).out.k1
  clear P
  have us := (P3).out.k1
  have ut := (P3).out.k3
  have lt := bk_lt (P3).out.k3
  have xs := mC_x43 m
  have sz := mC_size m
  go_upto_region 15 with fail
  refine (stAdrI _ _ _ _ _ _ _ _ _ _ _).mp ?_
  rw [stAdrP]
  show stAny _ 16 W3 (s + 1 + 1) 43 (List.map B m.grp).toArray _ (bk W3 (s + 1 + 1))
  rw [ut, stAny_part _ _ _ _ _ _ _ _ _ (by rw [mC_size]; decide) (by rw [mC_size]; decide) (by simp [m.hg]) (by simp only [ones_map])]
  have P4 := Lib.hid ((P3).out.part (j := 43) (z := m.grp) (sM43 _ _ m.hg))
  generalize World.setRow W3 (s + 1 + 1) _ = W4 at *
  go_upto_region 15 with fail
  clear us ut lt xs sz
  replace u0 := (cell_of_bk ((P4).out.k1.trans (P3).out.k1.symm) 0).trans u0
  replace l1 := bk_lt (P4).out.k1
  clear P3
  have us := (bk_cell (P4).out.k1 59).trans (mC_59 m)
  have ut := (bk_cell (P4).out.k3 59).trans (mC_59 _)
  have fz := bk_frozen (P4).out.k3 59
  have lt := bk_lt (P4).out.k3
  go_upto_region 16 with fail
  have P5 := Lib.hid ((P4).out.set (j := 59) (v := B m.rob) (sM59 _ _))
  generalize World.setCell W4 ⟨s + 1 + 1, 59, none⟩ (B m.rob) = W5 at *
  clear us ut fz lt
  replace u0 := (cell_of_bk ((P5).out.k1.trans (P4).out.k1.symm) 0).trans u0
  replace l1 := bk_lt (P5).out.k1
  clear P4
  have us := (bk_cell (P5).out.k1 60).trans (mC_60 m)
  have ut := (bk_cell (P5).out.k3 60).trans (mC_60 _)
  have fz := bk_frozen (P5).out.k3 60
  have lt := bk_lt (P5).out.k3
  go_upto_region 17 with fail
  have P6 := Lib.hid ((P5).out.set (j := 60) (v := B m.int) (sM60 _ _))
  generalize World.setCell W5 ⟨s + 1 + 1, 60, none⟩ (B m.int) = W6 at *
  clear us ut fz lt
  replace u0 := (cell_of_bk ((P6).out.k1.trans (P5).out.k1.symm) 0).trans u0
  replace l1 := bk_lt (P6).out.k1
  clear P5
  have us := (bk_cell (P6).out.k1 61).trans (mC_61 m)
  have ut := (bk_cell (P6).out.k3 61).trans (mC_61 _)
  have fz := bk_frozen (P6).out.k3 61
  have lt := bk_lt (P6).out.k3
  go_upto_region 18 with fail
  have P7 := Lib.hid ((P6).out.set (j := 61) (v := .slice m.SA m.ss.length m.sc) (sM61 _ _ _ _))
  generalize World.setCell W6 ⟨s + 1 + 1, 61, none⟩ (.slice m.SA m.ss.length m.sc) = W7 at *
  clear us ut fz lt
  replace u0 := (cell_of_bk ((P7).out.k1.trans (P6).out.k1.symm) 0).trans u0
  replace l1 := bk_lt (P7).out.k1
  clear P6
  have FX := Lib.hid (own_fin (P7).out (by (unfold ownM; rw [if_pos (show m.pl.kind = 130 from HK.out)]; rfl)) HN0.out (own_ok130 OK0.out))
  have ut := (P7).out.k3
  have ur := (P7).out.k2
  have lt := bk_lt ut
  have lr := bk_lt ur
  have sz := fun m => mC_size m
  have so := fun m => mC_ones m
  have kf := own_cell2 (P7).out
  go_wp2_with fail
  exact bodyPost_ret (results_cell_row rfl _ _ (s + 1) 33 (mC _) (0, 0) _ rfl kf Try.underlying33 rfl (by rw [mC_size]; kernel_rfl)) rfl FX.out
theorem own143 (m : Mv) (w : World) (n0 : Nat) (hn0 : n0 ≤ w.heap.size) (hok : MvOk w n0 m) (hk : m.kind = 143) : Calls Try.prog 24 #[.agg (mC m)] w fun e w' => OwnR m n0 e w w' := by
  have OK := Lib.hid (hok.mono hn0); have OK0 := Lib.hid hok; have HK := Lib.hid hk; have HN0 := Lib.hid hn0
  clear hok hk hn0
  go_enter Try.func24, Try.ntmps24
  go_upto_region 1 with fail
  obtain ⟨s, hs⟩ : ∃ s, s = w.heap.size := ⟨_, rfl⟩
  generalize hW : World.alloc (World.alloc w _) _ = W
  have a1 : bk W s = some (.cells (mC m) 33 (0, 0)) := by rw [← hW, hs, bk_alloc_past _ _ _ (by simp)]; exact bk_alloc_at _ _ _ rfl
  have a2 : bk W (s + 1) = some (.cells (mC (mZ 0 0)) 33 (0, 0)) := by rw [← hW, hs]; exact (bk_alloc_at _ _ _ (by simp)).trans (by kernel_rfl)
  have b1 : Below w.heap.size w W := by rw [← hW]; exact (by (repeat (first | exact Below.refl _ _ | assumption | refine Below.drew ?_ | refine bdrewN ?_ _ | refine Below.alloc ?_ (by first | omega | (simp <;> omega) | (simp only [World.size_alloc] <;> omega)) _ | refine below_setRow ?_ (by first | omega | (simp <;> omega)) _ | refine Below.setCell ?_ (by first | omega | (simp <;> omega)) _)))
  have z1 : W.heap.size = s + 1 + 1 := by rw [← hW, hs]; simp
  have u0 := (bk_cell a1 0).trans (mC_0 m)
  have u1 := (bk_cell a1 1).trans (mC_1 m)
  have l1 := bk_lt a1
  have A := Lib.hid (And.intro a1 (And.intro a2 (And.intro b1 z1))); have HS := Lib.hid hs; have HZ := Lib.hid z1
  rw [← hs]
  clear a1 a2 b1 z1 hW hs
  go_upto_region 2 with fail
  rw [HZ.out]
  clear u0 l1
  generalize hW : World.alloc W _ = W2
  have P : Hid (OwnW w W2 s m (mZ m.kind m.code)) := Lib.hid (by
    obtain ⟨a1, a2, b1, z1⟩ := A.out
    rw [← hW]
    have b2 : Below W.heap.size W (W.alloc (.cells (mC (mZ m.kind m.code)) 33)) := (by (repeat (first | exact Below.refl _ _ | assumption | refine Below.drew ?_ | refine bdrewN ?_ _ | refine Below.alloc ?_ (by first | omega | (simp <;> omega) | (simp only [World.size_alloc] <;> omega)) _ | refine below_setRow ?_ (by first | omega | (simp <;> omega)) _ | refine Below.setCell ?_ (by first | omega | (simp <;> omega)) _)))
    exact ⟨b1.trans (b2.mono b1.size), bk_keep b2 (bk_lt a1) a1, bk_keep b2 (bk_lt a2) a2, bk_alloc_at _ _ _ z1.symm, HS.out⟩)
  have u0 : W2.cell? ⟨s, 0, none⟩ = some (.int .u8 143) := by rw [bk_cell P.out.k1, mC_0, HK.out]; rfl
  have l1 := bk_lt P.out.k1
  clear u1 hW A HZ
  have us := (bk_cell (P).out.k1 62).trans (mC_62 m)
  have ut := (bk_cell (P).out.k3 62).trans (mC_62 _)
  have fz := bk_frozen (P).out.k3 62
  have lt := bk_lt (P).out.k3
  go_upto_region 21 with fail
  have P3 := Lib.hid ((P).out.set (j := 62) (v := .slice m.RA m.rs.length m.rc) (sM62 _ _ _ _))
  generalize World.setCell W2 ⟨s + 1 + 1, 62, none⟩ (.slice m.RA m.rs.length m.rc) = W3 at *
  clear us ut fz lt
  replace u0 := (cell_of_bk ((P3).out.k1.trans (P).out.k1.symm) 0).trans u0
  replace l1 := bk_lt (P3).out.k1
  clear P
  have FX := Lib.hid (own_fin (P3).out (by (unfold ownM; rw [if_neg (show ¬ m.pl.kind = 130 by rw [show m.pl.kind = m.kind from rfl, HK.out]; decide), if_pos (show m.pl.kind = 143 from HK.out)]; rfl)) HN0.out (own_ok143 OK0.out))
  have ut := (P3).out.k3
  have ur := (P3).out.k2
  have lt := bk_lt ut
  have lr := bk_lt ur
  have sz := fun m => mC_size m
  have so := fun m => mC_ones m
  have kf := own_cell2 (P3).out
  go_wp2_with fail
  exact bodyPost_ret (results_cell_row rfl _ _ (s + 1) 33 (mC _) (0, 0) _ rfl kf Try.underlying33 rfl (by rw [mC_size]; kernel_rfl)) rfl FX.out
theorem own_pl {m : Mv} {k : UInt8} (h : m.kind = k) (h1 : k ≠ 130 ∧ k ≠ 143 ∧ k ≠ 134 ∧ k ≠ 133 ∧ k ≠ 135 ∧ k ≠ 136 ∧ k ≠ 137 := by decide) : ({ mZ m.kind m.code with param := m.param, DA := m.DA, dd := m.dd, dc := m.dc } : Mv).pl = ownM m.pl := by
  have e : m.pl.kind = k := h
  unfold ownM
  rw [e, if_neg h1.1, if_neg h1.2.1, if_neg h1.2.2.1, if_neg h1.2.2.2.1, if_neg h1.2.2.2.2.1, if_neg h1.2.2.2.2.2.1, if_neg h1.2.2.2.2.2.2]
  subst h
  rfl
theorem own1 (m : Mv) (w : World) (n0 : Nat) (hn0 : n0 ≤ w.heap.size) (hok : MvOk w n0 m) (hk : m.kind = 1) : Calls Try.prog 24 #[.agg (mC m)] w fun e w' => OwnR m n0 e w w' := by
  have OK := Lib.hid (hok.mono hn0); have OK0 := Lib.hid hok; have HK := Lib.hid hk; have HN0 := Lib.hid hn0
  clear hok hk hn0
  go_enter Try.func24, Try.ntmps24
  go_upto_region 1 with fail
  obtain ⟨s, hs⟩ : ∃ s, s = w.heap.size := ⟨_, rfl⟩
  generalize hW : World.alloc (World.alloc w _) _ = W
  have a1 : bk W s = some (.cells (mC m) 33 (0, 0)) := by rw [← hW, hs, bk_alloc_past _ _ _ (by simp)]; exact bk_alloc_at _ _ _ rfl
  have a2 : bk W (s + 1) = some (.cells (mC (mZ 0 0)) 33 (0, 0)) := by rw [← hW, hs]; exact (bk_alloc_at _ _ _ (by simp)).trans (by kernel_rfl)
  have b1 : Below w.heap.size w W := by rw [← hW]; exact (by (repeat (first | exact Below.refl _ _ | assumption | refine Below.drew ?_ | refine bdrewN ?_ _ | refine Below.alloc ?_ (by first | omega | (simp <;> omega) | (simp only [World.size_alloc] <;> omega)) _ | refine below_setRow ?_ (by first | omega | (simp <;> omega)) _ | refine Below.setCell ?_ (by first | omega | (simp <;> omega)) _)))
  have z1 : W.heap.size = s + 1 + 1 := by rw [← hW, hs]; simp
  have u0 := (bk_cell a1 0).trans (mC_0 m)
  have u1 := (bk_cell a1 1).trans (mC_1 m)
  have l1 := bk_lt a1
  have A := Lib.hid (And.intro a1 (And.intro a2 (And.intro b1 z1))); have HS := Lib.hid hs; have HZ := Lib.hid z1
  rw [← hs]
  clear a1 a2 b1 z1 hW hs
  go_upto_region 2 with fail
  rw [HZ.out]
  clear u0 l1
  generalize hW : World.alloc W _ = W2
  have P : Hid (OwnW w W2 s m (mZ m.kind m.code)) := Lib.hid (by
    obtain ⟨a1, a2, b1, z1⟩ := A.out
    rw [← hW]
    have b2 : Below W.heap.size W (W.alloc (.cells (mC (mZ m.kind m.code)) 33)) := (by (repeat (first | exact Below.refl _ _ | assumption | refine Below.drew ?_ | refine bdrewN ?_ _ | refine Below.alloc ?_ (by first | omega | (simp <;> omega) | (simp only [World.size_alloc] <;> omega)) _ | refine below_setRow ?_ (by first | omega | (simp <;> omega)) _ | refine Below.setCell ?_ (by first | omega | (simp <;> omega)) _)))
    exact ⟨b1.trans (b2.mono b1.size), bk_keep b2 (bk_lt a1) a1, bk_keep b2 (bk_lt a2) a2, bk_alloc_at _ _ _ z1.symm, HS.out⟩)
  have u0 : W2.cell? ⟨s, 0, none⟩ = some (.int .u8 1) := by rw [bk_cell P.out.k1, mC_0, HK.out]; rfl
  have l1 := bk_lt P.out.k1
  clear u1 hW A HZ
  have us := (bk_cell (P).out.k1 2).trans (mC_2 m)
  have ut := (bk_cell (P).out.k3 2).trans (mC_2 _)
  have fz := bk_frozen (P).out.k3 2
  have lt := bk_lt (P).out.k3
  go_upto_region 10 with fail
  have P3 := Lib.hid ((P).out.set (j := 2) (v := .int .u32 (m.param : Int)) (sM2 _ _))
  generalize World.setCell W2 ⟨s + 1 + 1, 2, none⟩ (.int .u32 (m.param : Int)) = W3 at *
  clear us ut fz lt
  replace u0 := (cell_of_bk ((P3).out.k1.trans (P).out.k1.symm) 0).trans u0
  replace l1 := bk_lt (P3).out.k1
  clear P
  have us := (bk_cell (P3).out.k1 3).trans (mC_3 m)
  have ut := (bk_cell (P3).out.k3 3).trans (mC_3 _)
  have fz := bk_frozen (P3).out.k3 3
  have lt := bk_lt (P3).out.k3
  go_upto_region 11 with fail
  have P4 := Lib.hid ((P3).out.set (j := 3) (v := .slice m.DA m.dd.length m.dc) (sM3 _ _ _ _))
  generalize World.setCell W3 ⟨s + 1 + 1, 3, none⟩ (.slice m.DA m.dd.length m.dc) = W4 at *
  clear us ut fz lt
  replace u0 := (cell_of_bk ((P4).out.k1.trans (P3).out.k1.symm) 0).trans u0
  replace l1 := bk_lt (P4).out.k1
  clear P3
  have FX := Lib.hid (own_fin (P4).out (by exact own_pl HK.out) HN0.out (own_okD OK0.out))
  have ut := (P4).out.k3
  have ur := (P4).out.k2
  have lt := bk_lt ut
  have lr := bk_lt ur
  have sz := fun m => mC_size m
  have so := fun m => mC_ones m
  have kf := own_cell2 (P4).out
  go_wp2_with fail
  exact bodyPost_ret (results_cell_row rfl _ _ (s + 1) 33 (mC _) (0, 0) _ rfl kf Try.underlying33 rfl (by rw [mC_size]; kernel_rfl)) rfl FX.out
theorem own2 (m : Mv) (w : World) (n0 : Nat) (hn0 : n0 ≤ w.heap.size) (hok : MvOk w n0 m) (hk : m.kind = 2) : Calls Try.prog 24 #[.agg (mC m)] w fun e w' => OwnR m n0 e w w' := by
  have OK := Lib.hid (hok.mono hn0); have OK0 := Lib.hid hok; have HK := Lib.hid hk; have HN0 := Lib.hid hn0
  clear hok hk hn0
  go_enter Try.func24, Try.ntmps24
  go_upto_region 1 with fail
  obtain ⟨s, hs⟩ : ∃ s, s = w.heap.size := ⟨_, rfl⟩
  generalize hW : World.alloc (World.alloc w _) _ = W
  have a1 : bk W s = some (.cells (mC m) 33 (0, 0)) := by rw [← hW, hs, bk_alloc_past _ _ _ (by simp)]; exact bk_alloc_at _ _ _ rfl
  have a2 : bk W (s + 1) = some (.cells (mC (mZ 0 0)) 33 (0, 0)) := by rw [← hW, hs]; exact (bk_alloc_at _ _ _ (by simp)).trans (by kernel_rfl)
  have b1 : Below w.heap.size w W := by rw [← hW]; exact (by (repeat (first | exact Below.refl _ _ | assumption | refine Below.drew ?_ | refine bdrewN ?_ _ | refine Below.alloc ?_ (by first | omega | (simp <;> omega) | (simp only [World.size_alloc] <;> omega)) _ | refine below_setRow ?_ (by first | omega | (simp <;> omega)) _ | refine Below.setCell ?_ (by first | omega | (simp <;> omega)) _)))
  have z1 : W.heap.size = s + 1 + 1 := by rw [← hW, hs]; simp
  have u0 := (bk_cell a1 0).trans (mC_0 m)
  have u1 := (bk_cell a1 1).trans (mC_1 m)
  have l1 := bk_lt a1
  have A := Lib.hid (And.intro a1 (And.intro a2 (And.intro b1 z1))); have HS := Lib.hid hs; have HZ := Lib.hid z1
  rw [← hs]
  clear a1 a2 b1 z1 hW hs
  go_upto_region 2 with fail
  rw [HZ.out]
  clear u0 l1
  generalize hW : World.alloc W _ = W2
  have P : Hid (OwnW w W2 s m (mZ m.kind m.code)) := Lib.hid (by
    obtain ⟨a1, a2, b1, z1⟩ := A.out
    rw [← hW]
    have b2 : Below W.heap.size W (W.alloc (.cells (mC (mZ m.kind m.code)) 33)) := (by (repeat (first | exact Below.refl _ _ | assumption | refine Below.drew ?_ | refine bdrewN ?_ _ | refine Below.alloc ?_ (by first | omega | (simp <;> omega) | (simp only [World.size_alloc] <;> omega)) _ | refine below_setRow ?_ (by first | omega | (simp <;> omega)) _ | refine Below.setCell ?_ (by first | omega | (simp <;> omega)) _)))
    exact ⟨b1.trans (b2.mono b1.size), bk_keep b2 (bk_lt a1) a1, bk_keep b2 (bk_lt a2) a2, bk_alloc_at _ _ _ z1.symm, HS.out⟩)
  have u0 : W2.cell? ⟨s, 0, none⟩ = some (.int .u8 2) := by rw [bk_cell P.out.k1, mC_0, HK.out]; rfl
  have l1 := bk_lt P.out.k1
  clear u1 hW A HZ
  have us := (bk_cell (P).out.k1 2).trans (mC_2 m)
  have ut := (bk_cell (P).out.k3 2).trans (mC_2 _)
  have fz := bk_frozen (P).out.k3 2
  have lt := bk_lt (P).out.k3
  go_upto_region 10 with fail
  have P3 := Lib.hid ((P).out.set (j := 2) (v := .int .u32 (m.param : Int)) (sM2 _ _))
  generalize World.setCell W2 ⟨s + 1 + 1, 2, none⟩ (.int .u32 (m.param : Int)) = W3 at *
  clear us ut fz lt
  replace u0 := (cell_of_bk ((P3).out.k1.trans (P).out.k1.symm) 0).trans u0
  replace l1 := bk_lt (P3).out.k1
  clear P
  have us := (bk_cell (P3).out.k1 3).trans (mC_3 m)
  have ut := (bk_cell (P3).out.k3 3).trans (mC_3 _)
  have fz := bk_frozen (P3).out.k3 3
  have lt := bk_lt (P3).out.k3
  go_upto_region 11 with fail
  have P4 := Lib.hid ((P3).out.set (j := 3) (v := .slice m.DA m.dd.length m.dc) (sM3 _ _ _ _))
  generalize World.setCell W3 ⟨s + 1 + 1, 3, none⟩ (.slice m.DA m.dd.length m.dc) = W4 at *
  clear us ut fz lt
  replace u0 := (cell_of_bk ((P4).out.k1.trans (P3).out.k1.symm) 0).trans u0
  replace l1 := bk_lt (P4).out.k1
  clear P3
  have FX := Lib.hid (own_fin (P4).out (by exact own_pl HK.out) HN0.out (own_okD OK0.out))
  have ut := (P4).out.k3
  have ur := (P4).out.k2
  have lt := bk_lt ut
  have lr := bk_lt ur
  have sz := fun m => mC_size m
  have so := fun m => mC_ones m
  have kf := own_cell2 (P4).out
  go_wp2_with fail
  exact bodyPost_ret (results_cell_row rfl _ _ (s + 1) 33 (mC _) (0, 0) _ rfl kf Try.underlying33 rfl (by rw [mC_size]; kernel_rfl)) rfl FX.out
theorem own3 (m : Mv) (w : World) (n0 : Nat) (hn0 : n0 ≤ w.heap.size) (hok : MvOk w n0 m) (hk : m.kind = 3) : Calls Try.prog 24 #[.agg (mC m)] w fun e w' => OwnR m n0 e w w' := by
  have OK := Lib.hid (hok.mono hn0); have OK0 := Lib.hid hok; have HK := Lib.hid hk; have HN0 := Lib.hid hn0
  clear hok hk hn0
  go_enter Try.func24, Try.ntmps24
  go_upto_region 1 with fail
  obtain ⟨s, hs⟩ : ∃ s, s = w.heap.size := ⟨_, rfl⟩
  generalize hW : World.alloc (World.alloc w _) _ = W
  have a1 : bk W s = some (.cells (mC m) 33 (0, 0)) := by rw [← hW, hs, bk_alloc_past _ _ _ (by simp)]; exact bk_alloc_at _ _ _ rfl
  have a2 : bk W (s + 1) = some (.cells (mC (mZ 0 0)) 33 (0, 0)) := by rw [← hW, hs]; exact (bk_alloc_at _ _ _ (by simp)).trans (by kernel_rfl)
  have b1 : Below w.heap.size w W := by rw [← hW]; exact (by (repeat (first | exact Below.refl _ _ | assumption | refine Below.drew ?_ | refine bdrewN ?_ _ | refine Below.alloc ?_ (by first | omega | (simp <;> omega) | (simp only [World.size_alloc] <;> omega)) _ | refine below_setRow ?_ (by first | omega | (simp <;> omega)) _ | refine Below.setCell ?_ (by first | omega | (simp <;> omega)) _)))
  have z1 : W.heap.size = s + 1 + 1 := by rw [← hW, hs]; simp
  have u0 := (bk_cell a1 0).trans (mC_0 m)
  have u1 := (bk_cell a1 1).trans (mC_1 m)
  have l1 := bk_lt a1
  have A := Lib.hid (And.intro a1 (And.intro a2 (And.intro b1 z1))); have HS := Lib.hid hs; have HZ := Lib.hid z1
  rw [← hs]
  clear a1 a2 b1 z1 hW hs
  go_upto_region 2 with fail
  rw [HZ.out]
  clear u0 l1
  generalize hW : World.alloc W _ = W2
  have P : Hid (OwnW w W2 s m (mZ m.kind m.code)) := Lib.hid (by
    obtain ⟨a1, a2, b1, z1⟩ := A.out
    rw [← hW]
    have b2 : Below W.heap.size W (W.alloc (.cells (mC (mZ m.kind m.code)) 33)) := (by (repeat (first | exact Below.refl _ _ | assumption | refine Below.drew ?_ | refine bdrewN ?_ _ | refine Below.alloc ?_ (by first | omega | (simp <;> omega) | (simp only [World.size_alloc] <;> omega)) _ | refine below_setRow ?_ (by first | omega | (simp <;> omega)) _ | refine Below.setCell ?_ (by first | omega | (simp <;> omega)) _)))
    exact ⟨b1.trans (b2.mono b1.size), bk_keep b2 (bk_lt a1) a1, bk_keep b2 (bk_lt a2) a2, bk_alloc_at _ _ _ z1.symm, HS.out⟩)
  have u0 : W2.cell? ⟨s, 0, none⟩ = some (.int .u8 3) := by rw [bk_cell P.out.k1, mC_0, HK.out]; rfl
  have l1 := bk_lt P.out.k1
  clear u1 hW A HZ
  have us := (bk_cell (P).out.k1 2).trans (mC_2 m)
  have ut := (bk_cell (P).out.k3 2).trans (mC_2 _)
  have fz := bk_frozen (P).out.k3 2
  have lt := bk_lt (P).out.k3
  go_upto_region 10 with fail
  have P3 := Lib.hid ((P).out.set (j := 2) (v := .int .u32 (m.param : Int)) (sM2 _ _))
  generalize World.setCell W2 ⟨s + 1 + 1, 2, none⟩ (.int .u32 (m.param : Int)) = W3 at *
  clear us ut fz lt
  replace u0 := (cell_of_bk ((P3).out.k1.trans (P).out.k1.symm) 0).trans u0
  replace l1 := bk_lt (P3).out.k1
  clear P
  have us := (bk_cell (P3).out.k1 3).trans (mC_3 m)
  have ut := (bk_cell (P3).out.k3 3).trans (mC_3 _)
  have fz := bk_frozen (P3).out.k3 3
  have lt := bk_lt (P3).out.k3
  go_upto_region 11 with fail
  have P4 := Lib.hid ((P3).out.set (j := 3) (v := .slice m.DA m.dd.length m.dc) (sM3 _ _ _ _))
  generalize World.setCell W3 ⟨s + 1 + 1, 3, none⟩ (.slice m.DA m.dd.length m.dc) = W4 at *
  clear us ut fz lt
  replace u0 := (cell_of_bk ((P4).out.k1.trans (P3).out.k1.symm) 0).trans u0
  replace l1 := bk_lt (P4).out.k1
  clear P3
  have FX := Lib.hid (own_fin (P4).out (by exact own_pl HK.out) HN0.out (own_okD OK0.out))
  have ut := (P4).out.k3
  have ur := (P4).out.k2
  have lt := bk_lt ut
  have lr := bk_lt ur
  have sz := fun m => mC_size m
  have so := fun m => mC_ones m
  have kf := own_cell2 (P4).out
  go_wp2_with fail
  exact bodyPost_ret (results_cell_row rfl _ _ (s + 1) 33 (mC _) (0, 0) _ rfl kf Try.underlying33 rfl (by rw [mC_size]; kernel_rfl)) rfl FX.out
theorem own4 (m : Mv) (w : World) (n0 : Nat) (hn0 : n0 ≤ w.heap.size) (hok : MvOk w n0 m) (hk : m.kind = 4) : Calls Try.prog 24 #[.agg (mC m)] w fun e w' => OwnR m n0 e w w' := by
  have OK := Lib.hid (hok.mono hn0); have OK0 := Lib.hid hok; have HK := Lib.hid hk; have HN0 := Lib.hid hn0
  clear hok hk hn0
  go_enter Try.func24, Try.ntmps24
  go_upto_region 1 with fail
  obtain ⟨s, hs⟩ : ∃ s, s = w.heap.size := ⟨_, rfl⟩
  generalize hW : World.alloc (World.alloc w _) _ = W
  have a1 : bk W s = some (.cells (mC m) 33 (0, 0)) := by rw [← hW, hs, bk_alloc_past _ _ _ (by simp)]; exact bk_alloc_at _ _ _ rfl
  have a2 : bk W (s + 1) = some (.cells (mC (mZ 0 0)) 33 (0, 0)) := by rw [← hW, hs]; exact (bk_alloc_at _ _ _ (by simp)).trans (by kernel_rfl)
  have b1 : Below w.heap.size w W := by rw [← hW]; exact (by (repeat (first | exact Below.refl _ _ | assumption | refine Below.drew ?_ | refine bdrewN ?_ _ | refine Below.alloc ?_ (by first | omega | (simp <;> omega) | (simp only [World.size_alloc] <;> omega)) _ | refine below_setRow ?_ (by first | omega | (simp <;> omega)) _ | refine Below.setCell ?_ (by first | omega | (simp <;> omega)) _)))
  have z1 : W.heap.size = s + 1 + 1 := by rw [← hW, hs]; simp
  have u0 := (bk_cell a1 0).trans (mC_0 m)
  have u1 := (bk_cell a1 1).trans (mC_1 m)
  have l1 := bk_lt a1
  have A := Lib.hid (And.intro a1 (And.intro a2 (And.intro b1 z1))); have HS := Lib.hid hs; have HZ := Lib.hid z1
  rw [← hs]
  clear a1 a2 b1 z1 hW hs
  go_upto_region 2 with fail
  rw [HZ.out]
  clear u0 l1
  generalize hW : World.alloc W _ = W2
  have P : Hid (OwnW w W2 s m (mZ m.kind m.code)) := Lib.hid (by
    obtain ⟨a1, a2, b1, z1⟩ := A.out
    rw [← hW]
    have b2 : Below W.heap.size W (W.alloc (.cells (mC (mZ m.kind m.code)) 33)) := (by (repeat (first | exact Below.refl _ _ | assumption | refine Below.drew ?_ | refine bdrewN ?_ _ | refine Below.alloc ?_ (by first | omega | (simp <;> omega) | (simp only [World.size_alloc] <;> omega)) _ | refine below_setRow ?_ (by first | omega | (simp <;> omega)) _ | refine Below.setCell ?_ (by first | omega | (simp <;> omega)) _)))
    exact ⟨b1.trans (b2.mono b1.size), bk_keep b2 (bk_lt a1) a1, bk_keep b2 (bk_lt a2) a2, bk_alloc_at _ _ _ z1.symm, HS.out⟩)
  have u0 : W2.cell? ⟨s, 0, none⟩ = some (.int .u8 4) := by rw [bk_cell P.out.k1, mC_0, HK.out]; rfl
  have l1 := bk_lt P.out.k1
  clear u1 hW A HZ
  have us := (bk_cell (P).out.k1 2).trans (mC_2 m)
  have ut := (bk_cell (P).out.k3 2).trans (mC_2 _)
  have fz := bk_frozen (P).out.k3 2
  have lt := bk_lt (P).out.k3
  go_upto_region 10 with fail
  have P3 := Lib.hid ((P).out.set (j := 2) (v := .int .u32 (m.param : Int)) (sM2 _ _))
  generalize World.setCell W2 ⟨s + 1 + 1, 2, none⟩ (.int .u32 (m.param : Int)) = W3 at *
  clear us ut fz lt
  replace u0 := (cell_of_bk ((P3).out.k1.trans (P).out.k1.symm) 0).trans u0
  replace l1 := bk_lt (P3).out.k1
  clear P
  have us := (bk_cell (P3).out.k1 3).trans (mC_3 m)
  have ut := (bk_cell (P3).out.k3 3).trans (mC_3 _)
  have fz := bk_frozen (P3).out.k3 3
  have lt := bk_lt (P3).out.k3
  go_upto_region 11 with fail
  have P4 := Lib.hid ((P3).out.set (j := 3) (v := .slice m.DA m.dd.length m.dc) (sM3 _ _ _ _))
  generalize World.setCell W3 ⟨s + 1 + 1, 3, none⟩ (.slice m.DA m.dd.length m.dc) = W4 at *
  clear us ut fz lt
  replace u0 := (cell_of_bk ((P4).out.k1.trans (P3).out.k1.symm) 0).trans u0
  replace l1 := bk_lt (P4).out.k1
  clear P3
  have FX := Lib.hid (own_fin (P4).out (by exact own_pl HK.out) HN0.out (own_okD OK0.out))
  have ut := (P4).out.k3
  have ur := (P4).out.k2
  have lt := bk_lt ut
  have lr := bk_lt ur
  have sz := fun m => mC_size m
  have so := fun m => mC_ones m
  have kf := own_cell2 (P4).out
  go_wp2_with fail
  exact bodyPost_ret (results_cell_row rfl _ _ (s + 1) 33 (mC _) (0, 0) _ rfl kf Try.underlying33 rfl (by rw [mC_size]; kernel_rfl)) rfl FX.out
theorem own128 (m : Mv) (w : World) (n0 : Nat) (hn0 : n0 ≤ w.heap.size) (hok : MvOk w n0 m) (hk : m.kind = 128) : Calls Try.prog 24 #[.agg (mC m)] w fun e w' => OwnR m n0 e w w' := by
  have OK := Lib.hid (hok.mono hn0); have OK0 := Lib.hid hok; have HK := Lib.hid hk; have HN0 := Lib.hid hn0
  clear hok hk hn0
  go_enter Try.func24, Try.ntmps24
  go_upto_region 1 with fail
  obtain ⟨s, hs⟩ : ∃ s, s = w.heap.size := ⟨_, rfl⟩
  generalize hW : World.alloc (World.alloc w _) _ = W
  have a1 : bk W s = some (.cells (mC m) 33 (0, 0)) := by rw [← hW, hs, bk_alloc_past _ _ _ (by simp)]; exact bk_alloc_at _ _ _ rfl
  have a2 : bk W (s + 1) = some (.cells (mC (mZ 0 0)) 33 (0, 0)) := by rw [← hW, hs]; exact (bk_alloc_at _ _ _ (by simp)).trans (by kernel_rfl)
  have b1 : Below w.heap.size w W := by rw [← hW]; exact (by (repeat (first | exact Below.refl _ _ | assumption | refine Below.drew ?_ | refine bdrewN ?_ _ | refine Below.alloc ?_ (by first | omega | (simp <;> omega) | (simp only [World.size_alloc] <;> omega)) _ | refine below_setRow ?_ (by first | omega | (simp <;> omega)) _ | refine Below.setCell ?_ (by first | omega | (simp <;> omega)) _)))
  have z1 : W.heap.size = s + 1 + 1 := by rw [← hW, hs]; simp
  have u0 := (bk_cell a1 0).trans (mC_0 m)
  have u1 := (bk_cell a1 1).trans (mC_1 m)
  have l1 := bk_lt a1
  have A := Lib.hid (And.intro a1 (And.intro a2 (And.intro b1 z1))); have HS := Lib.hid hs; have HZ := Lib.hid z1
  rw [← hs]
  clear a1 a2 b1 z1 hW hs
  go_upto_region 2 with fail
  rw [HZ.out]
  clear u0 l1
  generalize hW : World.alloc W _ = W2
  have P : Hid (OwnW w W2 s m (mZ m.kind m.code)) := Lib.hid (by
    obtain ⟨a1, a2, b1, z1⟩ := A.out
    rw [← hW]
    have b2 : Below W.heap.size W (W.alloc (.cells (mC (mZ m.kind m.code)) 33)) := (by (repeat (first | exact Below.refl _ _ | assumption | refine Below.drew ?_ | refine bdrewN ?_ _ | refine Below.alloc ?_ (by first | omega | (simp <;> omega) | (simp only [World.size_alloc] <;> omega)) _ | refine below_setRow ?_ (by first | omega | (simp <;> omega)) _ | refine Below.setCell ?_ (by first | omega | (simp <;> omega)) _)))
    exact ⟨b1.trans (b2.mono b1.size), bk_keep b2 (bk_lt a1) a1, bk_keep b2 (bk_lt a2) a2, bk_alloc_at _ _ _ z1.symm, HS.out⟩)
  have u0 : W2.cell? ⟨s, 0, none⟩ = some (.int .u8 128) := by rw [bk_cell P.out.k1, mC_0, HK.out]; rfl
  have l1 := bk_lt P.out.k1
  clear u1 hW A HZ
  have us := (bk_cell (P).out.k1 2).trans (mC_2 m)
  have ut := (bk_cell (P).out.k3 2).trans (mC_2 _)
  have fz := bk_frozen (P).out.k3 2
  have lt := bk_lt (P).out.k3
  go_upto_region 10 with fail
  have P3 := Lib.hid ((P).out.set (j := 2) (v := .int .u32 (m.param : Int)) (sM2 _ _))
  generalize World.setCell W2 ⟨s + 1 + 1, 2, none⟩ (.int .u32 (m.param : Int)) = W3 at *
  clear us ut fz lt
  replace u0 := (cell_of_bk ((P3).out.k1.trans (P).out.k1.symm) 0).trans u0
  replace l1 := bk_lt (P3).out.k1
  clear P
  have us := (bk_cell (P3).out.k1 3).trans (mC_3 m)
  have ut := (bk_cell (P3).out.k3 3).trans (mC_3 _)
  have fz := bk_frozen (P3).out.k3 3
  have lt := bk_lt (P3).out.k3
  go_upto_region 11 with fail
  have P4 := Lib.hid ((P3).out.set (j := 3) (v := .slice m.DA m.dd.length m.dc) (sM3 _ _ _ _))
  generalize World.setCell W3 ⟨s + 1 + 1, 3, none⟩ (.slice m.DA m.dd.length m.dc) = W4 at *
  clear us ut fz lt
  replace u0 := (cell_of_bk ((P4).out.k1.trans (P3).out.k1.symm) 0).trans u0
  replace l1 := bk_lt (P4).out.k1
  clear P3
  have FX := Lib.hid (own_fin (P4).out (by exact own_pl HK.out) HN0.out (own_okD OK0.out))
  have ut := (P4).out.k3
  have ur := (P4).out.k2
  have lt := bk_lt ut
  have lr := bk_lt ur
  have sz := fun m => mC_size m
  have so := fun m => mC_ones m
  have kf := own_cell2 (P4).out
  go_wp2_with fail
  exact bodyPost_ret (results_cell_row rfl _ _ (s + 1) 33 (mC _) (0, 0) _ rfl kf Try.underlying33 rfl (by rw [mC_size]; kernel_rfl)) rfl FX.out
theorem own129 (m : Mv) (w : World) (n0 : Nat) (hn0 : n0 ≤ w.heap.size) (hok : MvOk w n0 m) (hk : m.kind = 129) : Calls Try.prog 24 #[.agg (mC m)] w fun e w' => OwnR m n0 e w w' := by
  have OK := Lib.hid (hok.mono hn0); have OK0 := Lib.hid hok; have HK := Lib.hid hk; have HN0 := Lib.hid hn0
  clear hok hk hn0
  go_enter Try.func24, Try.ntmps24
  go_upto_region 1 with fail
  obtain ⟨s, hs⟩ : ∃ s, s = w.heap.size := ⟨_, rfl⟩
  generalize hW : World.alloc (World.alloc w _) _ = W
  have a1 : bk W s = some (.cells (mC m) 33 (0, 0)) := by rw [← hW, hs, bk_alloc_past _ _ _ (by simp)]; exact bk_alloc_at _ _ _ rfl
  have a2 : bk W (s + 1) = some (.cells (mC (mZ 0 0)) 33 (0, 0)) := by rw [← hW, hs]; exact (bk_alloc_at _ _ _ (by simp)).trans (by kernel_rfl)
  have b1 : Below w.heap.size w W := by rw [← hW]; exact (by (repeat (first | exact Below.refl _ _ | assumption | refine Below.drew ?_ | refine bdrewN ?_ _ | refine Below.alloc ?_ (by first | omega | (simp <;> omega) | (simp only [World.size_alloc] <;> omega)) _ | refine below_setRow ?_ (by first | omega | (simp <;> omega)) _ | refine Below.setCell ?_ (by first | omega | (simp <;> omega)) _)))
  have z1 : W.heap.size = s + 1 + 1 := by rw [← hW, hs]; simp
  have u0 := (bk_cell a1 0).trans (mC_0 m)
  have u1 := (bk_cell a1 1).trans (mC_1 m)
  have l1 := bk_lt a1
  have A := Lib.hid (And.intro a1 (And.intro a2 (And.intro b1 z1))); have HS := Lib.hid hs; have HZ := Lib.hid z1
  rw [← hs]
  clear a1 a2 b1 z1 hW hs
  go_upto_region 2 with fail
  rw [HZ.out]
  clear u0 l1
  generalize hW : World.alloc W _ = W2
  have P : Hid (OwnW w W2 s m (mZ m.kind m.code)) := Lib.hid (by
    obtain ⟨a1, a2, b1, z1⟩ := A.out
    rw [← hW]
    have b2 : Below W.heap.size W (W.alloc (.cells (mC (mZ m.kind m.code)) 33)) := (by (repeat (first | exact Below.refl _ _ | assumption | refine Below.drew ?_ | refine bdrewN ?_ _ | refine Below.alloc ?_ (by first | omega | (simp <;> omega) | (simp only [World.size_alloc] <;> omega)) _ | refine below_setRow ?_ (by first | omega | (simp <;> omega)) _ | refine Below.setCell ?_ (by first | omega | (simp <;> omega)) _)))
    exact ⟨b1.trans (b2.mono b1.size), bk_keep b2 (bk_lt a1) a1, bk_keep b2 (bk_lt a2) a2, bk_alloc_at _ _ _ z1.symm, HS.out⟩)
  have u0 : W2.cell? ⟨s, 0, none⟩ = some (.int .u8 129) := by rw [bk_cell P.out.k1, mC_0, HK.out]; rfl
  have l1 := bk_lt P.out.k1
  clear u1 hW A HZ
  have us := (bk_cell (P).out.k1 2).trans (mC_2 m)
  have ut := (bk_cell (P).out.k3 2).trans (mC_2 _)
  have fz := bk_frozen (P).out.k3 2
  have lt := bk_lt (P).out.k3
  go_upto_region 10 with fail
  have P3 := Lib.hid ((P).out.set (j := 2) (v := .int .u32 (m.param : Int)) (sM2 _ _))
  generalize World.setCell W2 ⟨s + 1 + 1, 2, none⟩ (.int .u32 (m.param : Int)) = W3 at *
  clear us ut fz lt
  replace u0 := (cell_of_bk ((P3).out.k1.trans (P).out.k1.symm) 0).trans u0
  replace l1 := bk_lt (P3).out.k1
  clear P
  have us := (bk_cell (P3).out.k1 3).trans (mC_3 m)
  have ut := (bk_cell (P3).out.k3 3).trans (mC_3 _)
  have fz := bk_frozen (P3).out.k3 3
  have lt := bk_lt (P3).out.k3
  go_upto_region 11 with fail
  have P4 := Lib.hid ((P3).out.set (j := 3) (v := .slice m.DA m.dd.length m.dc) (sM3 _ _ _ _))
  generalize World.setCell W3 ⟨s + 1 + 1, 3, none⟩ (.slice m.DA m.dd.length m.dc) = W4 at *
  clear us ut fz lt
  replace u0 := (cell_of_bk ((P4).out.k1.trans (P3).out.k1.symm) 0).trans u0
  replace l1 := bk_lt (P4).out.k1
  clear P3
  have FX := Lib.hid (own_fin (P4).out (by exact own_pl HK.out) HN0.out (own_okD OK0.out))
  have ut := (P4).out.k3
  have ur := (P4).out.k2
  have lt := bk_lt ut
  have lr := bk_lt ur
  have sz := fun m => mC_size m
  have so := fun m => mC_ones m
  have kf := own_cell2 (P4).out
  go_wp2_with fail
  exact bodyPost_ret (results_cell_row rfl _ _ (s + 1) 33 (mC _) (0, 0) _ rfl kf Try.underlying33 rfl (by rw [mC_size]; kernel_rfl)) rfl FX.out
end Go.Proofs.Ytjimmfbjhkoekaa

import Derived.Test.YtjimmfbjhkoekaaMhH
import Derived.Test.YtjimmfbjhkoekaaMgD
import Derived.Test.YtjimmfbjhkoekaaMgN
import Derived.Test.YtjimmfbjhkoekaaMgI
import Derived.Test.YtjimmfbjhkoekaaMgU
/- A book of lists of bytes and of addresses. -/
namespace Go.Proofs.Ytjimmfbjhkoekaa
open Go.RowKit
set_option maxRecDepth 100000
/-- A book with one list more. -/
structure PutL (bb base : Nat) (vs : List Value) (hv u v' : Value) (w w1 : World) : Prop where
  cell : w1.cell? ⟨bb, 0, none⟩ = some hv
  frozen : w1.frozen? ⟨bb, 0, none⟩ = false
  book : BK (w1.setCell ⟨bb, 0, none⟩ v') bb base (vs ++ [u])
  frame : BFr bb w (w1.setCell ⟨bb, 0, none⟩ v')
  below : Below base w (w1.setCell ⟨bb, 0, none⟩ v')
theorem book_putL {bb base : Nat} {vs : List Value} {hv u v' : Value} {w w0 w1 : World} (hb : bk w bb = some (.cells #[hv] 44 (0, 0))) (ho : w.ownsRow (bb + 1) 78 1 hv vs.length vs) (h0 : Below w.heap.size w w0)
    (hown' : w1.ownsRow (bb + 1) 78 1 v' (vs.length + 1) (vs ++ [u])) (hgrow : w0.grownBy w1 hv.ownBlock) (hbb : base ≤ bb) (hbase : base ≤ w.heap.size) : PutL bb base vs hv u v' w w1 := by
  have hbl := bk_lt hb
  have hne : hv.ownBlock ≠ some bb := fun e => by
    have := (ho.lt bb e).1
    omega
  have hbb1 : bk w1 bb = some (.cells #[hv] 44 (0, 0)) := (hgrow.block bb (Nat.lt_of_lt_of_le hbl h0.size) (fun e => hne e.symm)).trans ((h0.block bb hbl).trans hb)
  have hne' : v'.ownBlock ≠ some bb := fun e => by
    have := (hown'.lt bb e).1
    omega
  refine ⟨(bk_cell hbb1 0).trans rfl, bk_frozen hbb1 0, ⟨v', by rw [bk_setCell_same, hbb1]; rfl, ?_⟩, ?_, ?_⟩
  · rw [List.length_append]
    exact ownsRow_setCell_other hown' hne' _
  · refine ⟨hgrow.os.trans h0.os, hgrow.tape.trans h0.tape, hgrow.output.trans h0.output, (by have h1 := hgrow.size; have h2 := h0.size; simp [World.setCell] at h1 ⊢; omega), fun k o hk hn ho' => ?_, fun k hk => ?_⟩
    rotate_left
    · rw [bk_setCell_other _ _ _ _ _ (by omega)]
      refine (hgrow.block k (by have := h0.size; omega) (fun e => ?_)).trans (h0.block k (by omega))
      have := (ho.lt k e.symm).1
      omega
    have hkl := bk_lt hk
    rw [bk_setCell_other _ _ _ _ _ hn]
    refine (hgrow.block k (Nat.lt_of_lt_of_le hkl h0.size) (fun e => ?_)).trans ((h0.block k hkl).trans hk)
    obtain ⟨_, ⟨rfl, _⟩ | ⟨g, cap, cur, rfl, _, hg, _⟩⟩ := ho
    · cases e
    · have : k = g := by simpa [Value.ownBlock] using e
      subst this
      have hg' : bk w k = _ := hg
      rw [hk] at hg'
      cases hg'
      exact ho' _ rfl
  · exact ((h0.mono hbase).grown hgrow (Nat.le_trans hbase h0.size) (fun g hg => by have := (ho.lt g hg).1; omega)).setCell hbb _
@[go_sem ↓] theorem ldAddrB (dst : Option Tmp) (x : Operand) (t : TypeId) (pos : String) (af : Array Edge) (g : Option (Nat × Bool)) (a : Act) (w : World) (K : Act → World → Prop) (Q : Exit → Act → World → Prop) :
    Oper.wp Try.prog ⟨dst, .load 23 x, t, pos, af, g⟩ a w K Q = ldPtr (wpHid Try.prog ⟨dst, .load 23 x, t, pos, af, g⟩ a w K Q) 16 w (fun c => K (a.put dst (.agg c)) w) (a.eval x) :=
  wp_load_bk 23 16 _ Try.underlying23 rfl (by kernel_rfl) dst x t pos af g a w K Q
@[go_sem ↓] theorem stAddrB (dst : Option Tmp) (x y : Operand) (t : TypeId) (pos : String) (af : Array Edge) (g : Option (Nat × Bool)) (a : Act) (w : World) (K : Act → World → Prop) (Q : Exit → Act → World → Prop) :
    Oper.wp Try.prog ⟨dst, .store 23 x y, t, pos, af, g⟩ a w K Q = stAt (wpHid Try.prog ⟨dst, .store 23 x y, t, pos, af, g⟩ a w K Q) 16 w (fun w' => K (a.put dst undef) w') (a.eval x) (a.eval y) :=
  wp_store_any 23 16 (by kernel_rfl) dst x y t pos af g a w K Q
@[go_sem ↓] theorem qlAddrB (dst : Option Tmp) (x : Operand) (t : TypeId) (pos : String) (af : Array Edge) (g : Option (Nat × Bool)) (a : Act) (m : Nat) (W : World) (K : Act → Prop) :
    Oper.quiet Try.prog ⟨dst, .load 23 x, t, pos, af, g⟩ a (fun w' => ∃ x : Later m W, w' = x.w) K =
      ldLater (quietHid Try.prog ⟨dst, .load 23 x, t, pos, af, g⟩ a (fun w' => ∃ x : Later m W, w' = x.w) K) m 16 W (fun c => K (a.put dst (.agg c))) (a.eval x) :=
  quiet_load_bk 23 16 _ Try.underlying23 rfl (by kernel_rfl) dst x t pos af g a m W K
theorem builtStA (parts : List (Nat × Value)) : Try.prog.built 129 parts = Instr.fill (#[(0, 1), (1, 16), (17, 16)][·]?) (#[Value.slice none 0 0] ++ Array.replicate 32 (.int .u8 0)) parts := by kernel_rfl
@[go_sem] theorem builtStA_3 (A : Option Addr) (n c : Nat) (i x : List UInt8) (hi : i.length = 16) (hx : x.length = 16) : Try.prog.built 129 [(0, .slice A n c), (1, .agg (List.map B i).toArray), (2, .agg (List.map B x).toArray)] = some (stC A n c i x) := by
  rw [builtStA, show [(0, Value.slice A n c), (1, Value.agg (List.map B i).toArray), (2, Value.agg (List.map B x).toArray)] = partsAt 0 [.slice A n c, .agg (List.map B i).toArray, .agg (List.map B x).toArray] from rfl, fill_all _ _ 0 0 _ (by simp [placesOk, Value.cells, hi, hx]) (by simp [widths, Value.cells, hi, hx])]
  simp [widths, Value.cells, hi, hx, stC]
@[go_sem ↓] theorem bwStA (dst : Option Tmp) (ps : Array (Nat × Operand)) (t : TypeId) (pos : String) (af : Array Edge) (g : Option (Nat × Bool)) (a : Act) (w : World) (K : Act → World → Prop) (Q : Exit → Act → World → Prop) :
    Oper.wp Try.prog ⟨dst, .build 129 ps, t, pos, af, g⟩ a w K Q = bldTo (wpHid Try.prog ⟨dst, .build 129 ps, t, pos, af, g⟩ a w K Q) (fun c => K (a.put dst (.agg c)) w) (Try.prog.built 129 (ps.toList.map fun x => (x.1, a.eval x.2))) :=
  wp_build_bk 129 dst ps t pos af g a w K Q
@[go_sem ↓] theorem bqStA (dst : Option Tmp) (ps : Array (Nat × Operand)) (t : TypeId) (pos : String) (af : Array Edge) (g : Option (Nat × Bool)) (a : Act) (m : Nat) (W : World) (K : Act → Prop) :
    Oper.quiet Try.prog ⟨dst, .build 129 ps, t, pos, af, g⟩ a (fun w' => ∃ x : Later m W, w' = x.w) K = bldTo (quietHid0 Try.prog ⟨dst, .build 129 ps, t, pos, af, g⟩ a (fun w' => ∃ x : Later m W, w' = x.w) K) (fun c => K (a.put dst (.agg c))) (Try.prog.built 129 (ps.toList.map fun x => (x.1, a.eval x.2))) :=
  quiet_build_bk 129 dst ps t pos af g a _ ⟨W, ⟨W, Below.refl _ _⟩, rfl⟩ K
theorem appL : App1 42 78 .nilIface 1 16 := ⟨Try.underlying42, infoLeaf, rfl, by omega, by omega⟩
/-- What an append of one list more to a book needs. -/
theorem app_facts {w W : World} {bb : Nat} {hv u : Value} {vs : List Value} (ho : w.ownsRow (bb + 1) 78 1 hv vs.length vs) (hbl : bb < w.heap.size) (b : Below w.heap.size w W) :
    (W.alloc (.cells #[u] 78)).ownsRow (bb + 1) 78 1 hv vs.length vs ∧ (∀ j x, ([u] : List Value)[j]? = some x → (W.alloc (.cells #[u] 78)).cell? ⟨W.heap.size, j, none⟩ = some x) ∧ bb + 1 ≤ (W.alloc (.cells #[u] 78)).heap.size := by
  refine ⟨own_turnG ho fun k hk => (b.alloc b.size _).block k (ho.lt k hk).2, fun j x hj => ?_, by have := b.size; simp; omega⟩
  rw [bk_cell (bk_alloc_at W (.cells #[u] 78) _ rfl), List.getElem?_toArray]
  exact hj
theorem sign_any (n : Int) (m : UInt8) : ∃ R : List UInt8, R.length = 16 ∧ ∀ w, Calls Try.prog 69 #[.int .i64 n, B m] w fun e w' => e = .returned (av R) ∧ Below w.heap.size w w' := by
  obtain ⟨x, ex⟩ := u8_mod n
  obtain ⟨y, ey⟩ := u8_mod (n / 256)
  refine ⟨[x, y, m, 0, 0, 0, 0, 0, 0, 0, 0, 0, 0, 0, 0, 99], rfl, fun w => ?_⟩
  go_enter Try.func69, Try.ntmps69
  go_wp2
  refine ret_cell (cs := (List.map B [x, y, m, 0, 0, 0, 0, 0, 0, 0, 0, 0, 0, 0, 0, 99]).toArray) rfl rfl rfl ?_ Try.underlying23 rfl (by kernel_rfl) ⟨rfl, ?_⟩
  · rw [bk_alloc_at _ _ _ rfl]; rfl
  · exact (Below.refl _ _).alloc (Nat.le_refl _) _
set_option maxHeartbeats 4000000 in
theorem bookAddrs_any (bb base : Nat) (vs : List Value) (A : Option Addr) (n c : Nat) (w : World) (h : BK w bb base vs) (hl : vs.length < 2 ^ 30) (hbb : base ≤ bb) (hbase : base ≤ w.heap.size) :
    Calls Try.prog 41 #[.pointer (some ⟨bb, 0, none⟩), .slice A n c] w fun e w' => ∃ i x, e = .returned (.tuple #[]) ∧ i.length = 16 ∧ x.length = 16 ∧ BK w' bb base (vs ++ [.iface 129 (stripA A n c i x)]) ∧ BFr bb w w' ∧ Below base w w' := by
  have C := Lib.hid (bookNext_any bb base vs w h hl)
  obtain ⟨hv, hb, ho⟩ := h
  have c0 := bk_cell hb 0
  simp at c0
  have hbl := bk_lt hb
  have HO := Lib.hid ho; have HB := Lib.hid hb
  clear ho hb
  have HL30 := Lib.hid hl
  obtain ⟨z, hz⟩ : ∃ z : Int, z = 1 + (vs.length : Int) := ⟨_, rfl⟩
  rw [← hz] at C
  clear hz hl
  obtain ⟨R1, hR1, HS1⟩ := sign_any z 1
  obtain ⟨R2, hR2, HS2⟩ := sign_any z 2
  have H1 : Hid (∀ W, Calls Try.prog 69 #[.int .i64 z, .int .u8 1] W fun e w' => e = .returned (.agg (List.map B R1).toArray) ∧ Below W.heap.size W w') := Lib.hid HS1
  have H2 : Hid (∀ W, Calls Try.prog 69 #[.int .i64 z, .int .u8 2] W fun e w' => e = .returned (.agg (List.map B R2).toArray) ∧ Below W.heap.size W w') := Lib.hid HS2
  have HU : Hid (∀ u ∈ ([.iface 129 (.agg (stC A n c R1 R2))] : List Value), u.oneCell' = true) := Lib.hid (by intro u hu; have := List.mem_singleton.1 hu; subst this; rfl)
  have HFA : Hid (∀ W, Below w.heap.size w W → _) := Lib.hid fun W b => app_facts (W := W) (u := .iface 129 (.agg (stC A n c R1 R2))) HO.out hbl b
  have HLW := Lib.hid hbl
  have B0 : Hid (Below w.heap.size w w.drew) := Lib.hid (by (repeat (first | exact Below.refl _ _ | assumption | refine Below.drew ?_ | refine bdrewN ?_ _ | refine Below.alloc ?_ (by first | omega | (simp <;> omega) | (simp only [World.size_alloc] <;> omega)) _ | refine below_setRow ?_ (by first | omega | (simp <;> omega)) _ | refine Below.setCell ?_ (by first | omega | (simp <;> omega)) _)))
  clear HS1 HS2
  go_enter Try.func41, Try.ntmps41
  go_wp2_with fail
  refine C.out.mono ?_
  rintro e w1 ⟨rfl, rfl⟩
  clear C
  go_upto_region 1 with fail
  have kD : w.drew.cell? ⟨bb, 0, none⟩ = some hv := c0
  clear c0
  go_region_law (first
    | (refine step_app1 appL rfl (.tmp 11) (.tmp 19) rfl (bb + 1) hv vs.length vs (by simp [Act.eval]) AF.out.1 wC.heap.size 1 (by simp [Act.eval]) [.iface 129 (.agg (stC A n c R1 R2))] rfl AF.out.2.1 HU.out AF.out.2.2 HL30.out ?_; intro A6 c6 w6 ho6 hg6 hc6 _; have PF := Lib.hid (book_putL HB.out HO.out (BC.out.alloc BC.out.size _) ho6 hg6 hbb hbase); have k6 := PF.out.cell; have f6 := PF.out.frozen; clear ho6 hg6 hc6)
    | (go_simp; go_at_call 69; with_reducible refine (H1.out w.drew).mono ?_; rintro e wA ⟨rfl, bA⟩; have BA := Lib.hid (B0.out.trans (bA.mono B0.out.size)); have kA := (bA.cell (p := ⟨bb, 0, none⟩) (Nat.lt_of_lt_of_le HLW.out B0.out.size)).trans kD; clear bA)
    | (go_simp; go_at_call 69; with_reducible refine (H2.out w.drew).mono ?_; rintro e wB ⟨rfl, bB⟩; have BB := Lib.hid (B0.out.trans (bB.mono B0.out.size)); have kB := (bB.cell (p := ⟨bb, 0, none⟩) (Nat.lt_of_lt_of_le HLW.out B0.out.size)).trans kD; clear bB)
    | (go_simp; go_at_call 69; with_reducible refine (H2.out wA).mono ?_; rintro e wC ⟨rfl, bC⟩; have BC := Lib.hid (BA.out.trans (bC.mono BA.out.size)); have kC := (bC.cell (p := ⟨bb, 0, none⟩) (Nat.lt_of_lt_of_le HLW.out BA.out.size)).trans kA; have lC := Nat.lt_of_lt_of_le HLW.out BC.out.size; have AF := Lib.hid (HFA.out wC BC.out); clear bC)
    | (go_simp; go_at_call 69; with_reducible refine (H1.out wB).mono ?_; rintro e wC ⟨rfl, bC⟩; have BC := Lib.hid (BB.out.trans (bC.mono BB.out.size)); have kC := (bC.cell (p := ⟨bb, 0, none⟩) (Nat.lt_of_lt_of_le HLW.out BB.out.size)).trans kB; have lC := Nat.lt_of_lt_of_le HLW.out BC.out.size; have AF := Lib.hid (HFA.out wC BC.out); clear bC))
  all_goals
    have HF := Lib.hid (And.intro PF.out.book (And.intro PF.out.frame PF.out.below))
    clear PF
    go_wp2_with fail
    go_end0
    exact ⟨R1, R2, rfl, hR1, hR2, HF.out⟩
theorem rg_apart {A : Option Addr} {a m c b j : Nat} (h1 : rg A a m b j) (h2 : rg A m c b j) : False := by
  obtain ⟨o, e, _, h3⟩ := h1
  obtain ⟨o', e', h4, _⟩ := h2
  rw [e] at e'
  cases e'
  omega
theorem Room.ty {w : World} {A : Option Addr} {c b j : Nat} {t : TypeId} (h : Room w A c t) (hr : rg A 0 c b j) : ∃ cur, bk w b = some (.cells cur t (0, 0)) := by
  obtain ⟨o, e, h1, h2⟩ := hr
  obtain ⟨b', o', cur, e', hb, _⟩ := h (by omega)
  rw [e] at e'
  cases e'
  exact ⟨cur, hb⟩
theorem rg_wide {A : Option Addr} {lo hi lo' hi' b j : Nat} (h : rg A lo hi b j) (h1 : lo' ≤ lo) (h2 : hi ≤ hi') : rg A lo' hi' b j := by
  obtain ⟨o, e, h3, h4⟩ := h
  exact ⟨o, e, by omega, by omega⟩
theorem Has.stay {S : Nat → Nat → Prop} {w w' : World} {A : Option Addr} {lo hi : Nat} {v : Value} (h : Has w A lo hi v) (hw : Wrt S w w') (hs : ∀ b j, rg A lo hi b j → ¬ S b j) : Has w' A lo hi v := fun j h1 h2 => by
  obtain ⟨b, o, e, hc⟩ := h j h1 h2
  refine ⟨b, o, e, ?_⟩
  unfold World.cell? at hc
  split at hc
  · rename_i cur t fr hb
    obtain ⟨cur', h3, h4, h5⟩ := hw.blk b cur t fr hb
    rw [bk_cell h3, h5 (o + j) (hs _ _ ⟨o, e, by omega, by omega⟩)]
    simpa using hc
  · cases hc
theorem HasA.keep {S : Nat → Nat → Prop} {w w' : World} {A : Option Addr} {lo hi : Nat} {v : List UInt8} (h : HasA w A lo hi v) (hw : Wrt S w w') (hs : ∀ b j, rg A (lo * 16) (hi * 16) b j → ¬ S b j) : HasA w' A lo hi v := fun k h1 h2 => by
  obtain ⟨b, o, cur, e, hb, hl, hx⟩ := h k h1 h2
  obtain ⟨cur', h3, h4, h5⟩ := hw.blk b cur _ _ hb
  refine ⟨b, o, cur', e, h3, by omega, ?_⟩
  rw [← hx]
  unfold xt
  apply Array.ext_getElem?
  intro j
  simp only [Array.getElem?_extract, h4]
  split
  · exact h5 _ (hs _ _ ⟨o, e, by omega, by omega⟩)
  · rfl
/-- A list of addresses. -/
def leafA (A : Option Addr) (n c : Nat) (i x : List UInt8) (hi : i.length = 16) (hx : x.length = 16) (hn : n ≤ c) (hc : c ≤ 9223372036854775807) : Leaf where
  T := 129
  v := stripA A n c i x
  f1 := 130
  f2 := 131
  f3 := 132
  m1 := fun w => by kernel_rfl
  m2 := fun w => by kernel_rfl
  m3 := fun w => by kernel_rfl
  e1 := fun w => by kernel_rfl
  e2 := fun w => by kernel_rfl
  e3 := fun w => by kernel_rfl
  Rin := rg A 0 (n * 16)
  Rout := rg A (n * 16) (c * 16)
  OK := fun w => Room w A (c * 16) 23
  In := fun w => HasA w A 0 n i
  Out := fun w => HasA w A n c x
  okW := fun h hw => h.wrt hw
  inK := fun h hw hs => h.keep hw fun b j hr => hs b j (by simpa using hr)
  outK := fun h hw hs => h.keep hw hs
  dis := fun b j h1 h2 => rg_apart h1 h2
  fill := fun w h => afill_any A n c i x hi hx w h hn hc
  room := fun w h => afillRoom_any A n c i x hi hx w h hn hc
  kept := fun w _ h1 h2 => akept_any A n c i x hi hx w h1 h2 hn hc
  ty := fun h hr => by
    obtain ⟨cur, hb⟩ := h.ty (hr.elim (fun q => rg_wide q (Nat.le_refl _) (by omega)) (fun q => rg_wide q (Nat.zero_le _) (Nat.le_refl _)))
    exact ⟨cur, _, hb, by decide, by decide⟩
theorem leafA_R {A : Option Addr} {n c : Nat} {i x : List UInt8} {hi hx hn hc} {b j : Nat} (h : (leafA A n c i x hi hx hn hc).R b j) : rg A 0 (c * 16) b j :=
  h.elim (fun q => rg_wide q (Nat.le_refl _) (by omega)) (fun q => rg_wide q (Nat.zero_le _) (Nat.le_refl _))
/-- A list of bytes. -/
def leafB (A : Option Addr) (n c : Nat) (i x : UInt8) (hn : n ≤ c) (hc : c ≤ 9223372036854775807) : Leaf where
  T := 76
  v := strip A n c i x
  f1 := 108
  f2 := 109
  f3 := 110
  m1 := fun w => by kernel_rfl
  m2 := fun w => by kernel_rfl
  m3 := fun w => by kernel_rfl
  e1 := fun w => by kernel_rfl
  e2 := fun w => by kernel_rfl
  e3 := fun w => by kernel_rfl
  Rin := rg A 0 n
  Rout := rg A n c
  OK := fun w => Room w A c 5
  In := fun w => Has w A 0 n (B i)
  Out := fun w => Has w A n c (B x)
  okW := fun h hw => h.wrt hw
  inK := fun h hw hs => h.keep hw hs
  outK := fun h hw hs => h.keep hw hs
  dis := fun b j h1 h2 => rg_apart h1 h2
  fill := fun w h => fill_any A n c i x w h hn hc
  room := fun w h => fillRoom_any A n c i x w h hn hc
  kept := fun w h h1 h2 => kept_any A n c i x w h1 h2 (fun h0 => by obtain ⟨b, o, cur, e, hb, _⟩ := h h0; exact ⟨b, o, e, bk_lt hb⟩) hn hc
  ty := fun h hr => by
    obtain ⟨cur, hb⟩ := h.ty (hr.elim (fun q => rg_wide q (Nat.le_refl _) (by omega)) (fun q => rg_wide q (Nat.zero_le _) (Nat.le_refl _)))
    exact ⟨cur, _, hb, by decide, by decide⟩
theorem leafB_R {A : Option Addr} {n c : Nat} {i x : UInt8} {hn hc} {b j : Nat} (h : (leafB A n c i x hn hc).R b j) : rg A 0 c b j :=
  h.elim (fun q => rg_wide q (Nat.le_refl _) (by omega)) (fun q => rg_wide q (Nat.zero_le _) (Nat.le_refl _))
end Go.Proofs.Ytjimmfbjhkoekaa
/- A book: all lists of options, of a message. -/
namespace Go.Proofs.Ytjimmfbjhkoekaa
open Go.RowKit
set_option maxRecDepth 100000
set_option maxHeartbeats 2000000
/-- A list that a book holds. -/
inductive Lx
  | by (A : Option Addr) (n c : Nat)
  | ad (A : Option Addr) (n c : Nat)
def Lx.Is : Lx → Value → Prop
  | .by A n c, u => ∃ i x, u = .iface 76 (strip A n c i x)
  | .ad A n c, u => ∃ i x : List UInt8, i.length = 16 ∧ x.length = 16 ∧ u = .iface 129 (stripA A n c i x)
def LIs : List Lx → List Value → Prop
  | [], [] => True
  | d :: L, u :: vs => d.Is u ∧ LIs L vs
  | _, _ => False
theorem LIs.len : ∀ {L : List Lx} {vs : List Value}, LIs L vs → vs.length = L.length
  | [], [], _ => rfl
  | d :: L, u :: vs, h => by rw [List.length_cons, List.length_cons, LIs.len h.2]
  | [], _ :: _, h => h.elim
  | _ :: _, [], h => h.elim
theorem LIs.snoc : ∀ {L : List Lx} {vs : List Value} {d : Lx} {u : Value}, LIs L vs → d.Is u → LIs (L ++ [d]) (vs ++ [u])
  | [], [], _, _, _, h => ⟨h, trivial⟩
  | _ :: _, _ :: _, _, _, h, k => ⟨h.1, LIs.snoc h.2 k⟩
  | [], _ :: _, _, _, h, _ => h.elim
  | _ :: _, [], _, _, h, _ => h.elim
/-- A book that holds lists. -/
def BL (w : World) (bb base : Nat) (L : List Lx) : Prop := ∃ vs, BK w bb base vs ∧ LIs L vs
theorem BL.new {w : World} {bb base : Nat} (hb : bk w bb = some (.cells #[.slice none 0 0] 44 (0, 0))) : BL w bb base [] := ⟨[], ⟨_, hb, World.ownsRow_nil _ _ _ _⟩, trivial⟩
theorem BL.below {w w' : World} {bb base : Nat} {L : List Lx} (h : BL w bb base L) (hb : Below w.heap.size w w') : BL w' bb base L := by obtain ⟨vs, h1, h2⟩ := h; exact ⟨vs, h1.below hb, h2⟩
theorem BL.lt {w : World} {bb base : Nat} {L : List Lx} (h : BL w bb base L) : bb < w.heap.size := by obtain ⟨vs, ⟨hv, hb, _⟩, _⟩ := h; exact bk_lt hb
theorem BFr.refl (bb : Nat) (w : World) : BFr bb w w := ⟨rfl, rfl, rfl, Nat.le_refl _, fun _ _ h _ _ => h, fun _ _ => rfl⟩
theorem BFr.of {bb : Nat} {w w' : World} (h : Below w.heap.size w w') (hb : bb < w.heap.size) : BFr bb w w' := ⟨h.os, h.tape, h.output, h.size, fun k o hk _ _ => bk_keep h (bk_lt hk) hk, fun k hk => h.block k (by omega)⟩
theorem Rd.low {bb n : Nat} {w w' : World} {A : Option Addr} {l : List UInt8} (h : Rd w n A l) (f : BFr bb w w') (hn : n ≤ bb) : Rd w' n A l := fun h0 => by
  obtain ⟨b, o, e, hb, hc⟩ := h h0
  exact ⟨b, o, e, hb, fun j hj => (cell_of_bk (f.low b (by omega)) _).trans (hc j hj)⟩
theorem Rws.low {α : Type} {C : Nat} {row : α → Array Value} {bb n : Nat} {w w' : World} {A : Option Addr} {l : List α} (h : Rws C row w n A l) (f : BFr bb w w') (hn : n ≤ bb) : Rws C row w' n A l := fun h0 => by
  obtain ⟨g, o, c, t, fr, e, hl, hb, hc⟩ := h h0
  exact ⟨g, o, c, t, fr, e, hl, (f.low g (by omega)).trans hb, hc⟩
theorem OvOk.low {bb n : Nat} {w w' : World} {x : Ov} (h : OvOk w n x) (f : BFr bb w w') (hn : n ≤ bb) : OvOk w' n x := ⟨h.rd.low f hn, h.nil, h.le, h.lt⟩
theorem Ovs.low {bb n : Nat} {w w' : World} {A : Option Addr} {l : List Ov} (h : Ovs w n A l) (f : BFr bb w w') (hn : n ≤ bb) : Ovs w' n A l := ⟨h.1.low f hn, fun x hx => (h.2 x hx).low f hn⟩
theorem blBytes (bb base : Nat) (L : List Lx) (A : Option Addr) (n c : Nat) (w : World) (h : BL w bb base L) (hl : L.length < 2 ^ 30) (hbb : base ≤ bb) (hbase : base ≤ w.heap.size) :
    Calls Try.prog 16 #[.pointer (some ⟨bb, 0, none⟩), .slice A n c] w fun e w' => e = .returned (.tuple #[]) ∧ BL w' bb base (L ++ [.by A n c]) ∧ BFr bb w w' ∧ Below base w w' := by
  obtain ⟨vs, h1, h2⟩ := h
  refine (bookBytes_any bb base vs A n c w h1 (by rw [h2.len]; exact hl) hbb hbase).mono ?_
  rintro e w' ⟨i, x, rfl, hb, hf, hB⟩
  exact ⟨rfl, ⟨_, hb, h2.snoc ⟨i, x, rfl⟩⟩, hf, hB⟩
theorem blAddrs (bb base : Nat) (L : List Lx) (A : Option Addr) (n c : Nat) (w : World) (h : BL w bb base L) (hl : L.length < 2 ^ 30) (hbb : base ≤ bb) (hbase : base ≤ w.heap.size) :
    Calls Try.prog 41 #[.pointer (some ⟨bb, 0, none⟩), .slice A n c] w fun e w' => e = .returned (.tuple #[]) ∧ BL w' bb base (L ++ [.ad A n c]) ∧ BFr bb w w' ∧ Below base w w' := by
  obtain ⟨vs, h1, h2⟩ := h
  refine (bookAddrs_any bb base vs A n c w h1 (by rw [h2.len]; exact hl) hbb hbase).mono ?_
  rintro e w' ⟨i, x, rfl, hi, hx, hb, hf, hB⟩
  exact ⟨rfl, ⟨_, hb, h2.snoc ⟨i, x, hi, hx, rfl⟩⟩, hf, hB⟩
def optL (ol : List Ov) : List Lx := ol.map fun x => .by x.A x.d.length x.c
def recL' (rs : List Rv) : List Lx := rs.map fun x => .ad x.A x.s.length x.c
def msgL (m : Mv) : List Lx := [.by m.DA m.dd.length m.dc] ++ optL m.os ++ [.ad m.SA m.ss.length m.sc] ++ recL' m.rs
theorem optL_snoc {ol : List Ov} {k : Nat} (h : k < ol.length) : optL (ol.take (k + 1)) = optL (ol.take k) ++ [.by ol[k].A ol[k].d.length ol[k].c] := by
  unfold optL; rw [List.take_succ_eq_append_getElem h, List.map_append]; rfl
theorem recL_snoc {rs : List Rv} {k : Nat} (h : k < rs.length) : recL' (rs.take (k + 1)) = recL' (rs.take k) ++ [.ad rs[k].A rs[k].s.length rs[k].c] := by
  unfold recL'; rw [List.take_succ_eq_append_getElem h, List.map_append]; rfl
/-- What a book's call holds. -/
structure BS (w w' : World) (bb base : Nat) (L : List Lx) : Prop where
  bl : BL w' bb base L
  fr : BFr bb w w'
  bel : Below base w w'
theorem BS.more {w w1 w2 : World} {bb base : Nat} {L L' : List Lx} (h : BS w w1 bb base L) (h1 : BL w2 bb base L') (h2 : BFr bb w1 w2) (h3 : Below base w1 w2) : BS w w2 bb base L' := ⟨h1, h.fr.trans h2, h.bel.trans h3⟩
theorem blOptions (bb base n : Nat) (L : List Lx) (A : Option Addr) (ol : List Ov) (c : Nat) (w : World) (h : BL w bb base L) (hn : n ≤ bb) (ho : Rws 2 Ov.row w n A ol) (hl : L.length + ol.length < 2 ^ 29) (hbb : base ≤ bb) (hbase : base ≤ w.heap.size) :
    Calls Try.prog 40 #[.pointer (some ⟨bb, 0, none⟩), .slice A ol.length c] w fun e w' => e = .returned (.tuple #[]) ∧ BS w w' bb base (L ++ optL ol) := by
  have S0 : Hid (BS w w bb base L) := Lib.hid ⟨h, BFr.refl _ _, Below.refl _ _⟩
  have HO := Lib.hid ho; have HL := Lib.hid hl; have HNB := Lib.hid (And.intro hn (And.intro hbb hbase))
  obtain ⟨N, hN⟩ : ∃ N, N = ol.length := ⟨_, rfl⟩
  have HN := Lib.hid hN
  rw [← hN]
  clear h ho hl hN hn hbb hbase
  have hN29 : N < 2 ^ 29 := by rw [HN.out]; have := HL.out; omega
  go_enter Try.func40, Try.ntmps40
  go_wp2_with fail
  go_loopw [4] (fun i wr => ∃ k : Nat, k ≤ N ∧ i = .int .i64 (k : Int) ∧ Hid (BS w wr bb base (L ++ optL (ol.take k)))) (fun i _ => N - (intOf i).toNat)
  case atStart => exact ⟨0, by omega, rfl, Lib.hid (by rw [List.take_zero]; simpa [optL] using S0.out)⟩
  case round =>
    clear S0
    obtain ⟨k, hk, rfl, HS⟩ := hrel
    by_cases hlt : k < N
    · have d1 : decide ((k : Int) < (N : Int)) = true := by simp; omega
      have hkl : k < ol.length := by rw [← HN.out]; exact hlt
      obtain ⟨g, o, cc, t, fr, rfl, hgn, hka, _, _, hc⟩ := (HO.out.low HS.out.fr HNB.out.1).at hkl Ov.row_size
      obtain ⟨x, hx⟩ : ∃ x, x = ol[k] := ⟨_, rfl⟩
      rw [← hx] at hc
      have c2 := hc 1 (by omega)
      simp [Ov.row] at c2
      have lg := bk_lt hka
      have C := Lib.hid (blBytes bb base (L ++ optL (ol.take k)) x.A x.d.length x.c wr HS.out.bl (by have := HL.out; unfold optL; rw [List.length_append, List.length_map, List.length_take]; omega) HNB.out.2.1 (by have := HS.out.bel.size; have := HNB.out.2.2; omega))
      have HX : Hid (L ++ optL (ol.take k) ++ [.by x.A x.d.length x.c] = L ++ optL (ol.take (k + 1))) := Lib.hid (by rw [optL_snoc hkl, hx, List.append_assoc])
      clear hx hc hka
      go_wp2_with fail
      refine C.out.mono ?_
      rintro e w1 ⟨rfl, h1, h2, h3⟩
      have S1 : Hid (BS w w1 bb base (L ++ optL (ol.take (k + 1)))) := Lib.hid (HS.out.more (by rw [HX.out] at h1; exact h1) h2 h3)
      clear C h1 h2 h3 HS HX
      go_wp2_with fail
      go_roundw
      case rel => exact ⟨k + 1, by omega, by go_num, S1⟩
      case measure => simp [intOf]; omega
    · obtain rfl : k = N := by omega
      have d1 : decide ((k : Int) < (k : Int)) = false := by simp
      have FX : Hid (BS w wr bb base (L ++ optL ol)) := Lib.hid (by have h := HS.out; rw [HN.out, List.take_length] at h; exact h)
      clear HS
      go_wp2_with fail
      go_end0
      exact ⟨rfl, FX.out⟩
theorem blMessage (bb base n : Nat) (L : List Lx) (m : Mv) (w : World) (h : BL w bb base L) (hn : n ≤ bb) (ho : Rws 2 Ov.row w n m.OA m.os) (hr : Rws 18 Rv.row w n m.RA m.rs) (hl : L.length + m.os.length + m.rs.length < 2 ^ 28) (hbb : base ≤ bb) (hbase : base ≤ w.heap.size) :
    Calls Try.prog 15 #[.pointer (some ⟨bb, 0, none⟩), .agg (mC m)] w fun e w' => e = .returned (.tuple #[]) ∧ BS w w' bb base (L ++ msgL m) := by
  have hbw := h.lt
  have b0 : Below w.heap.size w (w.alloc (.cells (mC m) 33)) := (by (repeat (first | exact Below.refl _ _ | assumption | refine Below.drew ?_ | refine bdrewN ?_ _ | refine Below.alloc ?_ (by first | omega | (simp <;> omega) | (simp only [World.size_alloc] <;> omega)) _ | refine below_setRow ?_ (by first | omega | (simp <;> omega)) _ | refine Below.setCell ?_ (by first | omega | (simp <;> omega)) _)))
  obtain ⟨g, hg⟩ : ∃ g, g = w.heap.size := ⟨_, rfl⟩
  have k0 : bk (w.alloc (.cells (mC m) 33)) g = some (.cells (mC m) 33 (0, 0)) := bk_alloc_at _ _ _ hg
  have S0 : Hid (BS w (w.alloc (.cells (mC m) 33)) bb base L) := Lib.hid ⟨h.below b0, BFr.of b0 hbw, b0.mono hbase⟩
  have HO := Lib.hid ho; have HR := Lib.hid hr; have HL := Lib.hid hl; have HNB := Lib.hid (And.intro hn (And.intro hbb hbase))
  have hgb : g ≠ bb := by omega
  clear h ho hr hl b0 hbase hbb hn
  go_enter Try.func15, Try.ntmps15
  go_upto_region 1 with fail
  rw [← hg]
  clear hg
  generalize w.alloc (.cells (mC m) 33) = w1 at *
  have c3 := (bk_cell k0 3).trans (mC_3 m)
  have lg := bk_lt k0
  have C1 := Lib.hid (blBytes bb base L m.DA m.dd.length m.dc w1 S0.out.bl (by have := HL.out; omega) HNB.out.2.1 (by have := S0.out.bel.size; have := HNB.out.2.2; omega))
  go_wp2_with fail
  refine C1.out.mono ?_
  rintro e w2 ⟨rfl, h1, h2, h3⟩
  have S1 := Lib.hid (S0.out.more h1 h2 h3)
  have k1 := h2.keep _ _ k0 hgb (fun cur e => by cases e)
  clear S0 C1 c3 lg k0 h1 h2 h3
  have c41 := (bk_cell k1 41).trans (mC_41 m)
  have lg := bk_lt k1
  have C2 := Lib.hid (blOptions bb base n (L ++ [.by m.DA m.dd.length m.dc]) m.OA m.os m.oc w2 S1.out.bl HNB.out.1 (HO.out.low S1.out.fr HNB.out.1) (by have := HL.out; rw [List.length_append]; simp only [List.length_cons, List.length_nil]; omega) HNB.out.2.1 (by have := S1.out.bel.size; have := HNB.out.2.2; omega))
  go_wp2_with fail
  refine C2.out.mono ?_
  rintro e w3 ⟨rfl, h1⟩
  have S2 := Lib.hid (S1.out.more h1.bl h1.fr h1.bel)
  have k2 := h1.fr.keep _ _ k1 hgb (fun cur e => by cases e)
  clear S1 C2 c41 lg k1 h1
  have c61 := (bk_cell k2 61).trans (mC_61 m)
  have lg := bk_lt k2
  have C3 := Lib.hid (blAddrs bb base (L ++ [.by m.DA m.dd.length m.dc] ++ optL m.os) m.SA m.ss.length m.sc w3 S2.out.bl (by have := HL.out; unfold optL; simp only [List.length_append, List.length_cons, List.length_nil, List.length_map]; omega) HNB.out.2.1 (by have := S2.out.bel.size; have := HNB.out.2.2; omega))
  go_wp2_with fail
  refine C3.out.mono ?_
  rintro e w4 ⟨rfl, h1, h2, h3⟩
  have S3 := Lib.hid (S2.out.more h1 h2 h3)
  have k3 := h2.keep _ _ k2 hgb (fun cur e => by cases e)
  clear S2 C3 c61 lg k2 h1 h2 h3
  obtain ⟨N, hN⟩ : ∃ N, N = m.rs.length := ⟨_, rfl⟩
  have HN := Lib.hid hN
  have hN29 : N < 2 ^ 29 := by rw [hN]; have := HL.out; omega
  obtain ⟨L3, hL3⟩ : ∃ L3, L3 = L ++ [.by m.DA m.dd.length m.dc] ++ optL m.os ++ [.ad m.SA m.ss.length m.sc] := ⟨_, rfl⟩
  rw [← hL3] at S3
  have HL3 : Hid (L3.length + m.rs.length < 2 ^ 29) := Lib.hid (by have := HL.out; rw [hL3]; unfold optL; simp only [List.length_append, List.length_cons, List.length_nil, List.length_map]; omega)
  have HLE : Hid (L3 ++ recL' m.rs = L ++ msgL m) := Lib.hid (by rw [hL3]; unfold msgL; simp only [List.append_assoc])
  have K3 := Lib.hid k3
  clear hN hL3 k3
  go_wp2_with fail
  go_loopw [4] (fun i wr => ∃ k : Nat, k ≤ N ∧ i = .int .i64 (k : Int) ∧ Hid (BS w wr bb base (L3 ++ recL' (m.rs.take k))) ∧ Hid (bk wr g = some (.cells (mC m) 33 (0, 0)))) (fun i _ => N - (intOf i).toNat)
  case atStart => exact ⟨0, by omega, rfl, Lib.hid (by rw [List.take_zero]; simpa [recL'] using S3.out), K3⟩
  case round =>
    clear S3 K3
    obtain ⟨k, hk, rfl, HS, KM⟩ := hrel
    have c62 := (bk_cell KM.out 62).trans (mC_62 m)
    rw [← HN.out] at c62
    have lm := bk_lt KM.out
    by_cases hlt : k < N
    · have d1 : decide ((k : Int) < (N : Int)) = true := by simp; omega
      have hkl : k < m.rs.length := by rw [← HN.out]; exact hlt
      obtain ⟨g', o, cc, t, fr, hRA, hgn, hka, _, _, hc⟩ := (HR.out.low HS.out.fr HNB.out.1).at hkl Rv.row_size
      rw [hRA] at c62
      obtain ⟨x, hx⟩ : ∃ x, x = m.rs[k] := ⟨_, rfl⟩
      rw [← hx] at hc
      have c17 := (hc 17 (by omega)).trans (show x.row[17]? = some (.slice x.A x.s.length x.c) by
        have := x.hg
        simp [Rv.row, this])
      have lg := bk_lt hka
      have C := Lib.hid (blAddrs bb base (L3 ++ recL' (m.rs.take k)) x.A x.s.length x.c wr HS.out.bl (by have := HL3.out; unfold recL'; rw [List.length_append, List.length_map, List.length_take]; omega) HNB.out.2.1 (by have := HS.out.bel.size; have := HNB.out.2.2; omega))
      have HX : Hid (L3 ++ recL' (m.rs.take k) ++ [.ad x.A x.s.length x.c] = L3 ++ recL' (m.rs.take (k + 1))) := Lib.hid (by rw [recL_snoc hkl, hx, List.append_assoc])
      clear hx hc hka hRA
      go_wp2_with fail
      refine C.out.mono ?_
      rintro e w1 ⟨rfl, h1, h2, h3⟩
      have S1 : Hid (BS w w1 bb base (L3 ++ recL' (m.rs.take (k + 1)))) := Lib.hid (HS.out.more (by rw [HX.out] at h1; exact h1) h2 h3)
      have KM1 := Lib.hid (h2.keep _ _ KM.out hgb (fun cur e => by cases e))
      clear C h1 h2 h3 HS HX KM c62 lm
      go_wp2_with fail
      go_roundw
      case rel => exact ⟨k + 1, by omega, by go_num, S1, KM1⟩
      case measure => simp [intOf]; omega
    · obtain rfl : k = N := by omega
      have d1 : decide ((k : Int) < (k : Int)) = false := by simp
      have FX : Hid (BS w wr bb base (L ++ msgL m)) := Lib.hid (by have h := HS.out; rw [HN.out, List.take_length, HLE.out] at h; exact h)
      clear HS KM
      go_wp2_with fail
      go_end0
      exact ⟨rfl, FX.out⟩
end Go.Proofs.Ytjimmfbjhkoekaa
/- Icmps: a book's lists lie apart: a message that is got. -/
namespace Go.Proofs.Ytjimmfbjhkoekaa
open Go.RowKit
set_option maxRecDepth 100000
set_option maxHeartbeats 1000000
/-- Where a list lies, with its room. -/
def Lx.rg : Lx → Nat → Nat → Prop
  | .by A _ c, b, j => Go.Proofs.Ytjimmfbjhkoekaa.rg A 0 c b j
  | .ad A _ c, b, j => Go.Proofs.Ytjimmfbjhkoekaa.rg A 0 (c * 16) b j
def Lx.Fine (w : World) : Lx → Prop
  | .by A n c => n ≤ c ∧ c ≤ 9223372036854775807 ∧ Room w A c 5
  | .ad A n c => n ≤ c ∧ c ≤ 9223372036854775807 ∧ Room w A (c * 16) 23
theorem Lx.leaf {w : World} {d : Lx} {u : Value} (h : d.Is u) (hf : d.Fine w) : ∃ l : Leaf, l.val = u ∧ l.OK w ∧ ∀ b j, l.R b j → d.rg b j := by
  cases d with
  | «by» A n c =>
    obtain ⟨i, x, rfl⟩ := h
    obtain ⟨h1, h2, h3⟩ := hf
    exact ⟨leafB A n c i x h1 h2, rfl, h3, fun b j q => leafB_R q⟩
  | ad A n c =>
    obtain ⟨i, x, hi, hx, rfl⟩ := h
    obtain ⟨h1, h2, h3⟩ := hf
    exact ⟨leafA A n c i x hi hx h1 h2, rfl, h3, fun b j q => leafA_R q⟩
theorem leaves {w : World} : ∀ {L : List Lx} {vs : List Value}, LIs L vs → (∀ d ∈ L, d.Fine w) → ∃ Lf : List Leaf, Lf.map Leaf.val = vs ∧ (∀ l ∈ Lf, l.OK w) ∧ Lf.length = L.length ∧ ∀ (i : Nat) (l : Leaf), Lf[i]? = some l → ∃ d, L[i]? = some d ∧ ∀ b j, l.R b j → d.rg b j
  | [], [], _, _ => ⟨[], rfl, fun l hl => by simp at hl, rfl, fun i l h => by simp at h⟩
  | d :: L, u :: vs, h, hf => by
    obtain ⟨l, e1, e2, e3⟩ := Lx.leaf h.1 (hf d (by simp))
    obtain ⟨Lf, g1, g2, g3, g4⟩ := leaves h.2 fun x hx => hf x (by simp [hx])
    refine ⟨l :: Lf, by rw [List.map_cons, e1, g1], fun x hx => ?_, by simp [g3], fun i x hx => ?_⟩
    · rcases List.mem_cons.1 hx with rfl | hx
      · exact e2
      · exact g2 x hx
    · cases i with
      | zero => simp at hx; subst hx; exact ⟨d, by simp, e3⟩
      | succ i => simpa using g4 i x (by simpa using hx)
  | [], _ :: _, h, _ => h.elim
  | _ :: _, [], h, _ => h.elim
def DisX (L : List Lx) : Prop := ∀ (i j : Nat) (a b : Lx), i ≠ j → L[i]? = some a → L[j]? = some b → ∀ k m, a.rg k m → b.rg k m → False
def rgX (L : List Lx) (b j : Nat) : Prop := ∃ d ∈ L, d.rg b j
theorem apart_lx (bb base : Nat) (L : List Lx) (w : World) (h : BL w bb base L) (hf : ∀ d ∈ L, d.Fine w) (hd : DisX L) (hN : L.length < 2 ^ 40) :
    Calls Try.prog 17 #[.pointer (some ⟨bb, 0, none⟩)] w fun e w' => e = .returned (.bool true) ∧ Wrt (rgX L) w w' := by
  obtain ⟨vs, hb, hi⟩ := h
  obtain ⟨Lf, g1, g2, g3, g4⟩ := leaves hi hf
  subst g1
  refine (apart_leaves bb base Lf w hb g2 (fun i j a b hne ha hb k m r1 r2 => ?_) (by rw [g3]; exact hN)).mono ?_
  · obtain ⟨d, q1, q2⟩ := g4 i a ha
    obtain ⟨d', q3, q4⟩ := g4 j b hb
    exact hd i j d d' hne q1 q3 k m (q2 _ _ r1) (q4 _ _ r2)
  · rintro e w' ⟨rfl, hw⟩
    refine ⟨rfl, hw.mono ?_⟩
    rintro b j ⟨l, hl, hr⟩
    obtain ⟨i, hi', rfl⟩ := List.mem_iff_getElem.1 hl
    obtain ⟨d, q1, q2⟩ := g4 i _ (List.getElem?_eq_getElem hi')
    exact ⟨d, List.mem_of_getElem? q1, q2 _ _ hr⟩
theorem dis_app {L1 L2 : List Lx} (h1 : DisX L1) (h2 : DisX L2) (h : ∀ a ∈ L1, ∀ b ∈ L2, ∀ k m, a.rg k m → b.rg k m → False) : DisX (L1 ++ L2) := by
  intro i j a b hne ha hb k m r1 r2
  by_cases hi : i < L1.length
  · rw [List.getElem?_append_left hi] at ha
    by_cases hj : j < L1.length
    · rw [List.getElem?_append_left hj] at hb
      exact h1 i j a b hne ha hb k m r1 r2
    · rw [List.getElem?_append_right (by omega)] at hb
      exact h a (List.mem_of_getElem? ha) b (List.mem_of_getElem? hb) k m r1 r2
  · rw [List.getElem?_append_right (by omega)] at ha
    by_cases hj : j < L1.length
    · rw [List.getElem?_append_left hj] at hb
      exact h b (List.mem_of_getElem? hb) a (List.mem_of_getElem? ha) k m r2 r1
    · rw [List.getElem?_append_right (by omega)] at hb
      exact h2 _ _ a b (by omega) ha hb k m r1 r2
theorem dis_one (d : Lx) : DisX [d] := by
  intro i j a b hne ha hb
  have hi : i < 1 := by have := (List.getElem?_eq_some_iff.1 ha).1; simpa using this
  have hj : j < 1 := by have := (List.getElem?_eq_some_iff.1 hb).1; simpa using this
  omega
theorem dis_opts {g q : Nat} {ol : List Ov} (h : LayAt g q ol) : DisX (optL ol) := by
  have key : ∀ (i j : Nat) (hi : i < ol.length) (hj : j < ol.length), i < j → ∀ k m, (Lx.by ol[i].A ol[i].d.length ol[i].c).rg k m → (Lx.by ol[j].A ol[j].d.length ol[j].c).rg k m → False := fun i j hi hj hij k m r1 r2 => by
    obtain ⟨o, e1, c1, _⟩ := h.at' i hi
    obtain ⟨o', e2, c2, _⟩ := h.at' j hj
    have := h.apart i j hi hj hij o o' e1 e2
    obtain ⟨p, f1, f2, f3⟩ := r1
    obtain ⟨p', f4, f5, f6⟩ := r2
    rw [e1] at f1
    rw [e2] at f4
    cases f1
    cases f4
    omega
  intro i j a b hne ha hb k m r1 r2
  obtain ⟨hi, ea⟩ := List.getElem?_eq_some_iff.1 ha
  obtain ⟨hj, eb⟩ := List.getElem?_eq_some_iff.1 hb
  unfold optL at hi hj ea eb
  rw [List.length_map] at hi hj
  rw [List.getElem_map] at ea eb
  subst ea eb
  rcases Nat.lt_or_gt_of_ne hne with e | e
  · exact key i j hi hj e k m r1 r2
  · exact key j i hj hi e k m r2 r1
theorem dis_recs {rs : List Rv} (h0 : ∀ i (h : i < rs.length), ∃ g, rs[i].A = some ⟨g, 0, none⟩) (h : ∀ i j (hi : i < rs.length) (hj : j < rs.length), i < j → rs[i].A ≠ rs[j].A) : DisX (recL' rs) := by
  have key : ∀ (i j : Nat) (hi : i < rs.length) (hj : j < rs.length), i < j → ∀ k m, (Lx.ad rs[i].A rs[i].s.length rs[i].c).rg k m → (Lx.ad rs[j].A rs[j].s.length rs[j].c).rg k m → False := fun i j hi hj hij k m r1 r2 => by
    obtain ⟨g, e1⟩ := h0 i hi
    obtain ⟨g', e2⟩ := h0 j hj
    have := h i j hi hj hij
    obtain ⟨p, f1, f2, f3⟩ := r1
    obtain ⟨p', f4, f5, f6⟩ := r2
    rw [e1] at f1
    rw [e2] at f4
    cases f1
    cases f4
    exact this (e1.trans e2.symm)
  intro i j a b hne ha hb k m r1 r2
  obtain ⟨hi, ea⟩ := List.getElem?_eq_some_iff.1 ha
  obtain ⟨hj, eb⟩ := List.getElem?_eq_some_iff.1 hb
  unfold recL' at hi hj ea eb
  rw [List.length_map] at hi hj
  rw [List.getElem_map] at ea eb
  subst ea eb
  rcases Nat.lt_or_gt_of_ne hne with e | e
  · exact key i j hi hj e k m r1 r2
  · exact key j i hj hi e k m r2 r1
/-- One kind of list at most. -/
structure OneL (m : Mv) : Prop where
  d : m.dd ≠ [] → m.os = [] ∧ m.ss = [] ∧ m.rs = []
  o : m.os ≠ [] → m.ss = [] ∧ m.rs = []
  s : m.ss ≠ [] → m.rs = []
theorem one_pl {m : Mv} (h : (m.dd ≠ [] → m.pl.opts = [] ∧ m.pl.srcs = [] ∧ m.pl.recs = []) ∧ (m.pl.opts ≠ [] → m.pl.srcs = [] ∧ m.pl.recs = []) ∧ (m.pl.srcs ≠ [] → m.pl.recs = [])) : OneL m := by
  obtain ⟨h1, h2, h3⟩ := h
  have eo : m.pl.opts = [] ↔ m.os = [] := by show m.os.map Ov.pl = [] ↔ _; simp
  have er : m.pl.recs = [] ↔ m.rs = [] := by show m.rs.map Rv.pl = [] ↔ _; simp
  have es : m.pl.srcs = m.ss := rfl
  rw [es] at h1 h2 h3
  exact ⟨fun e => by obtain ⟨a, b, c⟩ := h1 e; exact ⟨eo.1 a, b, er.1 c⟩, fun e => by obtain ⟨a, b⟩ := h2 (fun q => e (eo.1 q)); exact ⟨a, er.1 b⟩, fun e => er.1 (h3 e)⟩
theorem got_one {m : Mv} {k c : UInt8} {L : List UInt8} (h : m.pl = getV k c L) : OneL m := by
  refine one_pl ?_
  have ed : m.dd = m.pl.data := rfl
  rw [ed, h]
  unfold getV
  repeat' split
  all_goals
    simp [mZ, Mv.pl]
end Go.Proofs.Ytjimmfbjhkoekaa
/- Icmps: a message that is got: its lists lie apart, in blocks of their types. -/
namespace Go.Proofs.Ytjimmfbjhkoekaa
open Go.RowKit
set_option maxRecDepth 100000
set_option maxHeartbeats 1000000
theorem rg_pos {A : Option Addr} {c k j : Nat} (h : Go.Proofs.Ytjimmfbjhkoekaa.rg A 0 c k j) : 0 < c := by obtain ⟨o, _, h1, h2⟩ := h; omega
theorem rgD {w : World} {n gb : Nat} {m : Mv} (f : Fr w n gb m) {k j : Nat} (h : (Lx.by m.DA m.dd.length m.dc).rg k j) : m.dd ≠ [] := fun e => by
  have := rg_pos h; have := f.dc; rw [e] at this; simp at this; omega
theorem rgS {w : World} {n gb : Nat} {m : Mv} (f : Fr w n gb m) {k j : Nat} (h : (Lx.ad m.SA m.ss.length m.sc).rg k j) : m.ss ≠ [] := fun e => by
  have := rg_pos h; have := f.sc; rw [e] at this; simp at this; omega
theorem in_optL {ol : List Ov} {d : Lx} (h : d ∈ optL ol) : ol ≠ [] ∧ ∃ x ∈ ol, d = .by x.A x.d.length x.c := by
  unfold optL at h
  obtain ⟨x, hx, rfl⟩ := List.mem_map.1 h
  exact ⟨List.ne_nil_of_mem hx, x, hx, rfl⟩
theorem in_recL {rs : List Rv} {d : Lx} (h : d ∈ recL' rs) : rs ≠ [] ∧ ∃ x ∈ rs, d = .ad x.A x.s.length x.c := by
  unfold recL' at h
  obtain ⟨x, hx, rfl⟩ := List.mem_map.1 h
  exact ⟨List.ne_nil_of_mem hx, x, hx, rfl⟩
theorem got_dis {w : World} {n gb : Nat} {m : Mv} (f : Fr w n gb m) (o : OneL m) : DisX (msgL m) := by
  obtain ⟨g, q, _, hlay, _, _⟩ := f.os
  refine dis_app (dis_app (dis_app (dis_one _) (dis_opts hlay) fun a ha b hb k j r1 r2 => ?_) (dis_one _) fun a ha b hb k j r1 r2 => ?_) (dis_recs (fun i h => by obtain ⟨g, e, _⟩ := f.rs i h; exact ⟨g, e⟩) f.ra) fun a ha b hb k j r1 r2 => ?_
  · rw [List.mem_singleton] at ha; subst ha
    exact (in_optL hb).1 (o.d (rgD f r1)).1
  · rw [List.mem_singleton] at hb; subst hb
    rcases List.mem_append.1 ha with ha | ha
    · rw [List.mem_singleton] at ha; subst ha
      exact rgS f r2 (o.d (rgD f r1)).2.1
    · exact rgS f r2 (o.o (in_optL ha).1).1
  · have hr := (in_recL hb).1
    rcases List.mem_append.1 ha with ha | ha
    · rcases List.mem_append.1 ha with ha | ha
      · rw [List.mem_singleton] at ha; subst ha
        exact hr (o.d (rgD f r1)).2.2
      · exact hr (o.o (in_optL ha).1).2
    · rw [List.mem_singleton] at ha; subst ha
      exact hr (o.s (rgS f r1))
theorem cell_room {w : World} {b i : Nat} {cur : Array Value} {t : TypeId} {fr : Nat × Nat} {v : Value} (hb : bk w b = some (.cells cur t fr)) (h : w.cell? ⟨b, i, none⟩ = some v) : i < cur.size := by
  rw [bk_cell hb] at h
  exact (Array.getElem?_eq_some_iff.1 h).1
theorem room_bytes {w : World} {n g o : Nat} {A : Option Addr} {d : List UInt8} (h : Rd w n A d) (hA : d ≠ [] → A = some ⟨g, o, none⟩) (hu : d ≠ [] → Ub w g) : Room w A d.length 5 := fun h0 => by
  have hne : d ≠ [] := List.length_pos_iff.1 h0
  obtain ⟨cur, hb⟩ := hu hne
  obtain ⟨b, o', e, _, hc⟩ := h h0
  rw [hA hne] at e
  cases e
  refine ⟨g, o, cur, hA hne, hb, ?_⟩
  have := cell_room hb (hc (d.length - 1) (by omega))
  omega
theorem room_addrs {w : World} {n g : Nat} {A : Option Addr} {zs : List (List UInt8)} (h : Rws 16 (fun z : List UInt8 => (z.map B).toArray) w n A zs) (hA : zs ≠ [] → A = some ⟨g, 0, none⟩) (hu : zs ≠ [] → Ua w g) : Room w A (zs.length * 16) 23 := fun h0 => by
  have hne : zs ≠ [] := fun e => by rw [e] at h0; simp at h0
  obtain ⟨cur, hb⟩ := hu hne
  obtain ⟨g', o, c, t, fr, e, _, hb', hc⟩ := h hne
  rw [hA hne] at e
  cases e
  rw [hb] at hb'
  cases hb'
  have hl : 0 < zs.length := List.length_pos_iff.2 hne
  have := (hc (zs.length - 1) (by omega)).1
  exact ⟨g, 0, cur, hA hne, hb, by omega⟩
theorem got_fine {w : World} {n gb : Nat} {m : Mv} (h : MvOk w w.heap.size m) (f : Fr w n gb m) : ∀ d ∈ msgL m, d.Fine w := fun d hd => by
  rcases List.mem_append.1 hd with hd | hd
  · rcases List.mem_append.1 hd with hd | hd
    · rcases List.mem_append.1 hd with hd | hd
      · rw [List.mem_singleton] at hd; subst hd
        refine ⟨h.dl, by have := h.dc; omega, ?_⟩
        rw [f.dc]
        by_cases e : m.dd = []
        · rw [e]; exact fun h0 => absurd h0 (by simp)
        · obtain ⟨o, eo⟩ := f.d e
          exact room_bytes h.d (fun _ => eo) f.ud
      · obtain ⟨hne, x, hx, rfl⟩ := in_optL hd
        obtain ⟨g, q, _, hlay, _, hu⟩ := f.os
        obtain ⟨i, hi, rfl⟩ := List.mem_iff_getElem.1 hx
        obtain ⟨o, e1, e2, _⟩ := hlay.at' i hi
        have hok := h.os.2 _ (List.getElem_mem hi)
        refine ⟨hok.le, by have := hok.lt; omega, ?_⟩
        rw [e2]
        exact room_bytes hok.rd (fun _ => e1) fun _ => hu hne
    · rw [List.mem_singleton] at hd; subst hd
      refine ⟨h.sl, by have := h.sc; omega, ?_⟩
      rw [f.sc]
      by_cases e : m.ss = []
      · rw [e]; exact fun h0 => absurd h0 (by simp)
      · obtain ⟨g, eg, _, hu⟩ := f.ss e
        exact room_addrs h.ss (fun _ => eg) fun _ => hu
  · obtain ⟨hne, x, hx, rfl⟩ := in_recL hd
    obtain ⟨i, hi, rfl⟩ := List.mem_iff_getElem.1 hx
    obtain ⟨g, eg, _, ec, hu⟩ := f.rs i hi
    have hr := h.rss _ (List.getElem_mem hi)
    refine ⟨hr.2.2.1, by have := hr.2.2.2; omega, ?_⟩
    rw [ec]
    exact room_addrs hr.1 (fun _ => eg) fun _ => hu
theorem got_low {w : World} {n gb : Nat} {m : Mv} (f : Fr w n gb m) (hgb : m.dd ≠ [] → n ≤ gb) : ∀ d ∈ msgL m, ∀ b j, d.rg b j → n ≤ b := fun d hd b j r => by
  rcases List.mem_append.1 hd with hd | hd
  · rcases List.mem_append.1 hd with hd | hd
    · rcases List.mem_append.1 hd with hd | hd
      · rw [List.mem_singleton] at hd; subst hd
        have e := rgD f r
        obtain ⟨o, eo⟩ := f.d e
        obtain ⟨p, e1, _⟩ := r
        rw [eo] at e1
        cases e1
        exact hgb e
      · obtain ⟨hne, x, hx, rfl⟩ := in_optL hd
        obtain ⟨g, q, hg, hlay, _, _⟩ := f.os
        obtain ⟨i, hi, rfl⟩ := List.mem_iff_getElem.1 hx
        obtain ⟨o, e1, _⟩ := hlay.at' i hi
        obtain ⟨p, e2, _⟩ := r
        rw [e1] at e2
        cases e2
        exact hg hne
    · rw [List.mem_singleton] at hd; subst hd
      obtain ⟨g, eg, hg, _⟩ := f.ss (rgS f r)
      obtain ⟨p, e1, _⟩ := r
      rw [eg] at e1
      cases e1
      exact hg
  · obtain ⟨hne, x, hx, rfl⟩ := in_recL hd
    obtain ⟨i, hi, rfl⟩ := List.mem_iff_getElem.1 hx
    obtain ⟨g, eg, hg, _⟩ := f.rs i hi
    obtain ⟨p, e1, _⟩ := r
    rw [eg] at e1
    cases e1
    exact hg
/-- The bytes' twin and a message that is got, in a book. -/
theorem dis_book {w : World} {n gb T N c : Nat} {m : Mv} (f : Fr w n gb m) (o : OneL m) (hT : T < n) (hgb : m.dd ≠ [] → n ≤ gb) : DisX ([.by (some ⟨T, 0, none⟩) N c] ++ msgL m) :=
  dis_app (dis_one _) (got_dis f o) fun a ha b hb k j r1 r2 => by
    rw [List.mem_singleton] at ha; subst ha
    have h1 := got_low f hgb b hb k j r2
    obtain ⟨p, e, _⟩ := r1
    cases e
    omega
theorem got_data {m : Mv} {k c : UInt8} {L : List UInt8} (h : m.pl = getV k c L) (hd : m.dd ≠ []) : L ≠ [] := fun e => by
  apply hd
  have ed : m.dd = m.pl.data := rfl
  rw [ed, h, e]
  unfold getV
  repeat' split
  all_goals
    simp [mZ, Mv.pl]
end Go.Proofs.Ytjimmfbjhkoekaa

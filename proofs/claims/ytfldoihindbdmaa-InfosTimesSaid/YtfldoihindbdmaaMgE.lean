import Derived.Test.YtfldoihindbdmaaMgD
import Derived.Test.YtfldoihindbdmaaMgB
/- The book of lists: texts. -/
namespace Go.Proofs.Ytfldoihindbdmaa
open Go.RowKit
set_option maxRecDepth 100000
/-- A book with one list more. -/
structure Put1 (bb base : Nat) (vs : List Value) (hv u v' : Value) (w w1 : World) : Prop where
  cell : w1.cell? ⟨bb, 0, none⟩ = some hv
  frozen : w1.frozen? ⟨bb, 0, none⟩ = false
  book : BK (w1.setCell ⟨bb, 0, none⟩ v') bb base (vs ++ [u])
  frame : BFr bb w (w1.setCell ⟨bb, 0, none⟩ v')
  below : Below base w (w1.setCell ⟨bb, 0, none⟩ v')
theorem book_put {bb base : Nat} {vs : List Value} {hv u v' : Value} {w w0 w1 : World} (hb : bk w bb = some (.cells #[hv] 97 (0, 0))) (ho : w.ownsRow (bb + 1) 132 1 hv vs.length vs) (h0 : Below w.heap.size w w0)
    (hown' : w1.ownsRow (bb + 1) 132 1 v' (vs.length + 1) (vs ++ [u])) (hgrow : w0.grownBy w1 hv.ownBlock) (hbb : base ≤ bb) (hbase : base ≤ w.heap.size) : Put1 bb base vs hv u v' w w1 := by
  have hbl := bk_lt hb
  have hne : hv.ownBlock ≠ some bb := fun e => by
    have := (ho.lt bb e).1
    omega
  have hbb1 : bk w1 bb = some (.cells #[hv] 97 (0, 0)) := (hgrow.block bb (Nat.lt_of_lt_of_le hbl h0.size) (fun e => hne e.symm)).trans ((h0.block bb hbl).trans hb)
  have hne' : v'.ownBlock ≠ some bb := fun e => by
    have := (hown'.lt bb e).1
    omega
  refine ⟨(bk_cell hbb1 0).trans rfl, bk_frozen hbb1 0, ⟨v', by rw [bk_setCell_same, hbb1]; rfl, ?_⟩, ?_, ?_⟩
  · rw [List.length_append]
    exact ownsRow_setCell_other hown' hne' _
  · refine ⟨hgrow.os.trans h0.os, hgrow.tape.trans h0.tape, hgrow.output.trans h0.output, (by have h1 := hgrow.size; have h2 := h0.size; simp [World.setCell] at h1 ⊢; omega), fun k o hk hn ho' => ?_, fun k hk => ?_⟩
    rotate_left
    · rw [bk_setCell_other _ _ _ _ _ (by omega)]
      refine (hgrow.block k (by have := h0.size; omega) (fun e => ?_)).trans (h0.block k (by omega))
      have := (ho.lt k e.symm).1
      omega
    have hkl := bk_lt hk
    rw [bk_setCell_other _ _ _ _ _ hn]
    refine (hgrow.block k (Nat.lt_of_lt_of_le hkl h0.size) (fun e => ?_)).trans ((h0.block k hkl).trans hk)
    obtain ⟨_, ⟨rfl, _⟩ | ⟨g, cap, cur, rfl, _, hg, _⟩⟩ := ho
    · cases e
    · have : k = g := by simpa [Value.ownBlock] using e
      subst this
      have hg' : bk w k = _ := hg
      rw [hk] at hg'
      cases hg'
      exact ho' _ rfl
  · exact ((h0.mono hbase).grown hgrow (Nat.le_trans hbase h0.size) (fun g hg => by have := (ho.lt g hg).1; omega)).setCell hbb _
@[irreducible] def runeB (n : Int) : ByteArray := Utf8.encode n
theorem runeB_le (n : Int) : (runeB n).size ≤ 4 := by
  unfold runeB Utf8.encode
  dsimp only
  generalize (if Utf8.valid n = true then n.toNat else Utf8.runeError) = c
  by_cases h1 : c < 0x80
  · rw [if_pos h1]; exact show 1 ≤ 4 by omega
  · rw [if_neg h1]
    by_cases h2 : c < 0x800
    · rw [if_pos h2]; exact show 2 ≤ 4 by omega
    · rw [if_neg h2]
      by_cases h3 : c < 0x10000
      · rw [if_pos h3]; exact show 3 ≤ 4 by omega
      · rw [if_neg h3]; exact show 4 ≤ 4 by omega
def rnTo (X : Prop) (K : ByteArray → Prop) : Value → Prop
  | .int _ n => K (runeB n)
  | _ => X
@[go_sem] theorem rnTo_int (X : Prop) (K : ByteArray → Prop) (k : IntKind) (n : Int) : rnTo X K (.int k n) = K (runeB n) := rfl
theorem run_conv_rune (w : World) (k : IntKind) (n : Int) : (convert 21 9 (.int k n)).run Try.prog w = .ok (.string (runeB n)) w := by
  unfold convert runeB
  have h1 : Try.prog.underlying 21 = some (.int .i32) := by kernel_rfl
  have h2 : Try.prog.underlying 9 = some .string := by kernel_rfl
  simp [h1, h2, Conv.intToString, go_sem]
@[go_sem ↓] theorem wp_conv_rune (dst : Option Tmp) (x : Operand) (t : TypeId) (pos : String) (af : Array Edge) (g : Option (Nat × Bool)) (a : Act) (w : World) (K : Act → World → Prop) (Q : Exit → Act → World → Prop) :
    Oper.wp Try.prog ⟨dst, .convert 21 9 x, t, pos, af, g⟩ a w K Q = rnTo (wpHid Try.prog ⟨dst, .convert 21 9 x, t, pos, af, g⟩ a w K Q) (fun b => K (a.put dst (.string b)) w) (a.eval x) := by
  unfold rnTo
  split
  · rename_i k n h
    unfold Oper.wp execOp
    simp only [h, Sem.run_bind, run_conv_rune, Result.andThen_ok]
    rfl
  · unfold wpHid; rfl
theorem bookTexts_any (bb base : Nat) (vs : List Value) (A : Option Addr) (n c : Nat) (w : World) (h : BK w bb base vs) (hl : vs.length < 2 ^ 30) (hbb : base ≤ bb) (hbase : base ≤ w.heap.size) :
    Calls Try.prog 43 #[.pointer (some ⟨bb, 0, none⟩), .slice A n c] w fun e w' => ∃ i x, e = .returned (.tuple #[]) ∧ BK w' bb base (vs ++ [.iface 130 (stripS A n c i x)]) ∧ BFr bb w w' ∧ Below base w w' := by
  obtain ⟨i0, hi, hz0, hz1, hz2⟩ := info_parts infoLeaf
  have C := Lib.hid (bookNext_any bb base vs w h hl)
  obtain ⟨hv, hb, ho⟩ := h
  have c0 := bk_cell hb 0
  simp at c0
  have hbl := bk_lt hb
  have hf0 := bk_frozen hb 0
  have r1 := runeB_le (97 + (1 + (vs.length : Int)) % 26)
  have r2 := runeB_le (97 + (1 + (vs.length : Int)) / 26)
  have HO := Lib.hid ho; have HB := Lib.hid hb
  clear ho hb
  obtain ⟨N, hN⟩ : ∃ N, N = vs.length := ⟨_, rfl⟩
  have HNN := Lib.hid hN
  clear hN
  go_enter Try.func43, Try.ntmps43
  go_wp2_with fail
  refine C.out.mono ?_
  rintro e w1 ⟨rfl, rfl⟩
  clear C
  go_wp2_with (at_builtin; refine append_one rfl _ _ 95 rfl (bb + 1) 132 i0 .nilIface 16 Try.underlying95 hi hz0 hz1 hz2 rfl (by omega) _ _ _ rfl (HO.out.alloc _) (by omega) (by simp; omega) w.heap.size _ _ _ rfl (bk_alloc_at _ _ _ rfl) rfl ?_)
  intro v' w1 hown' hgrow
  obtain ⟨A', c', rfl⟩ := ownsRow_header hown'
  have P := book_put HB.out HO.out ((Below.refl _ _).alloc (Nat.le_refl _) _) hown' hgrow hbb hbase
  have hc1 := P.cell
  have hf1 := P.frozen
  have HF := Lib.hid (And.intro P.book (And.intro P.frame P.below))
  clear hown' hgrow P
  go_wp2_with fail
  go_end0
  exact ⟨_, _, rfl, HF.out.1, HF.out.2.1, HF.out.2.2⟩
end Go.Proofs.Ytfldoihindbdmaa
/- The book of lists: addresses. -/
namespace Go.Proofs.Ytfldoihindbdmaa
open Go.RowKit
set_option maxRecDepth 100000
@[go_sem ↓] theorem ldAddrB (dst : Option Tmp) (x : Operand) (t : TypeId) (pos : String) (af : Array Edge) (g : Option (Nat × Bool)) (a : Act) (w : World) (K : Act → World → Prop) (Q : Exit → Act → World → Prop) :
    Oper.wp Try.prog ⟨dst, .load 110 x, t, pos, af, g⟩ a w K Q = ldPtr (wpHid Try.prog ⟨dst, .load 110 x, t, pos, af, g⟩ a w K Q) 16 w (fun c => K (a.put dst (.agg c)) w) (a.eval x) :=
  wp_load_bk 110 16 _ Try.underlying110 rfl (by kernel_rfl) dst x t pos af g a w K Q
@[go_sem ↓] theorem stAddrB (dst : Option Tmp) (x y : Operand) (t : TypeId) (pos : String) (af : Array Edge) (g : Option (Nat × Bool)) (a : Act) (w : World) (K : Act → World → Prop) (Q : Exit → Act → World → Prop) :
    Oper.wp Try.prog ⟨dst, .store 110 x y, t, pos, af, g⟩ a w K Q = stAt (wpHid Try.prog ⟨dst, .store 110 x y, t, pos, af, g⟩ a w K Q) 16 w (fun w' => K (a.put dst undef) w') (a.eval x) (a.eval y) :=
  wp_store_any 110 16 (by kernel_rfl) dst x y t pos af g a w K Q
@[go_sem ↓] theorem qlAddrB (dst : Option Tmp) (x : Operand) (t : TypeId) (pos : String) (af : Array Edge) (g : Option (Nat × Bool)) (a : Act) (m : Nat) (W : World) (K : Act → Prop) :
    Oper.quiet Try.prog ⟨dst, .load 110 x, t, pos, af, g⟩ a (fun w' => ∃ x : Later m W, w' = x.w) K =
      ldLater (quietHid Try.prog ⟨dst, .load 110 x, t, pos, af, g⟩ a (fun w' => ∃ x : Later m W, w' = x.w) K) m 16 W (fun c => K (a.put dst (.agg c))) (a.eval x) :=
  quiet_load_bk 110 16 _ Try.underlying110 rfl (by kernel_rfl) dst x t pos af g a m W K
theorem builtStA (parts : List (Nat × Value)) : Try.prog.built 128 parts = Instr.fill (#[(0, 1), (1, 16), (17, 16)][·]?) (#[Value.slice none 0 0] ++ Array.replicate 32 (.int .u8 0)) parts := by kernel_rfl
@[go_sem] theorem builtStA_3 (A : Option Addr) (n c : Nat) (i x : List UInt8) (hi : i.length = 16) (hx : x.length = 16) : Try.prog.built 128 [(0, .slice A n c), (1, .agg (List.map B i).toArray), (2, .agg (List.map B x).toArray)] = some (stC A n c i x) := by
  rw [builtStA, show [(0, Value.slice A n c), (1, Value.agg (List.map B i).toArray), (2, Value.agg (List.map B x).toArray)] = partsAt 0 [.slice A n c, .agg (List.map B i).toArray, .agg (List.map B x).toArray] from rfl, fill_all _ _ 0 0 _ (by simp [placesOk, Value.cells, hi, hx]) (by simp [widths, Value.cells, hi, hx])]
  simp [widths, Value.cells, hi, hx, stC]
@[go_sem ↓] theorem bwStA (dst : Option Tmp) (ps : Array (Nat × Operand)) (t : TypeId) (pos : String) (af : Array Edge) (g : Option (Nat × Bool)) (a : Act) (w : World) (K : Act → World → Prop) (Q : Exit → Act → World → Prop) :
    Oper.wp Try.prog ⟨dst, .build 128 ps, t, pos, af, g⟩ a w K Q = bldTo (wpHid Try.prog ⟨dst, .build 128 ps, t, pos, af, g⟩ a w K Q) (fun c => K (a.put dst (.agg c)) w) (Try.prog.built 128 (ps.toList.map fun x => (x.1, a.eval x.2))) :=
  wp_build_bk 128 dst ps t pos af g a w K Q
@[go_sem ↓] theorem bqStA (dst : Option Tmp) (ps : Array (Nat × Operand)) (t : TypeId) (pos : String) (af : Array Edge) (g : Option (Nat × Bool)) (a : Act) (m : Nat) (W : World) (K : Act → Prop) :
    Oper.quiet Try.prog ⟨dst, .build 128 ps, t, pos, af, g⟩ a (fun w' => ∃ x : Later m W, w' = x.w) K = bldTo (quietHid0 Try.prog ⟨dst, .build 128 ps, t, pos, af, g⟩ a (fun w' => ∃ x : Later m W, w' = x.w) K) (fun c => K (a.put dst (.agg c))) (Try.prog.built 128 (ps.toList.map fun x => (x.1, a.eval x.2))) :=
  quiet_build_bk 128 dst ps t pos af g a _ ⟨W, ⟨W, Below.refl _ _⟩, rfl⟩ K
theorem appL : App1 95 132 .nilIface 1 16 := ⟨Try.underlying95, infoLeaf, rfl, by omega, by omega⟩
/-- What an append of one list more to a book needs. -/
theorem app_facts {w W : World} {bb : Nat} {hv u : Value} {vs : List Value} (ho : w.ownsRow (bb + 1) 132 1 hv vs.length vs) (hbl : bb < w.heap.size) (b : Below w.heap.size w W) :
    (W.alloc (.cells #[u] 132)).ownsRow (bb + 1) 132 1 hv vs.length vs ∧ (∀ j x, ([u] : List Value)[j]? = some x → (W.alloc (.cells #[u] 132)).cell? ⟨W.heap.size, j, none⟩ = some x) ∧ bb + 1 ≤ (W.alloc (.cells #[u] 132)).heap.size := by
  refine ⟨own_below ho (b.alloc b.size _), fun j x hj => ?_, by have := b.size; simp; omega⟩
  rw [bk_cell (bk_alloc_at W (.cells #[u] 132) _ rfl), List.getElem?_toArray]
  exact hj
theorem sign_any (n : Int) (m : UInt8) : ∃ R : List UInt8, R.length = 16 ∧ ∀ w, Calls Try.prog 74 #[.int .i64 n, B m] w fun e w' => e = .returned (av R) ∧ Below w.heap.size w w' := by
  obtain ⟨x, ex⟩ := u8_mod n
  obtain ⟨y, ey⟩ := u8_mod (n / 256)
  refine ⟨[x, y, m, 0, 0, 0, 0, 0, 0, 0, 0, 0, 0, 0, 0, 99], rfl, fun w => ?_⟩
  go_enter Try.func74, Try.ntmps74
  go_wp2
  refine ret_cell (cs := (List.map B [x, y, m, 0, 0, 0, 0, 0, 0, 0, 0, 0, 0, 0, 0, 99]).toArray) rfl rfl rfl ?_ Try.underlying110 rfl (by kernel_rfl) ⟨rfl, ?_⟩
  · rw [bk_alloc_at _ _ _ rfl]; rfl
  · exact (Below.refl _ _).alloc (Nat.le_refl _) _
set_option maxHeartbeats 4000000 in
theorem bookAddrs_any (bb base : Nat) (vs : List Value) (A : Option Addr) (n c : Nat) (w : World) (h : BK w bb base vs) (hl : vs.length < 2 ^ 30) (hbb : base ≤ bb) (hbase : base ≤ w.heap.size) :
    Calls Try.prog 42 #[.pointer (some ⟨bb, 0, none⟩), .slice A n c] w fun e w' => ∃ i x, e = .returned (.tuple #[]) ∧ i.length = 16 ∧ x.length = 16 ∧ BK w' bb base (vs ++ [.iface 128 (stripA A n c i x)]) ∧ BFr bb w w' ∧ Below base w w' := by
  have C := Lib.hid (bookNext_any bb base vs w h hl)
  obtain ⟨hv, hb, ho⟩ := h
  have c0 := bk_cell hb 0
  simp at c0
  have hbl := bk_lt hb
  have HO := Lib.hid ho; have HB := Lib.hid hb
  clear ho hb
  have HL30 := Lib.hid hl
  obtain ⟨z, hz⟩ : ∃ z : Int, z = 1 + (vs.length : Int) := ⟨_, rfl⟩
  rw [← hz] at C
  clear hz hl
  obtain ⟨R1, hR1, HS1⟩ := sign_any z 1
  obtain ⟨R2, hR2, HS2⟩ := sign_any z 2
  have H1 : Hid (∀ W, Calls Try.prog 74 #[.int .i64 z, .int .u8 1] W fun e w' => e = .returned (.agg (List.map B R1).toArray) ∧ Below W.heap.size W w') := Lib.hid HS1
  have H2 : Hid (∀ W, Calls Try.prog 74 #[.int .i64 z, .int .u8 2] W fun e w' => e = .returned (.agg (List.map B R2).toArray) ∧ Below W.heap.size W w') := Lib.hid HS2
  have HU : Hid (∀ u ∈ ([.iface 128 (.agg (stC A n c R1 R2))] : List Value), u.oneCell' = true) := Lib.hid (by intro u hu; have := List.mem_singleton.1 hu; subst this; rfl)
  have HFA : Hid (∀ W, Below w.heap.size w W → _) := Lib.hid fun W b => app_facts (W := W) (u := .iface 128 (.agg (stC A n c R1 R2))) HO.out hbl b
  have HLW := Lib.hid hbl
  have B0 : Hid (Below w.heap.size w w.drew) := Lib.hid (by (repeat (first | exact Below.refl _ _ | assumption | refine Below.drew ?_ | refine bdrewN ?_ _ | refine Below.alloc ?_ (by first | omega | (simp <;> omega) | (simp only [World.size_alloc] <;> omega)) _ | refine below_setRow ?_ (by first | omega | (simp <;> omega)) _ | refine Below.setCell ?_ (by first | omega | (simp <;> omega)) _)))
  clear HS1 HS2
  go_enter Try.func42, Try.ntmps42
  go_wp2_with fail
  refine C.out.mono ?_
  rintro e w1 ⟨rfl, rfl⟩
  clear C
  go_upto_region 1 with fail
  have kD : w.drew.cell? ⟨bb, 0, none⟩ = some hv := c0
  clear c0
  go_region_law (first
    | (refine step_app1 appL rfl (.tmp 11) (.tmp 19) rfl (bb + 1) hv vs.length vs (by simp [Act.eval, Act.put]) AF.out.1 wC.heap.size 1 (by simp [Act.eval, Act.put]) [.iface 128 (.agg (stC A n c R1 R2))] rfl AF.out.2.1 HU.out AF.out.2.2 HL30.out ?_; intro A6 c6 w6 ho6 hg6 hc6 _; have PF := Lib.hid (book_put HB.out HO.out (BC.out.alloc BC.out.size _) ho6 hg6 hbb hbase); have k6 := PF.out.cell; have f6 := PF.out.frozen; clear ho6 hg6 hc6)
    | (go_simp; go_at_call 74; with_reducible refine (H1.out w.drew).mono ?_; rintro e wA ⟨rfl, bA⟩; have BA := Lib.hid (B0.out.trans (bA.mono B0.out.size)); have kA := (bA.cell (p := ⟨bb, 0, none⟩) (Nat.lt_of_lt_of_le HLW.out B0.out.size)).trans kD; clear bA)
    | (go_simp; go_at_call 74; with_reducible refine (H2.out w.drew).mono ?_; rintro e wB ⟨rfl, bB⟩; have BB := Lib.hid (B0.out.trans (bB.mono B0.out.size)); have kB := (bB.cell (p := ⟨bb, 0, none⟩) (Nat.lt_of_lt_of_le HLW.out B0.out.size)).trans kD; clear bB)
    | (go_simp; go_at_call 74; with_reducible refine (H2.out wA).mono ?_; rintro e wC ⟨rfl, bC⟩; have BC := Lib.hid (BA.out.trans (bC.mono BA.out.size)); have kC := (bC.cell (p := ⟨bb, 0, none⟩) (Nat.lt_of_lt_of_le HLW.out BA.out.size)).trans kA; have lC := Nat.lt_of_lt_of_le HLW.out BC.out.size; have AF := Lib.hid (HFA.out wC BC.out); clear bC)
    | (go_simp; go_at_call 74; with_reducible refine (H1.out wB).mono ?_; rintro e wC ⟨rfl, bC⟩; have BC := Lib.hid (BB.out.trans (bC.mono BB.out.size)); have kC := (bC.cell (p := ⟨bb, 0, none⟩) (Nat.lt_of_lt_of_le HLW.out BB.out.size)).trans kB; have lC := Nat.lt_of_lt_of_le HLW.out BC.out.size; have AF := Lib.hid (HFA.out wC BC.out); clear bC))
  all_goals
    have HF := Lib.hid (And.intro PF.out.book (And.intro PF.out.frame PF.out.below))
    clear PF
    go_wp2_with fail
    go_end0
    exact ⟨R1, R2, rfl, hR1, hR2, HF.out⟩
end Go.Proofs.Ytfldoihindbdmaa
/- A list of addresses, of texts, of a book. -/
namespace Go.Proofs.Ytfldoihindbdmaa
open Go.RowKit
set_option maxRecDepth 100000
theorem rg_apart {A : Option Addr} {a m c b j : Nat} (h1 : rg A a m b j) (h2 : rg A m c b j) : False := by
  obtain ⟨o, e, _, h3⟩ := h1
  obtain ⟨o', e', h4, _⟩ := h2
  rw [e] at e'
  cases e'
  omega
theorem Room.ty {w : World} {A : Option Addr} {c b j : Nat} {t : TypeId} (h : Room w A c t) (hr : rg A 0 c b j) : ∃ cur, bk w b = some (.cells cur t (0, 0)) := by
  obtain ⟨o, e, h1, h2⟩ := hr
  obtain ⟨b', o', cur, e', hb, _⟩ := h (by omega)
  rw [e] at e'
  cases e'
  exact ⟨cur, hb⟩
theorem rg_wide {A : Option Addr} {lo hi lo' hi' b j : Nat} (h : rg A lo hi b j) (h1 : lo' ≤ lo) (h2 : hi ≤ hi') : rg A lo' hi' b j := by
  obtain ⟨o, e, h3, h4⟩ := h
  exact ⟨o, e, by omega, by omega⟩
theorem Has.stay {S : Nat → Nat → Prop} {w w' : World} {A : Option Addr} {lo hi : Nat} {v : Value} (h : Has w A lo hi v) (hw : Wrt S w w') (hs : ∀ b j, rg A lo hi b j → ¬ S b j) : Has w' A lo hi v := fun j h1 h2 => by
  obtain ⟨b, o, e, hc⟩ := h j h1 h2
  refine ⟨b, o, e, ?_⟩
  unfold World.cell? at hc
  split at hc
  · rename_i cur t fr hb
    obtain ⟨cur', h3, h4, h5⟩ := hw.blk b cur t fr hb
    rw [bk_cell h3, h5 (o + j) (hs _ _ ⟨o, e, by omega, by omega⟩)]
    simpa using hc
  · cases hc
theorem HasA.keep {S : Nat → Nat → Prop} {w w' : World} {A : Option Addr} {lo hi : Nat} {v : List UInt8} (h : HasA w A lo hi v) (hw : Wrt S w w') (hs : ∀ b j, rg A (lo * 16) (hi * 16) b j → ¬ S b j) : HasA w' A lo hi v := fun k h1 h2 => by
  obtain ⟨b, o, cur, e, hb, hl, hx⟩ := h k h1 h2
  obtain ⟨cur', h3, h4, h5⟩ := hw.blk b cur _ _ hb
  refine ⟨b, o, cur', e, h3, by omega, ?_⟩
  rw [← hx]
  unfold xt
  apply Array.ext_getElem?
  intro j
  simp only [Array.getElem?_extract, h4]
  split
  · exact h5 _ (hs _ _ ⟨o, e, by omega, by omega⟩)
  · rfl
/-- A list of addresses. -/
def leafA (A : Option Addr) (n c : Nat) (i x : List UInt8) (hi : i.length = 16) (hx : x.length = 16) (hn : n ≤ c) (hc : c ≤ 9223372036854775807) : Leaf where
  T := 128
  v := stripA A n c i x
  f1 := 105
  f2 := 106
  f3 := 107
  m1 := fun w => by kernel_rfl
  m2 := fun w => by kernel_rfl
  m3 := fun w => by kernel_rfl
  e1 := fun w => by kernel_rfl
  e2 := fun w => by kernel_rfl
  e3 := fun w => by kernel_rfl
  Rin := rg A 0 (n * 16)
  Rout := rg A (n * 16) (c * 16)
  OK := fun w => Room w A (c * 16) 110
  In := fun w => HasA w A 0 n i
  Out := fun w => HasA w A n c x
  okW := fun h hw => h.wrt hw
  inK := fun h hw hs => h.keep hw fun b j hr => hs b j (by simpa using hr)
  outK := fun h hw hs => h.keep hw hs
  dis := fun b j h1 h2 => rg_apart h1 h2
  fill := fun w h => afill_any A n c i x hi hx w h hn hc
  room := fun w h => afillRoom_any A n c i x hi hx w h hn hc
  kept := fun w _ h1 h2 => akept_any A n c i x hi hx w h1 h2 hn hc
  ty := fun h hr => by
    obtain ⟨cur, hb⟩ := h.ty (hr.elim (fun q => rg_wide q (Nat.le_refl _) (by omega)) (fun q => rg_wide q (Nat.zero_le _) (Nat.le_refl _)))
    exact ⟨cur, _, hb, by decide, by decide⟩
theorem leafA_R {A : Option Addr} {n c : Nat} {i x : List UInt8} {hi hx hn hc} {b j : Nat} (h : (leafA A n c i x hi hx hn hc).R b j) : rg A 0 (c * 16) b j :=
  h.elim (fun q => rg_wide q (Nat.le_refl _) (by omega)) (fun q => rg_wide q (Nat.zero_le _) (Nat.le_refl _))
/-- A list of texts. -/
def leafS (A : Option Addr) (n c : Nat) (i x : ByteArray) (hn : n ≤ c) (hc : c ≤ 9223372036854775807) : Leaf where
  T := 130
  v := stripS A n c i x
  f1 := 108
  f2 := 109
  f3 := 110
  m1 := fun w => by kernel_rfl
  m2 := fun w => by kernel_rfl
  m3 := fun w => by kernel_rfl
  e1 := fun w => by kernel_rfl
  e2 := fun w => by kernel_rfl
  e3 := fun w => by kernel_rfl
  Rin := rg A 0 n
  Rout := rg A n c
  OK := fun w => Room w A c 9
  In := fun w => Has w A 0 n (.string i)
  Out := fun w => Has w A n c (.string x)
  okW := fun h hw => h.wrt hw
  inK := fun h hw hs => Has.stay h hw hs
  outK := fun h hw hs => Has.stay h hw hs
  dis := fun b j h1 h2 => rg_apart h1 h2
  fill := fun w h => sfill_any A n c i x w h hn hc
  room := fun w h => sfillRoom_any A n c i x w h hn hc
  kept := fun w h h1 h2 => skept_any A n c i x w h1 h2 (fun h0 => by obtain ⟨b, o, cur, e, hb, _⟩ := h h0; exact ⟨b, o, e, bk_lt hb⟩) hn hc
  ty := fun h hr => by
    obtain ⟨cur, hb⟩ := h.ty (hr.elim (fun q => rg_wide q (Nat.le_refl _) (by omega)) (fun q => rg_wide q (Nat.zero_le _) (Nat.le_refl _)))
    exact ⟨cur, _, hb, by decide, by decide⟩
theorem leafS_R {A : Option Addr} {n c : Nat} {i x : ByteArray} {hn hc} {b j : Nat} (h : (leafS A n c i x hn hc).R b j) : rg A 0 c b j :=
  h.elim (fun q => rg_wide q (Nat.le_refl _) (by omega)) (fun q => rg_wide q (Nat.zero_le _) (Nat.le_refl _))
end Go.Proofs.Ytfldoihindbdmaa
/- What a cutter gives: plain. -/
namespace Go.Proofs.Ytfldoihindbdmaa
open Go.RowKit
/-- What is cut, and what is left, when n bytes are asked for. -/
def cutB (n : Int) : Option (List UInt8) → List UInt8 × Option (List UInt8)
  | none => ([], none)
  | some l => if n < 0 ∨ (l.length : Int) < n then ([], none) else (l.take n.toNat, some (l.drop n.toNat))
theorem cutB_none (n : Int) : cutB n none = ([], none) := rfl
theorem cutB_bad {n : Int} {l : List UInt8} (h : n < 0 ∨ (l.length : Int) < n) : cutB n (some l) = ([], none) := by simp [cutB, h]
theorem cutB_good {n : Nat} {l : List UInt8} (h : n ≤ l.length) : cutB n (some l) = (l.take n, some (l.drop n)) := by
  simp only [cutB]
  rw [if_neg (by omega)]
  simp
/-- How many bytes a number asks for. -/
def ask (n : Int) : Int := if n < 1 ∨ 8 < n then -1 else n
theorem cutB_len (n : Int) (st : Option (List UInt8)) : (cutB (ask n) st).1.length ≤ 8 := by
  cases st with
  | none => simp [cutB]
  | some l =>
    unfold ask
    split
    · rw [cutB_bad (.inl (by omega))]; simp
    · by_cases hb : n < 0 ∨ (l.length : Int) < n
      · rw [cutB_bad hb]; simp
      · obtain ⟨m, rfl⟩ := Int.eq_ofNat_of_zero_le (show 0 ≤ n by omega)
        have := cutB_good (n := m) (l := l) (by omega)
        rw [show ((m : Nat) : Int) = (m : Int) from rfl] at this
        rw [this, List.length_take]; omega
end Go.Proofs.Ytfldoihindbdmaa
/- The program's cutter, by where it stands. -/
namespace Go.Proofs.Ytfldoihindbdmaa
open Go.RowKit
set_option maxRecDepth 100000
/-- The bytes that are cut lie in block gb. -/
def PB (w : World) (gb : Nat) (L : List UInt8) : Prop := 0 < L.length → ∃ cur, bk w gb = some (.cells cur 5 (0, 0)) ∧ L.length ≤ cur.size ∧ cur.toList.take L.length = L.map B
/-- A cutter of them stands behind q of them, or is spoilt. -/
def PK (w : World) (gc gb : Nat) (L : List UInt8) : Option Nat → Prop
  | some q => q ≤ L.length ∧ ∃ A c, bk w gc = some (cut A (L.length - q) c true) ∧ L.length - q ≤ c ∧ (q < L.length → A = some ⟨gb, q, none⟩)
  | none => KB w gc
def stOf (L : List UInt8) (p : Option Nat) : Option (List UInt8) := p.map fun q => L.drop q
def posB (n : Int) (L : List UInt8) : Option Nat → Option Nat
  | none => none
  | some q => if n < 0 ∨ ((L.length - q : Nat) : Int) < n then none else some (q + n.toNat)
theorem posB_st (n : Int) (L : List UInt8) (p : Option Nat) : (cutB n (stOf L p)).2 = stOf L (posB n L p) := by
  cases p with
  | none => rfl
  | some q =>
    show (cutB n (some (L.drop q))).2 = _
    unfold cutB posB stOf
    simp only [List.length_drop]
    split
    · rfl
    · simp
theorem PB.rd {w : World} {gb q m n : Nat} {L : List UInt8} (h : PB w gb L) (hg : gb < n) : Rd w n (some ⟨gb, q, none⟩) ((L.drop q).take m) := fun h0 => by
  rw [List.length_take, List.length_drop] at h0
  obtain ⟨cur, hb, hl, ht⟩ := h (by omega)
  refine ⟨gb, q, rfl, hg, fun j hj => ?_⟩
  rw [List.length_take, List.length_drop] at hj
  rw [bk_cell hb]
  have e : (cur.toList.take L.length)[q + j]? = (L.map B)[q + j]? := by rw [ht]
  rw [List.getElem?_take_of_lt (by omega), List.getElem?_map, List.getElem?_eq_getElem (show q + j < L.length by omega)] at e
  rw [← Array.getElem?_toList]
  simpa using e
theorem PB.grown {w w' : World} {gb g : Nat} {L : List UInt8} (h : PB w gb L) (hg : w.grownBy w' (some g)) (hne : gb ≠ g) : PB w' gb L := fun h0 => by
  obtain ⟨cur, hb, h1, h2⟩ := h h0
  exact ⟨cur, (hg.block gb (bk_lt hb) (fun e => hne (by injection e))).trans hb, h1, h2⟩
def PTook (gc gb : Nat) (L : List UInt8) (p : Option Nat) (n : Int) (w : World) (e : Ending) (w' : World) : Prop :=
  ∃ A, e = .returned (.slice A (cutB n (stOf L p)).1.length (cutB n (stOf L p)).1.length) ∧ (0 < (cutB n (stOf L p)).1.length → ∃ q, p = some q ∧ A = some ⟨gb, q, none⟩ ∧ posB n L p = some (q + (cutB n (stOf L p)).1.length) ∧ q + (cutB n (stOf L p)).1.length ≤ L.length ∧ (cutB n (stOf L p)).1 = (L.drop q).take (cutB n (stOf L p)).1.length) ∧
    PK w' gc gb L (posB n L p) ∧ w.grownBy w' (some gc)
theorem Chg.grown {g : Nat} {o : Obj} {w w' : World} (h : Chg g o w w') : w.grownBy w' (some g) := h.only.grown
theorem PK.next {w w' : World} {gc gb q m N c : Nat} {L : List UInt8} {A : Option Addr} (hq : q ≤ L.length) (hN : N = L.length - q) (hc : N ≤ c) (hm : m ≤ N) (hA : q < L.length → A = some ⟨gb, q, none⟩) (h : Chg gc (cut (adv A c m) (N - m) (c - m) true) w w') : PK w' gc gb L (some (q + m)) := by
  refine ⟨by omega, adv A c m, c - m, ?_, by omega, fun hlt => ?_⟩
  · rw [show L.length - (q + m) = N - m by omega]; exact h.new
  · have := hA (by omega)
    subst this
    unfold adv
    rw [if_neg (by omega)]
    show some (Addr.add _ m) = _
    unfold Addr.add
    split
    · rename_i h0; rw [h0]; rfl
    · rfl
theorem pbytes_any (gc gb : Nat) (L : List UInt8) (p : Option Nat) (n : Int) (w : World) (h : PK w gc gb L p) :
    Calls Try.prog 57 #[.pointer (some ⟨gc, 0, none⟩), .int .i64 n] w (PTook gc gb L p n w) := by
  cases p with
  | none =>
    obtain ⟨A, N, c, hb⟩ := h
    refine (bytes_bad gc N c A false n w hb (.inl rfl)).mono ?_
    rintro e w' ⟨rfl, hch⟩
    exact ⟨none, rfl, fun h0 => absurd h0 (by simp [stOf, cutB]), ⟨_, _, _, hch.new⟩, hch.grown⟩
  | some q =>
    obtain ⟨hq, A, c, hb, hc, hA⟩ := h
    by_cases hbad : n < 0 ∨ ((L.length - q : Nat) : Int) < n
    · refine (bytes_bad gc _ c A true n w hb (.inr hbad)).mono ?_
      rintro e w' ⟨rfl, hch⟩
      have e1 : cutB n (stOf L (some q)) = ([], none) := cutB_bad (by rw [List.length_drop]; exact hbad)
      have e2 : posB n L (some q) = none := by simp only [posB, if_pos hbad]
      unfold PTook
      rw [e1, e2]
      exact ⟨none, rfl, fun h0 => absurd h0 (by simp), ⟨_, _, _, hch.new⟩, hch.grown⟩
    · obtain ⟨m, rfl⟩ := Int.eq_ofNat_of_zero_le (show 0 ≤ n by omega)
      have hm : m ≤ L.length - q := by omega
      refine (bytes_good gc (L.length - q) c A m w hb hm hc).mono ?_
      rintro e w' ⟨rfl, hch⟩
      have e1 : cutB (m : Int) (stOf L (some q)) = ((L.drop q).take m, some ((L.drop q).drop m)) := cutB_good (by rw [List.length_drop]; exact hm)
      have e2 : posB (m : Int) L (some q) = some (q + m) := by simp only [posB, if_neg hbad]; simp
      have e3 : ((L.drop q).take m).length = m := by rw [List.length_take, List.length_drop]; omega
      unfold PTook
      rw [show ((m : Nat) : Int) = (m : Int) from rfl, e1, e2]
      simp only [e3]
      exact ⟨A, rfl, fun h0 => ⟨q, rfl, hA (by omega), rfl, by omega, rfl⟩, PK.next hq rfl hc hm hA hch, hch.grown⟩

def PNum (gc gb : Nat) (L : List UInt8) (p : Option Nat) (n : Int) (w : World) (e : Ending) (w' : World) : Prop :=
  e = .returned (.int .u64 (val (cutB (ask n) (stOf L p)).1)) ∧ PK w' gc gb L (posB (ask n) L p) ∧ w.grownBy w' (some gc)
theorem pnum_any (gc gb : Nat) (L : List UInt8) (p : Option Nat) (n : Int) (w : World) (h : PK w gc gb L p) (hB : PB w gb L) (hg : gb < gc) :
    Calls Try.prog 56 #[.pointer (some ⟨gc, 0, none⟩), .int .i64 n] w (PNum gc gb L p n w) := by
  cases p with
  | none =>
    obtain ⟨A, N, c, hb⟩ := h
    refine (num_take gc N c A false n w hb (.inl rfl)).mono ?_
    rintro e w' ⟨rfl, hch⟩
    exact ⟨rfl, ⟨_, _, _, hch.new⟩, hch.grown⟩
  | some q =>
    obtain ⟨hq, A, c, hb, hc, hA⟩ := h
    by_cases hbad : n < 1 ∨ 8 < n ∨ ((L.length - q : Nat) : Int) < n
    · refine (num_take gc _ c A true n w hb (.inr hbad)).mono ?_
      rintro e w' ⟨rfl, hch⟩
      have hb2 : ask n < 0 ∨ ((L.length - q : Nat) : Int) < ask n := by unfold ask; split <;> omega
      have e1 : cutB (ask n) (stOf L (some q)) = ([], none) := cutB_bad (by rw [List.length_drop]; exact hb2)
      have e2 : posB (ask n) L (some q) = none := by simp only [posB, if_pos hb2]
      unfold PNum
      rw [e1, e2]
      exact ⟨rfl, ⟨_, _, _, hch.new⟩, hch.grown⟩
    · obtain ⟨m, rfl⟩ := Int.eq_ofNat_of_zero_le (show 0 ≤ n by omega)
      have hm : m ≤ L.length - q := by omega
      have hask : ask (m : Int) = m := by unfold ask; rw [if_neg (by omega)]
      have hA' := hA (by omega)
      subst hA'
      refine (num_good gc (L.length - q) c _ ((L.drop q).take m) m w hb (hB.rd hg) (by rw [List.length_take, List.length_drop]; omega) (by omega) (by omega) hm hc).mono ?_
      rintro e w' ⟨rfl, hch⟩
      have e1 : cutB (m : Int) (stOf L (some q)) = ((L.drop q).take m, some ((L.drop q).drop m)) := cutB_good (by rw [List.length_drop]; exact hm)
      have e2 : posB (m : Int) L (some q) = some (q + m) := by simp only [posB]; rw [if_neg (by omega)]; simp
      unfold PNum
      rw [show ((m : Nat) : Int) = (m : Int) from rfl, hask, e1, e2]
      exact ⟨rfl, PK.next hq rfl hc hm hA hch, hch.grown⟩
theorem PK.obj {w : World} {gc gb : Nat} {L : List UInt8} {p : Option Nat} (h : PK w gc gb L p) : ∃ cs, Go.Proofs.Ytfldoihindbdmaa.bk w gc = some (.cells cs 136 (0, 0)) := by
  cases p with
  | none => obtain ⟨A, N, c, hb⟩ := h; exact ⟨_, hb⟩
  | some q => obtain ⟨_, A, c, hb, _⟩ := h; exact ⟨_, hb⟩
theorem PK.keep {w w' : World} {gc gb : Nat} {L : List UInt8} {p : Option Nat} (h : PK w gc gb L p) (hk : Go.Proofs.Ytfldoihindbdmaa.bk w' gc = Go.Proofs.Ytfldoihindbdmaa.bk w gc) : PK w' gc gb L p := by
  cases p with
  | none => obtain ⟨A, N, c, hb⟩ := h; exact ⟨A, N, c, hk.trans hb⟩
  | some q => obtain ⟨h1, A, c, hb, h2⟩ := h; exact ⟨h1, A, c, hk.trans hb, h2⟩
theorem PB.keep {w w' : World} {gb : Nat} {L : List UInt8} (h : PB w gb L) (hk : gb < w.heap.size → Go.Proofs.Ytfldoihindbdmaa.bk w' gb = Go.Proofs.Ytfldoihindbdmaa.bk w gb) : PB w' gb L := fun h0 => by
  obtain ⟨cur, hb, h1, h2⟩ := h h0
  exact ⟨cur, (hk (bk_lt hb)).trans hb, h1, h2⟩
/-- A cutter of a slice that was just made. -/
theorem of_PK (A : Option Addr) (l : List UInt8) (c : Nat) (w : World) (h : Rd w w.heap.size A l) (hA : A = none → l = [] ∧ c = 0) (hl : l.length < 2 ^ 46) (d : Nat) (hd : d < w.heap.size) :
    Calls Try.prog 53 #[.slice A l.length c] w fun e w' => ∃ g gb, e = .returned (.pointer (some ⟨g, 0, none⟩)) ∧ w.heap.size ≤ g ∧ d ≤ gb ∧ gb < g ∧ (0 < l.length → w.heap.size ≤ gb) ∧ PK w' g gb l (some 0) ∧ PB w' gb l ∧ Below w.heap.size w w' := by
  refine (of_cut A l c w h hA hl).mono ?_
  rintro e w' ⟨g, A', c', rfl, hg, hb, ho, hr, hlc, hbel⟩
  rcases Nat.eq_zero_or_pos l.length with h0 | h0
  · have : l = [] := List.eq_nil_of_length_eq_zero h0
    subst this
    exact ⟨g, d, rfl, hg, Nat.le_refl _, by omega, fun h => absurd h (by simp), ⟨Nat.le_refl _, A', c', hb, by simp, fun h => absurd h (by simp)⟩, fun h => absurd h (by simp), hbel⟩
  · obtain ⟨_, ⟨_, e0⟩ | ⟨gb, cap, cur, e1, hgb, hbk, hle, _, hcs, ht⟩⟩ := ho
    · omega
    · cases e1
      obtain ⟨b, o, e2, hlt, _⟩ := hr h0
      cases e2
      exact ⟨g, gb, rfl, hg, by omega, hlt, fun _ => hgb, ⟨by omega, _, c', hb, hlc, fun _ => rfl⟩, fun _ => ⟨cur, hbk, by omega, by simpa using ht⟩, hbel⟩
theorem bytes_at (gc gb : Nat) (L : List UInt8) (q m : Nat) (w : World) (h : PK w gc gb L (some q)) (hm : q + m ≤ L.length) (h0 : 0 < m) :
    Calls Try.prog 57 #[.pointer (some ⟨gc, 0, none⟩), .int .i64 m] w fun e w' => e = .returned (.slice (some ⟨gb, q, none⟩) m m) ∧ PK w' gc gb L (some (q + m)) ∧ w.grownBy w' (some gc) := by
  refine (pbytes_any gc gb L (some q) m w h).mono ?_
  have e1 : cutB (m : Int) (stOf L (some q)) = ((L.drop q).take m, some ((L.drop q).drop m)) := cutB_good (by rw [List.length_drop]; omega)
  have e2 : posB (m : Int) L (some q) = some (q + m) := by simp only [posB]; rw [if_neg (by omega)]; simp
  have e3 : ((L.drop q).take m).length = m := by rw [List.length_take, List.length_drop]; omega
  rintro e w' ⟨A, he, h1, h2, h3⟩
  rw [e1] at he h1
  rw [e2] at h1 h2
  simp only [e3] at he h1
  obtain ⟨q', hq, rfl, _⟩ := h1 h0
  cases hq
  exact ⟨he, h2, h3⟩
theorem num_at (gc gb : Nat) (L : List UInt8) (q m : Nat) (w : World) (h : PK w gc gb L (some q)) (hB : PB w gb L) (hg : gb < gc) (hm : q + m ≤ L.length) (h1 : 1 ≤ m) (h8 : m ≤ 8) :
    Calls Try.prog 56 #[.pointer (some ⟨gc, 0, none⟩), .int .i64 m] w fun e w' => e = .returned (.int .u64 (val ((L.drop q).take m))) ∧ PK w' gc gb L (some (q + m)) ∧ w.grownBy w' (some gc) := by
  refine (pnum_any gc gb L (some q) m w h hB hg).mono ?_
  have e0 : ask (m : Int) = m := by unfold ask; rw [if_neg (by omega)]
  have e1 : cutB (m : Int) (stOf L (some q)) = ((L.drop q).take m, some ((L.drop q).drop m)) := cutB_good (by rw [List.length_drop]; omega)
  have e2 : posB (m : Int) L (some q) = some (q + m) := by simp only [posB]; rw [if_neg (by omega)]; simp
  rintro e w' ⟨he, h2, h3⟩
  rw [e0] at he h2
  rw [e1] at he
  rw [e2] at h2
  exact ⟨he, h2, h3⟩

end Go.Proofs.Ytfldoihindbdmaa

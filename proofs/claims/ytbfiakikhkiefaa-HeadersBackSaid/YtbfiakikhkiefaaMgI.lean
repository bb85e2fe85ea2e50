import Derived.Test.YtbfiakikhkiefaaMgJ
import Derived.Test.YtbfiakikhkiefaaMgE
import Derived.Deep.MidRow
import Derived.Laws.Cover3
import Derived.Test.YtbfiakikhkiefaaMgG
/- Headers: the program's Get. -/
namespace Go.Proofs.Ytbfiakikhkiefaa
open Go.RowKit
set_option maxRecDepth 100000
set_option maxHeartbeats 4000000
@[go_sem ↓] theorem qfAddr (dst : Option Tmp) (x : Operand) (t : TypeId) (pos : String) (af : Array Edge) (g : Option (Nat × Bool)) (a : Act) (m : Nat) (W : World) (gs : List (Nat × (World → Prop))) [Nonempty (LaterF m W gs)] (K : Act → Prop) :
    Oper.quiet Try.prog ⟨dst, .load 23 x, t, pos, af, g⟩ a (fun w' => ∃ x : LaterF m W gs, w' = x.w) K =
      ldF (quietHid Try.prog ⟨dst, .load 23 x, t, pos, af, g⟩ a (fun w' => ∃ x : LaterF m W gs, w' = x.w) K) gs m 16 W (fun c => K (a.put dst (.agg c))) (a.eval x) :=
  quiet_load_F 23 16 _ Try.underlying23 rfl (by kernel_rfl) dst x t pos af g a m W gs K
@[go_sem] theorem arr16 (a : Option Addr) (w : World) : (Instr.arrayAt 23 (.slice a 16 16)).run Try.prog w = .ok (.pointer a) w := run_arrayAt w _ _ 16 a 16 16 Try.underlying23 (Nat.le_refl _)
theorem zpk : (Obj.cells #[Value.int IntKind.u8 0, Value.int IntKind.u8 0, Value.int IntKind.u8 0, Value.int IntKind.u8 0, Value.int IntKind.u8 0, Value.int IntKind.u8 0, Value.int IntKind.u8 0, Value.int IntKind.u8 0, Value.int IntKind.u8 0, Value.int IntKind.u8 0, Value.int IntKind.u8 0, Value.int IntKind.u8 0, Value.int IntKind.u8 0, Value.int IntKind.u8 0, Value.int IntKind.u8 0, Value.int IntKind.u8 0, Value.int IntKind.u8 0, Value.int IntKind.u8 0, Value.int IntKind.u8 0, Value.int IntKind.u8 0, Value.int IntKind.u8 0, Value.int IntKind.u8 0, Value.int IntKind.u8 0, Value.int IntKind.u8 0, Value.int IntKind.u8 0, Value.int IntKind.u8 0, Value.int IntKind.u8 0, Value.int IntKind.u8 0, Value.int IntKind.u8 0, Value.int IntKind.u8 0, Value.int IntKind.u8 0, Value.int IntKind.u8 0, Value.int IntKind.u8 0, Value.bool false, Value.bool false, Value.int IntKind.u32 0, Value.int IntKind.u16 0, Value.bool false, Value.int IntKind.u8 0, Value.slice none 0 0] 30 : Obj) = .cells (pkC pk0 none 0 0) 30 (0, 0) := by kernel_rfl
@[go_sem] theorem builtPk_0 : Try.prog.built 30 [] = some (pkC pk0 none 0 0) := by kernel_rfl
@[go_sem] theorem builtPk_h (h : UInt8) : Try.prog.built 30 [(2, .int .u8 (h.toNat : Int))] = some (pkC { pk0 with hops := h } none 0 0) := by kernel_rfl
theorem builtPk (parts : List (Nat × Value)) : Try.prog.built 30 parts = Instr.fill (#[(0, 16), (16, 16), (32, 1), (33, 1), (34, 4), (38, 1), (39, 1)][·]?) (pkC pk0 none 0 0) parts := by kernel_rfl
@[go_sem] theorem builtPk_4 (s d : List UInt8) (h : UInt8) (al : Bool) (hs : s.length = 16) (hd : d.length = 16) : Try.prog.built 30 [(0, .agg (List.map B s).toArray), (1, .agg (List.map B d).toArray), (2, .int .u8 (h.toNat : Int)), (3, .bool al)] = some (pkC ⟨s, d, h, al, false, 0, 0, false, 0, hs, hd, by decide, by decide⟩ none 0 0) := by
  rw [builtPk, show [(0, Value.agg (List.map B s).toArray), (1, .agg (List.map B d).toArray), (2, .int .u8 (h.toNat : Int)), (3, .bool al)] = partsAt 0 [.agg (List.map B s).toArray, .agg (List.map B d).toArray, .int .u8 (h.toNat : Int), .bool al] from rfl,
    fill_all _ _ 0 0 _ (by simp [placesOk, Value.cells, hs, hd]) (by simp [widths, Value.cells, hs, hd, pkC_size])]
  have hz : (pkC pk0 none 0 0).toList.drop 34 = [.bool false, .int .u32 0, .int .u16 0, .bool false, .int .u8 0, .slice none 0 0] := by kernel_rfl
  simp [widths, Value.cells, hs, hd, hz]
  unfold pkC
  simp
theorem take_one (b : List UInt8) (i : Nat) (h : i < b.length) : val ((b.drop i).take 1) = (at8 b i).toNat := by
  have e : (b.drop i).take 1 = [at8 b i] := by
    rw [List.drop_eq_getElem_cons h, List.take_succ_cons, List.take_zero]
    unfold at8
    rw [List.getD_eq_getElem?_getD, List.getElem?_eq_getElem h]
    rfl
  rw [e]
  simp [val]
/-- Where Get stands: its two rows, its cutter. -/
structure Gw (w wr : World) (gc gb : Nat) (b : List UInt8) (q : Option Nat) (P : Pk) : Prop where
  f : Below w.heap.size w wr
  kx : bk wr w.heap.size = some (.cells (pkC P none 0 0) 30 (0, 0))
  ky : bk wr (w.heap.size + 1) = some (.cells (faultC 0 0) 47 (0, 0))
  hP : PK wr gc gb b q
  hB : PB wr gb b
  lb : w.heap.size + 1 < gb
  lc : gb < gc
theorem Gw.step {w wr w' : World} {gc gb : Nat} {b : List UInt8} {q q' : Option Nat} {P : Pk} (h : Gw w wr gc gb b q P) (hg : wr.grownBy w' (some gc)) (hP : PK w' gc gb b q') : Gw w w' gc gb b q' P := by
  have l1 := h.lb; have l2 := h.lc
  refine ⟨h.f.grown hg h.f.size fun k hk => by cases hk; omega, ?_, ?_, hP, h.hB.grown hg (by omega), l1, l2⟩
  · exact (hg.block _ (bk_lt h.kx) (fun e => by cases e; omega)).trans h.kx
  · exact (hg.block _ (bk_lt h.ky) (fun e => by cases e; omega)).trans h.ky
theorem Gw.put {w wr : World} {gc gb : Nat} {b : List UInt8} {q : Option Nat} {P : Pk} (h : Gw w wr gc gb b q P) (y : UInt8) : Gw w (wr.setCell ⟨w.heap.size, 32, none⟩ (B y)) gc gb b q { P with hops := y } := by
  have l1 := h.lb; have l2 := h.lc
  refine ⟨h.f.setCell (p := ⟨w.heap.size, 32, none⟩) (Nat.le_refl _) _, ?_, (bk_setCell_other _ _ _ _ _ (by omega)).trans h.ky, h.hP.keep (bk_setCell_other _ _ _ _ _ (by omega)), h.hB.keep fun _ => bk_setCell_other _ _ _ _ _ (by omega), l1, l2⟩
  rw [bk_setCell_same, h.kx]
  show some (Obj.cells ((pkC P none 0 0).setIfInBounds 32 (B y)) _ _) = _
  rw [pkC_set32]
theorem Gw.row {w wr : World} {gc gb : Nat} {b : List UInt8} {q : Option Nat} {P : Pk} (h : Gw w wr gc gb b q P) (P' : Pk) : Gw w (wr.setRow w.heap.size (pkC P' none 0 0)) gc gb b q P' := by
  have l1 := h.lb; have l2 := h.lc
  exact ⟨below_setRow h.f (Nat.le_refl _) _, by rw [bk_setRow_same, h.kx]; rfl, (bk_setRow_other _ _ _ _ (by omega)).trans h.ky, h.hP.keep (bk_setRow_other _ _ _ _ (by omega)), h.hB.keep fun _ => bk_setRow_other _ _ _ _ (by omega), l1, l2⟩
theorem two_rows {w w1 : World} {c0 d0 : Array Value} (a0 : Below w.heap.size w w1) (kx : bk w1 w.heap.size = some (.cells c0 30 (0, 0))) (ky : bk w1 (w.heap.size + 1) = some (.cells d0 47 (0, 0))) (c d : Array Value) :
    bk ((w1.setRow w.heap.size c).setRow (w.heap.size + 1) d) w.heap.size = some (.cells c 30 (0, 0)) ∧ bk ((w1.setRow w.heap.size c).setRow (w.heap.size + 1) d) (w.heap.size + 1) = some (.cells d 47 (0, 0)) ∧ Below w.heap.size w ((w1.setRow w.heap.size c).setRow (w.heap.size + 1) d) := by
  refine ⟨?_, ?_, below_setRow (below_setRow a0 (Nat.le_refl _) _) (by omega) _⟩
  · rw [bk_setRow_other _ _ _ _ (by omega), bk_setRow_same, kx]; rfl
  · rw [bk_setRow_same, bk_setRow_other _ _ _ _ (by omega), ky]; rfl
theorem Gw.drew {w wr : World} {gc gb : Nat} {b : List UInt8} {q : Option Nat} {P : Pk} (h : Gw w wr gc gb b q P) : Gw w wr.drew gc gb b q P :=
  ⟨h.f.drew, h.kx, h.ky, h.hP.keep (bk_drew _ _), h.hB.keep fun _ => bk_drew _ _, h.lb, h.lc⟩
theorem xt_of_take {cur : Array Value} {b : List UInt8} (ht : cur.toList.take b.length = b.map B) (o n : Nat) (h : o + n ≤ b.length) : xt cur o n = (List.map B ((b.drop o).take n)).toArray := by
  apply Array.toList_inj.1
  have e1 : (cur.toList.drop o).take n = ((cur.toList.take b.length).drop o).take n := by rw [List.drop_take, List.take_take, Nat.min_eq_left (by omega)]
  have e2 : (xt cur o n).toList = (cur.toList.drop o).take n := by simp [xt, List.extract_eq_take_drop]
  rw [e2, e1, ht, List.map_take, List.map_drop]
def GetZ (e : Nat) (w : World) (en : Ending) (w' : World) : Prop := en = .returned (.tuple #[.agg (pkC pk0 none 0 0), .agg (faultC 0 0), .int .i64 (e : Int)]) ∧ Below w.heap.size w w'
theorem hget_short (A : Option Addr) (n c : Nat) (w : World) (hl : n < 40) : Calls Try.prog 22 #[.slice A n c] w (GetZ 5 w) := by
  have d1 : decide ((n : Int) < 40) = true := by simp; omega
  have d2 : decide (n < 40) = true := by simp; omega
  go_enter Try.func22, Try.ntmps22
  go_upto_region 1 with fail
  rw [zpk]
  have a0 : Below w.heap.size w ((w.alloc (.cells (pkC pk0 none 0 0) 30 (0, 0))).alloc (.cells (faultC 0 0) 47 (0, 0))) := (by (repeat (first | exact Below.refl _ _ | assumption | refine Below.drew ?_ | refine bdrewN ?_ _ | refine Below.alloc ?_ (by first | omega | (simp <;> omega) | (simp only [World.size_alloc] <;> omega)) _ | refine below_setRow ?_ (by first | omega | (simp <;> omega)) _ | refine Below.setCell ?_ (by first | omega | (simp <;> omega)) _)))
  have kx : bk ((w.alloc (.cells (pkC pk0 none 0 0) 30 (0, 0))).alloc (.cells (faultC 0 0) 47 (0, 0))) w.heap.size = some (.cells (pkC pk0 none 0 0) 30 (0, 0)) := (bk_alloc_past _ _ _ (by simp)).trans (bk_alloc_at _ _ _ rfl)
  have ky : bk ((w.alloc (.cells (pkC pk0 none 0 0) 30 (0, 0))).alloc (.cells (faultC 0 0) 47 (0, 0))) (w.heap.size + 1) = some (.cells (faultC 0 0) 47 (0, 0)) := bk_alloc_at _ _ _ (by simp)
  have ls : ((w.alloc (.cells (pkC pk0 none 0 0) 30 (0, 0))).alloc (.cells (faultC 0 0) 47 (0, 0))).heap.size = w.heap.size + 2 := by simp
  change Code.wp _ _ _ _ ((w.alloc (.cells (pkC pk0 none 0 0) 30 (0, 0))).alloc (.cells (faultC 0 0) 47 (0, 0)))
  generalize (w.alloc (.cells (pkC pk0 none 0 0) 30 (0, 0))).alloc (.cells (faultC 0 0) 47 (0, 0)) = w1 at *
  have lx : w.heap.size < w1.heap.size := by omega
  have ly : w.heap.size + 1 < w1.heap.size := by omega
  go_upto_region 2 with fail
  go_region
  have Q := two_rows a0 kx ky (pkC pk0 none 0 0) (faultC 0 0)
  have HQ := Lib.hid Q
  clear Q
  go_wp2_with fail
  refine ret_three (c1 := pkC pk0 none 0 0) (c2 := faultC 0 0) (ty1 := 30) (ty2 := 47) (f1 := (0, 0)) (f2 := (0, 0)) rfl rfl rfl rfl rfl (HQ.out).1 (HQ.out).2.1 Try.underlying30 Try.underlying47 rfl rfl (by rw [pkC_size]; kernel_rfl) (by kernel_rfl) ?_
  exact ⟨rfl, HQ.out.2.2.drew⟩
theorem hget_form (A : Option Addr) (b : List UInt8) (c : Nat) (w : World) (h : Rd w w.heap.size A b) (hl : 40 ≤ b.length) (hf : (at8 b 0).toNat / 16 ≠ 6) : Calls Try.prog 22 #[.slice A b.length c] w (GetZ 4 w) := by
  obtain ⟨bb, o, rfl, hbn, hcl⟩ := h (by omega)
  have u0 := hcl 0 (by omega)
  obtain ⟨y0, hy0⟩ : ∃ y, y = at8 b 0 := ⟨_, rfl⟩
  rw [show b[0]'(by omega) = y0 by rw [hy0]; unfold at8; rw [List.getD_eq_getElem?_getD, List.getElem?_eq_getElem]; rfl] at u0
  simp only [Nat.add_zero] at u0
  have d1 : decide ((b.length : Int) < 40) = false := by simp; omega
  have d2 : decide (b.length < 40) = false := by simp; omega
  have h0i : (0 : Int) < (b.length : Int) := by omega
  have h0n : 0 < b.length := by omega
  obtain ⟨k, hk⟩ : ∃ k, k = y0.toNat / 16 := ⟨_, rfl⟩
  have sh : (y0.toNat : Int) / 16 = (k : Int) := by omega
  rw [← hy0, ← hk] at hf
  have HH := Lib.hid h
  clear h hcl hy0 hk
  have k6 : ¬ (k : Int) = 6 := by omega
  go_enter Try.func22, Try.ntmps22
  go_upto_region 1 with fail
  rw [zpk]
  have a0 : Below w.heap.size w ((w.alloc (.cells (pkC pk0 none 0 0) 30 (0, 0))).alloc (.cells (faultC 0 0) 47 (0, 0))) := (by (repeat (first | exact Below.refl _ _ | assumption | refine Below.drew ?_ | refine bdrewN ?_ _ | refine Below.alloc ?_ (by first | omega | (simp <;> omega) | (simp only [World.size_alloc] <;> omega)) _ | refine below_setRow ?_ (by first | omega | (simp <;> omega)) _ | refine Below.setCell ?_ (by first | omega | (simp <;> omega)) _)))
  have kx : bk ((w.alloc (.cells (pkC pk0 none 0 0) 30 (0, 0))).alloc (.cells (faultC 0 0) 47 (0, 0))) w.heap.size = some (.cells (pkC pk0 none 0 0) 30 (0, 0)) := (bk_alloc_past _ _ _ (by simp)).trans (bk_alloc_at _ _ _ rfl)
  have ky : bk ((w.alloc (.cells (pkC pk0 none 0 0) 30 (0, 0))).alloc (.cells (faultC 0 0) 47 (0, 0))) (w.heap.size + 1) = some (.cells (faultC 0 0) 47 (0, 0)) := bk_alloc_at _ _ _ (by simp)
  have ls : ((w.alloc (.cells (pkC pk0 none 0 0) 30 (0, 0))).alloc (.cells (faultC 0 0) 47 (0, 0))).heap.size = w.heap.size + 2 := by simp
  change Code.wp _ _ _ _ ((w.alloc (.cells (pkC pk0 none 0 0) 30 (0, 0))).alloc (.cells (faultC 0 0) 47 (0, 0)))
  generalize (w.alloc (.cells (pkC pk0 none 0 0) 30 (0, 0))).alloc (.cells (faultC 0 0) 47 (0, 0)) = w1 at *
  have lx : w.heap.size < w1.heap.size := by omega
  have ly : w.heap.size + 1 < w1.heap.size := by omega
  rw [← a0.cell (p := ⟨bb, o, none⟩) hbn] at u0
  go_upto_region 4 with fail
  go_region
  have Q := two_rows a0 kx ky (pkC pk0 none 0 0) (faultC 0 0)
  have HQ := Lib.hid Q
  clear Q
  go_wp2_with fail
  refine ret_three (c1 := pkC pk0 none 0 0) (c2 := faultC 0 0) (ty1 := 30) (ty2 := 47) (f1 := (0, 0)) (f2 := (0, 0)) rfl rfl rfl rfl rfl (HQ.out).1 (HQ.out).2.1 Try.underlying30 Try.underlying47 rfl rfl (by rw [pkC_size]; kernel_rfl) (by kernel_rfl) ?_
  exact ⟨rfl, HQ.out.2.2.drew⟩
/-- A cutter's bytes, taken in a region. -/
def MadeW.cutp (m gc gb q : Nat) (b : List UInt8) : MadeW m where
  T v := v = .slice (some ⟨gb, q, none⟩) 16 16
  R _ w := PK w gc gb b (some (q + 16))
  D := [97]
  O := [97]
  inh := ⟨_, rfl⟩
  mono := fun D v w w' hd hk h => by
    obtain ⟨cs, hb⟩ := h.obj
    exact h.keep ((hk.row hb fun hh => hd _ hh (by simp)).trans hb.symm)
def Ent.cutp (k : Nat) {m gc gb q : Nat} {b : List UInt8} {M : MadeW m} (HM : Hid (M = MadeW.cutp m gc gb q b)) : Ent m := ⟨k, fun _ => M, [97], [97], [], fun _ => by have := HM.out; subst this; exact ⟨rfl, rfl⟩⟩
def Ent.rest1 (m k : Nat) (t : TypeId) : Ent m := ⟨k, fun _ => ⟨fun _ => True, fun _ _ => True, [], [t], ⟨undef, trivial⟩, fun _ _ _ _ _ _ h => h⟩, [], [t], [], fun _ => ⟨rfl, rfl⟩⟩
theorem cutp_mk {m gc gb q : Nat} {b : List UInt8} {M : MadeW m} (HM : Hid (M = MadeW.cutp m gc gb q b)) {w : World} (h : PK w gc gb b (some q)) (hq : q + 16 ≤ b.length) (hm : m ≤ w.heap.size) (hg : m ≤ gc) :
    Calls Try.prog 40 #[.pointer (some ⟨gc, 0, none⟩), .int .i64 16] w (madeEndW M w) := by
  have := HM.out
  subst this
  refine (bytes_at gc gb b q 16 w h hq (by omega)).mono ?_
  rintro e w' ⟨rfl, h1, h2⟩
  obtain ⟨cs, hb⟩ := h.obj
  exact ⟨_, rfl, Kept.grown h2 hm fun g hgg => by cases hgg; exact ⟨hg, cs, _, _, hb, by simp [MadeW.cutp]⟩, rfl, h1⟩
theorem cutp_R {m gc gb q : Nat} {b : List UInt8} {M : MadeW m} {v : Value} {w : World} (HM : Hid (M = MadeW.cutp m gc gb q b)) (h : M.R v w) : PK w gc gb b (some (q + 16)) := by
  have := HM.out
  subst this
  exact h
theorem cutp_T {m gc gb q : Nat} {b : List UInt8} {M : MadeW m} {v : Value} (HM : Hid (M = MadeW.cutp m gc gb q b)) (h : M.T v) : v = .slice (some ⟨gb, q, none⟩) 16 16 := by
  have := HM.out
  subst this
  exact h
/-- A part of a packet's row, stored in a region. -/
def MadeW.pkt (m x : Nat) (P : Pk) : MadeW m where
  T _ := True
  R _ w := bk w x = some (.cells (pkC P none 0 0) 30 (0, 0))
  D := [30]
  O := [30]
  inh := ⟨undef, trivial⟩
  mono := fun D v w w' hd hk h => hk.row h fun hh => hd _ hh (by simp)
def Ent.pkt (k : Nat) {m x : Nat} {P : Pk} {M : MadeW m} (HM : Hid (M = MadeW.pkt m x P)) : Ent m := ⟨k, fun _ => M, [30], [30], [], fun _ => by have := HM.out; subst this; exact ⟨rfl, rfl⟩⟩
theorem pkt_R {m x : Nat} {P : Pk} {M : MadeW m} {v : Value} {w : World} (HM : Hid (M = MadeW.pkt m x P)) (h : M.R v w) : bk w x = some (.cells (pkC P none 0 0) 30 (0, 0)) := by
  have := HM.out
  subst this
  exact h
theorem pkt_mk {m x : Nat} {P P' : Pk} {M : MadeW m} (HM : Hid (M = MadeW.pkt m x P')) {o : Oper} {a : Act} {w : World} {xo yo : Operand} (ho : o.op = .store 23 xo yo) {off : Nat} {l : List UInt8} (hx : a.eval xo = .pointer (some ⟨x, off, none⟩)) (hy : a.eval yo = .agg (List.map B l).toArray)
    (hb : bk w x = some (.cells (pkC P none 0 0) 30 (0, 0))) (hl : l.length = 16) (hoff : off + 16 ≤ 40) (hs : spl (pkC P none 0 0).toList off (List.map B l) = pkC P' none 0 0) (hm : m ≤ x) : madeAtW Try.prog M o a w := by
  have := HM.out
  subst this
  have hrun := run_storeVar_spl (P := Try.prog) w x off 30 23 (pkC P none 0 0) (List.map B l).toArray hb (by rw [List.size_toArray, List.length_map, hl]; kernel_rfl) (by rw [pkC_size, List.size_toArray, List.length_map, hl]; exact hoff) (ones_map l)
  unfold madeAtW execOp
  simp only [ho, hx, hy, Instr.storeAt, Instr.sureAddr, Sem.run_bind, Sem.run_pure, Result.andThen_ok, hrun]
  refine ⟨Kept.setRow hb hm (by simp [MadeW.pkt]), trivial, ?_⟩
  show bk (w.setRow x _) x = _
  rw [bk_setRow_same, hb]
  show some (Obj.cells (spl (pkC P none 0 0).toList off (List.map B l)) _ _) = _
  rw [hs]
theorem ini_get {E : EnvW} {gc gb q x y : Nat} {b : List UInt8} {cur c0 d0 : Array Value} (h1 : E.Ot 12 = [97]) (h2 : E.Ot 13 = [5]) (h3 : E.Ot 14 = [30]) (h4 : E.Ot 15 = [47]) (hs : E.ops.size ≤ 12) (hk : PK E.W gc gb b (some q))
    (k2 : bk E.W gb = some (.cells cur 5 (0, 0))) (k3 : bk E.W x = some (.cells c0 30 (0, 0))) (k4 : bk E.W y = some (.cells d0 47 (0, 0))) :
    E.Ini (fun j w => (j = 12 → PK w gc gb b (some q)) ∧ (j = 13 → bk w gb = some (.cells cur 5 (0, 0))) ∧ (j = 14 → bk w x = some (.cells c0 30 (0, 0))) ∧ (j = 15 → bk w y = some (.cells d0 47 (0, 0)))) := by
  refine ⟨fun j D w w' hd hkp ⟨f1, f2, f3, f4⟩ => ⟨fun e => ?_, fun e => ?_, fun e => ?_, fun e => ?_⟩, fun j hj w => ⟨fun e => by omega, fun e => by omega, fun e => by omega, fun e => by omega⟩, fun j => ⟨fun _ => hk, fun _ => k2, fun _ => k3, fun _ => k4⟩⟩
  · subst e
    have h := f1 rfl
    obtain ⟨cs, hb⟩ := h.obj
    exact h.keep ((hkp.row hb fun hh => hd _ hh (by rw [h1]; simp)).trans hb.symm)
  · subst e; exact hkp.row (f2 rfl) fun h => hd _ h (by rw [h2]; simp)
  · subst e; exact hkp.row (f3 rfl) fun h => hd _ h (by rw [h3]; simp)
  · subst e; exact hkp.row (f4 rfl) fun h => hd _ h (by rw [h4]; simp)
end Go.Proofs.Ytbfiakikhkiefaa
/- Headers: the program's Get, a body that is cut, or there. -/
namespace Go.Proofs.Ytbfiakikhkiefaa
open Go.RowKit
set_option maxRecDepth 100000
set_option maxHeartbeats 4000000
theorem zpkA : (#[Value.int IntKind.u8 0, Value.int IntKind.u8 0, Value.int IntKind.u8 0, Value.int IntKind.u8 0, Value.int IntKind.u8 0, Value.int IntKind.u8 0, Value.int IntKind.u8 0, Value.int IntKind.u8 0, Value.int IntKind.u8 0, Value.int IntKind.u8 0, Value.int IntKind.u8 0, Value.int IntKind.u8 0, Value.int IntKind.u8 0, Value.int IntKind.u8 0, Value.int IntKind.u8 0, Value.int IntKind.u8 0, Value.int IntKind.u8 0, Value.int IntKind.u8 0, Value.int IntKind.u8 0, Value.int IntKind.u8 0, Value.int IntKind.u8 0, Value.int IntKind.u8 0, Value.int IntKind.u8 0, Value.int IntKind.u8 0, Value.int IntKind.u8 0, Value.int IntKind.u8 0, Value.int IntKind.u8 0, Value.int IntKind.u8 0, Value.int IntKind.u8 0, Value.int IntKind.u8 0, Value.int IntKind.u8 0, Value.int IntKind.u8 0, Value.int IntKind.u8 0, Value.bool false, Value.bool false, Value.int IntKind.u32 0, Value.int IntKind.u16 0, Value.bool false, Value.int IntKind.u8 0, Value.slice none 0 0] : Array Value) = pkC pk0 none 0 0 := by kernel_rfl
theorem hget_cut (A : Option Addr) (b : List UInt8) (c : Nat) (w : World) (h : Rd w w.heap.size A b) (hl : 40 ≤ b.length) (h30 : b.length < 2 ^ 30) (hf : (at8 b 0).toNat / 16 = 6) (hcut : b.length < 40 + gsz b) : Calls Try.prog 22 #[.slice A b.length c] w (GetZ 5 w) := by
  obtain ⟨bb, o, rfl, hbn, hcl⟩ := h (by omega)
  have u0 := hcl 0 (by omega)
  obtain ⟨y0, hy0⟩ : ∃ y, y = at8 b 0 := ⟨_, rfl⟩
  rw [show b[0]'(by omega) = y0 by rw [hy0]; unfold at8; rw [List.getD_eq_getElem?_getD, List.getElem?_eq_getElem]; rfl] at u0
  simp only [Nat.add_zero] at u0
  have d1 : decide ((b.length : Int) < 40) = false := by simp; omega
  have d2 : decide (b.length < 40) = false := by simp; omega
  have h0i : (0 : Int) < (b.length : Int) := by omega
  have h0n : 0 < b.length := by omega
  obtain ⟨k, hk⟩ : ∃ k, k = y0.toNat / 16 := ⟨_, rfl⟩
  have sh : (y0.toNat : Int) / 16 = (k : Int) := by omega
  rw [← hy0, ← hk] at hf
  have HH := Lib.hid h
  clear h hcl hy0 hk
  have k6 : (k : Int) = 6 := by omega
  obtain ⟨z, hz⟩ : ∃ z, z = gsz b := ⟨_, rfl⟩
  have hz16 : z < 65536 := by rw [hz]; unfold gsz; have := (at8 b 4).toNat_lt; have := (at8 b 5).toNat_lt; omega
  have e2 : val ((b.drop 4).take 2) = z := by rw [take_two b 4 (by omega), val_2, hz]; rfl
  have e6 : val ((b.drop 6).take 1) = (at8 b 6).toNat := take_one b 6 (by omega)
  have e7 : val ((b.drop 7).take 1) = (at8 b 7).toNat := take_one b 7 (by omega)
  obtain ⟨n6, hn6⟩ : ∃ z, z = at8 b 6 := ⟨_, rfl⟩
  obtain ⟨n7, hn7⟩ : ∃ z, z = at8 b 7 := ⟨_, rfl⟩
  rw [← hn6] at e6
  rw [← hn7] at e7
  have g2 : IntKind.i64.wrap (z : Int) = (z : Int) := by rw [IntKind.wrap_i64]; omega
  have g6 : IntKind.u8.wrap (n6.toNat : Int) = (n6.toNat : Int) := by have := n6.toNat_lt; rw [IntKind.wrap_u8]; omega
  have g7 : IntKind.u8.wrap (n7.toNat : Int) = (n7.toNat : Int) := by have := n7.toNat_lt; rw [IntKind.wrap_u8]; omega
  have EE := Lib.hid (And.intro e2 (And.intro e6 e7))
  have HZ := Lib.hid (And.intro hz (And.intro hn6 hn7))
  clear e2 e6 e7 hz hn6 hn7 hf
  go_enter Try.func22, Try.ntmps22
  go_upto_region 1 with fail
  rw [zpk]
  have a0 : Below w.heap.size w ((w.alloc (.cells (pkC pk0 none 0 0) 30 (0, 0))).alloc (.cells (faultC 0 0) 47 (0, 0))) := (by (repeat (first | exact Below.refl _ _ | assumption | refine Below.drew ?_ | refine bdrewN ?_ _ | refine Below.alloc ?_ (by first | omega | (simp <;> omega) | (simp only [World.size_alloc] <;> omega)) _ | refine below_setRow ?_ (by first | omega | (simp <;> omega)) _ | refine Below.setCell ?_ (by first | omega | (simp <;> omega)) _)))
  have kx : bk ((w.alloc (.cells (pkC pk0 none 0 0) 30 (0, 0))).alloc (.cells (faultC 0 0) 47 (0, 0))) w.heap.size = some (.cells (pkC pk0 none 0 0) 30 (0, 0)) := (bk_alloc_past _ _ _ (by simp)).trans (bk_alloc_at _ _ _ rfl)
  have ky : bk ((w.alloc (.cells (pkC pk0 none 0 0) 30 (0, 0))).alloc (.cells (faultC 0 0) 47 (0, 0))) (w.heap.size + 1) = some (.cells (faultC 0 0) 47 (0, 0)) := bk_alloc_at _ _ _ (by simp)
  have ls : ((w.alloc (.cells (pkC pk0 none 0 0) 30 (0, 0))).alloc (.cells (faultC 0 0) 47 (0, 0))).heap.size = w.heap.size + 2 := by simp
  change Code.wp _ _ _ _ ((w.alloc (.cells (pkC pk0 none 0 0) 30 (0, 0))).alloc (.cells (faultC 0 0) 47 (0, 0)))
  generalize (w.alloc (.cells (pkC pk0 none 0 0) 30 (0, 0))).alloc (.cells (faultC 0 0) 47 (0, 0)) = w1 at *
  have lx : w.heap.size < w1.heap.size := by omega
  have ly : w.heap.size + 1 < w1.heap.size := by omega
  rw [← a0.cell (p := ⟨bb, o, none⟩) hbn] at u0
  have HP := Lib.hid (And.intro a0 (And.intro kx ky))
  go_upto_region 5 with fail
  clear kx ky lx ly u0 sh k6
  go_wp2_with fail
  refine (of_PK (some ⟨bb, o, none⟩) b c w1 ((HH.out.below HP.out.1 (Nat.le_refl _)).mono HP.out.1.size) (fun h => by cases h) (by omega) w.heap.size (by omega)).mono ?_
  rintro e w2 ⟨gc, gb, rfl, hgc, hgd, hgg, hgb, hP, hB, b2⟩
  have hgb := hgb (by omega)
  have G2 : Hid (Gw w w2 gc gb b (some 0) pk0) := Lib.hid ⟨HP.out.1.trans (b2.mono HP.out.1.size), bk_keep b2 (bk_lt HP.out.2.1) HP.out.2.1, bk_keep b2 (bk_lt HP.out.2.2) HP.out.2.2, hP, hB, by omega, hgg⟩
  clear hP hB b2 hgc hgd HP a0
  go_wp2_with fail
  refine (num_at gc gb b 0 4 w2 G2.out.hP G2.out.hB hgg (by omega) (by omega) (by omega)).mono ?_
  rintro e w3 ⟨rfl, hP3, hg3⟩
  have G3 := Lib.hid (G2.out.step hg3 hP3)
  clear G2 hP3 hg3
  go_wp2_with fail
  refine (num_at gc gb b 4 2 w3 G3.out.hP G3.out.hB hgg (by omega) (by omega) (by omega)).mono ?_
  rintro e w4 ⟨rfl, hP4, hg4⟩
  have G4 := Lib.hid (G3.out.step hg4 hP4)
  rw [EE.out.1]
  clear G3 hP4 hg4
  go_wp2_with fail
  refine (num_at gc gb b 6 1 w4 G4.out.hP G4.out.hB hgg (by omega) (by omega) (by omega)).mono ?_
  rintro e w5 ⟨rfl, hP5, hg5⟩
  have G5 := Lib.hid (G4.out.step hg5 hP5)
  rw [EE.out.2.1]
  clear G4 hP5 hg5
  go_wp2_with fail
  refine (num_at gc gb b 7 1 w5 G5.out.hP G5.out.hB hgg (by omega) (by omega) (by omega)).mono ?_
  rintro e w6 ⟨rfl, hP6, hg6⟩
  have G6 := Lib.hid (G5.out.step hg6 hP6)
  rw [EE.out.2.2]
  clear G5 hP6 hg6
  have kx6 := G6.out.kx
  have lx6 := bk_lt kx6
  have fx6 := bk_frozen kx6 32
  have cx6 := (bk_cell kx6 32).trans (pkC_hops _ _ _ _)
  go_upto_region 9 with fail
  have G7 := Lib.hid (G6.out.put n7)
  clear G6 kx6 lx6 fx6 cx6
  change Code.wp _ _ _ _ (w6.setCell ⟨w.heap.size, 32, none⟩ (B n7))
  generalize w6.setCell ⟨w.heap.size, 32, none⟩ (B n7) = w7 at *
  rw [← HZ.out.1] at hcut
  obtain ⟨cur, hcb, hcz, hct⟩ := G7.out.hB (by omega)
  have x8 : xt cur 8 16 = (List.map B (p16 (b.drop 8))).toArray := by rw [xt_of_take hct 8 16 (by omega), p16_eq (by rw [List.length_drop]; omega)]
  have x24 : xt cur 24 16 = (List.map B (p16 (b.drop 24))).toArray := by rw [xt_of_take hct 24 16 (by omega), p16_eq (by rw [List.length_drop]; omega)]
  have z8 : 24 ≤ cur.size := by omega
  have z24 : 40 ≤ cur.size := by omega
  have p8 := p16_len (b.drop 8)
  have p24 := p16_len (b.drop 24)
  obtain ⟨sr, hsr⟩ : ∃ s, s = p16 (b.drop 8) := ⟨_, rfl⟩
  obtain ⟨ds, hds⟩ : ∃ s, s = p16 (b.drop 24) := ⟨_, rfl⟩
  rw [← hsr] at x8 p8
  rw [← hds] at x24 p24
  have HSD := Lib.hid (And.intro hsr hds)
  obtain ⟨x, hx⟩ : ∃ x, x = w.heap.size := ⟨_, rfl⟩
  obtain ⟨M1, hM1⟩ : ∃ M : MadeW x, M = MadeW.cutp x gc gb 8 b := ⟨_, rfl⟩
  obtain ⟨M5, hM5⟩ : ∃ M : MadeW x, M = MadeW.cutp x gc gb 24 b := ⟨_, rfl⟩
  obtain ⟨M9, hM9⟩ : ∃ M : MadeW x, M = MadeW.pkt x x { pk0 with hops := n7, src := sr, hs := p8 } := ⟨_, rfl⟩
  obtain ⟨MB, hMB⟩ : ∃ M : MadeW x, M = MadeW.pkt x x { pk0 with hops := n7, src := sr, hs := p8, dst := ds, hd := p24 } := ⟨_, rfl⟩
  have H1 := Lib.hid hM1; have H5 := Lib.hid hM5; have H9 := Lib.hid hM9; have HB := Lib.hid hMB
  have hgm : x ≤ w7.heap.size := by rw [hx]; exact G7.out.f.size
  have hgx : x ≤ gc := by have := G7.out.lb; have := G7.out.lc; omega
  have hgbx : ¬ gb < x := by have := G7.out.lb; omega
  have HL := Lib.hid hl
  have K13 : Hid (bk w7 gb = some (.cells cur 5 (0, 0))) := Lib.hid hcb
  have hct' := Lib.hid (And.intro hcz hct)
  obtain ⟨f0, hf0⟩ : ∃ f : Fs, f = fun j w => (j = 12 → PK w gc gb b (some 8)) ∧ (j = 13 → bk w gb = some (.cells cur 5 (0, 0))) ∧ (j = 14 → bk w x = some (.cells (pkC { pk0 with hops := n7 } none 0 0) 30 (0, 0))) ∧ (j = 15 → bk w (x + 1) = some (.cells (faultC 0 0) 47 (0, 0))) := ⟨_, rfl⟩
  have i12 : ∀ w, f0 12 w → PK w gc gb b (some 8) := fun w h => by rw [hf0] at h; exact h.1 rfl
  have i13 : ∀ w, f0 13 w → bk w gb = some (.cells cur 5 (0, 0)) := fun w h => by rw [hf0] at h; exact h.2.1 rfl
  have i14 : ∀ w, f0 14 w → bk w x = some (.cells (pkC { pk0 with hops := n7 } none 0 0) 30 (0, 0)) := fun w h => by rw [hf0] at h; exact h.2.2.1 rfl
  have i15 : ∀ w, f0 15 w → bk w (x + 1) = some (.cells (faultC 0 0) 47 (0, 0)) := fun w h => by rw [hf0] at h; exact h.2.2.2 rfl
  have k13 : f0 13 w7 := by rw [hf0]; exact ⟨fun e => absurd e (by decide), fun _ => hcb, fun e => absurd e (by decide), fun e => absurd e (by decide)⟩
  have HF0 := Lib.hid hf0
  have HXW := Lib.hid hx
  have kx7 : bk w7 x = some (.cells (pkC { pk0 with hops := n7 } none 0 0) 30 (0, 0)) := by rw [hx]; exact G7.out.kx
  have ky7 : bk w7 (x + 1) = some (.cells (faultC 0 0) 47 (0, 0)) := by rw [hx]; exact G7.out.ky
  rw [← hx]
  have hrow := rowIn_eq (m := x) (W := w7) (gs := [(13, fun w => bk w gb = some (.cells cur 5 (0, 0)))]) (hne := ⟨⟨w7, Below.refl _ _, fun p hp => (by
    obtain rfl : p = _ := (by simpa using hp)
    exact hcb)⟩⟩) (b := gb) (r := .cells cur 5 (0, 0)) (fun w h => h _ (List.mem_singleton.2 rfl))
  have hne : Nonempty (LaterF x w7 [(13, fun w => bk w gb = some (.cells cur 5 (0, 0)))]) := ⟨⟨w7, Below.refl _ _, fun p hp => (by
    obtain rfl : p = _ := (by simpa using hp)
    exact hcb)⟩⟩
  clear hct hsr hds hM1 hM5 hM9 hMB hf0 hx hcz
  refine wp_region_e x [.cutp 1 H1, .cutp 5 H5, .pkt 9 H9, .pkt 11 HB, .rest1 x 12 97, .rest1 x 13 5, .rest1 x 14 30, .rest1 x 15 47] (fun k => (([(1, [12]), (3, [13]), (5, [1]), (7, [13]), (9, [14]), (11, [9])] : List (Nat × List Nat)).lookup k).getD []) f0 hgm (by kernel_rfl) (by kernel_rfl) (by kernel_rfl) (by kernel_rfl) (by rw [HF0.out]; exact ini_get rfl rfl rfl rfl (Nat.le_refl 12) G7.out.hP hcb kx7 ky7) ?_
  refine walkW_segn 1 [] facts0 noneHx (by kernel_rfl) (by kernel_rfl) ?_
  simp only [List.take_succ_cons, List.take_zero, List.drop_succ_cons, List.drop_zero, Nat.reduceAdd]
  repeat (go_big_quiet_step (fail))
  (first | refine wpQuiet_nil ?_ | (go_big_quiet_want; (try go_big_quiet_op); trace_state; fail))
  refine walkW_mk (fun _ => M1) [] M1 [(12, fun w => PK w gc gb b (some 8))] (facts1 i12) (by kernel_rfl) (by kernel_rfl) (by kernel_rfl) rfl rfl (fun w' hb' hg' => ?_) (fun v1 hT1 => ?_)
  · unfold madeAtW
    go_simp
    exact cutp_mk H1 (hg' _ (List.mem_singleton.2 rfl)) (by have := HL.out; omega) (Nat.le_trans hgm hb'.size) hgx
  obtain rfl := cutp_T H1 hT1
  simp only [Act.put, List.setIfInBounds_toArray, List.set_cons_succ, List.set_cons_zero, Nat.reduceAdd]
  refine walkW_segn 1 [] facts0 noneHx (by kernel_rfl) (by kernel_rfl) ?_
  simp only [List.take_succ_cons, List.take_zero, List.drop_succ_cons, List.drop_zero, Nat.reduceAdd]
  repeat (go_big_quiet_step (fail))
  (first | refine wpQuiet_nil ?_ | (go_big_quiet_want; (try go_big_quiet_op); trace_state; fail))
  refine walkW_segn 1 [(13, fun w => bk w gb = some (.cells cur 5 (0, 0)))] (facts1 (fun w h => i13 w h.2)) ⟨w7, Below.refl _ _, fun p hp => by
    obtain rfl : p = _ := by simpa using hp
    exact (⟨fun (e : (13 : Nat) = 1) => absurd e (by decide), k13⟩)⟩ (by kernel_rfl) (by kernel_rfl) ?_
  simp only [List.take_succ_cons, List.take_zero, List.drop_succ_cons, List.drop_zero, Nat.reduceAdd]
  repeat (go_big_quiet_step (fail))
  (first | refine wpQuiet_nil ?_ | (go_big_quiet_want; (try go_big_quiet_op); trace_state; fail))
  refine walkW_segn 1 [] facts0 noneHx (by kernel_rfl) (by kernel_rfl) ?_
  simp only [List.take_succ_cons, List.take_zero, List.drop_succ_cons, List.drop_zero, Nat.reduceAdd]
  repeat (go_big_quiet_step (fail))
  (first | refine wpQuiet_nil ?_ | (go_big_quiet_want; (try go_big_quiet_op); trace_state; fail))
  refine walkW_mk (fun _ => M5) [] M5 [(1, M1.R (.slice (some ⟨gb, 8, none⟩) 16 16))] (facts1 fun w h => h.1 rfl) (by kernel_rfl) (by kernel_rfl) (by kernel_rfl) rfl rfl (fun w' hb' hg' => ?_) (fun v5 hT5 => ?_)
  · unfold madeAtW
    go_simp
    exact cutp_mk H5 (cutp_R H1 (hg' _ (List.mem_singleton.2 rfl))) (by have := HL.out; omega) (Nat.le_trans hgm hb'.size) hgx
  obtain rfl := cutp_T H5 hT5
  simp only [Act.put, List.setIfInBounds_toArray, List.set_cons_succ, List.set_cons_zero, Nat.reduceAdd]
  refine walkW_segn 1 [] facts0 noneHx (by kernel_rfl) (by kernel_rfl) ?_
  simp only [List.take_succ_cons, List.take_zero, List.drop_succ_cons, List.drop_zero, Nat.reduceAdd]
  repeat (go_big_quiet_step (fail))
  (first | refine wpQuiet_nil ?_ | (go_big_quiet_want; (try go_big_quiet_op); trace_state; fail))
  refine walkW_segn 1 [(13, fun w => bk w gb = some (.cells cur 5 (0, 0)))] (facts1 (fun w h => i13 w h.2.2)) ⟨w7, Below.refl _ _, fun p hp => by
    obtain rfl : p = _ := by simpa using hp
    exact (⟨fun (e : (13 : Nat) = 5) => absurd e (by decide), fun (e : (13 : Nat) = 1) => absurd e (by decide), k13⟩)⟩ (by kernel_rfl) (by kernel_rfl) ?_
  simp only [List.take_succ_cons, List.take_zero, List.drop_succ_cons, List.drop_zero, Nat.reduceAdd]
  repeat (go_big_quiet_step (fail))
  (first | refine wpQuiet_nil ?_ | (go_big_quiet_want; (try go_big_quiet_op); trace_state; fail))
  refine walkW_segn 1 [] facts0 noneHx (by kernel_rfl) (by kernel_rfl) ?_
  simp only [List.take_succ_cons, List.take_zero, List.drop_succ_cons, List.drop_zero, Nat.reduceAdd]
  repeat (go_big_quiet_step (fail))
  (first | refine wpQuiet_nil ?_ | (go_big_quiet_want; (try go_big_quiet_op); trace_state; fail))
  refine walkW_mk (fun _ => M9) [] M9 [(14, fun w => bk w x = some (.cells (pkC { pk0 with hops := n7 } none 0 0) 30 (0, 0)))] (facts1 fun w h => i14 w h.2.2) (by kernel_rfl) (by kernel_rfl) (by kernel_rfl) rfl rfl (fun w' hb' hg' => ?_) (fun v9 hT9 => ?_)
  · exact pkt_mk (off := 0) (l := sr) H9 rfl rfl rfl (hg' _ (List.mem_singleton.2 rfl)) p8 (by omega) (pkC_spl0 sr p8) (Nat.le_refl _)
  clear hT9
  simp only [Act.put]
  refine walkW_segn 1 [] facts0 noneHx (by kernel_rfl) (by kernel_rfl) ?_
  simp only [List.take_succ_cons, List.take_zero, List.drop_succ_cons, List.drop_zero, Nat.reduceAdd]
  repeat (go_big_quiet_step (fail))
  (first | refine wpQuiet_nil ?_ | (go_big_quiet_want; (try go_big_quiet_op); trace_state; fail))
  refine walkW_mk (fun _ => MB) [] MB [(9, M9.R v9)] (facts1 fun w h => h.1 rfl) (by kernel_rfl) (by kernel_rfl) (by kernel_rfl) rfl rfl (fun w' hb' hg' => ?_) (fun vB hTB => ?_)
  · exact pkt_mk (off := 16) (l := ds) HB rfl rfl rfl (pkt_R H9 (hg' _ (List.mem_singleton.2 rfl))) p24 (by omega) (pkC_spl16 ds p24) (Nat.le_refl _)
  clear hTB
  simp only [Act.put]
  refine walkW_nil ?_
  intro w9 hb9 hf
  have P9 := cutp_R H5 ((hf 5 (by kernel_rfl)).2.2.1 rfl)
  have X9 := pkt_R HB ((hf 11 (by kernel_rfl)).1 rfl)
  have Y9 := i15 _ (hf 15 (by kernel_rfl)).2.2.2.2
  have Z9 := i13 _ (hf 13 (by kernel_rfl)).2.2.2.2
  rw [HXW.out] at hb9 X9 Y9
  have G9 : Hid (Gw w w9 gc gb b (some 40) { pk0 with hops := n7, src := sr, hs := p8, dst := ds, hd := p24 }) := Lib.hid (by
    have l1 := G7.out.lb; have l2 := G7.out.lc
    exact ⟨G7.out.f.trans hb9, X9, Y9, P9, fun _ => ⟨cur, Z9, hct'.out⟩, l1, l2⟩)
  rw [HXW.out]
  clear kx7 ky7 hf P9 X9 Y9 Z9 hb9 hT1 hT5 H1 H5 H9 HB G7 hcb x8 x24 z8 z24 hrow hne k13 i12 i13 i14 i15 HF0 K13 hct' hgm hgx hgbx HXW
  have kx9 := G9.out.kx
  have lx9 := bk_lt kx9
  go_upto_region 10 with fail
  have e0 : cutB (z : Int) (stOf b (some 40)) = ([], none) := cutB_bad (.inr (by rw [List.length_drop]; omega))
  have p0 : posB (z : Int) b (some 40) = none := by simp only [posB]; rw [if_pos (.inr (by omega))]
  have C := pbytes_any gc gb b (some 40) z w9 G9.out.hP
  unfold PTook at C
  rw [e0, p0] at C
  have HC := Lib.hid C
  clear C e0 p0 kx9 lx9
  go_wp2_with fail
  refine HC.out.mono ?_
  rintro e wA ⟨A4, rfl, _, hPA, hgA⟩
  have GA := Lib.hid (G9.out.step hgA hPA)
  clear HC hPA hgA G9
  go_wp2_with fail
  refine (bad_PK gc gb b none wA GA.out.hP).mono ?_
  rintro e wB ⟨rfl, rfl⟩
  have kx := GA.out.kx; have ky := GA.out.ky
  have lx := bk_lt kx; have ly := bk_lt ky
  go_upto_region 12 with fail
  go_region
  rw [zpkA]
  have HQ := Lib.hid (two_rows GA.out.f GA.out.kx GA.out.ky (pkC pk0 none 0 0) (faultC 0 0))
  clear kx ky lx ly GA
  go_wp2_with fail
  refine ret_three (c1 := pkC pk0 none 0 0) (c2 := faultC 0 0) (ty1 := 30) (ty2 := 47) (f1 := (0, 0)) (f2 := (0, 0)) rfl rfl rfl rfl rfl (HQ.out).1 (HQ.out).2.1 Try.underlying30 Try.underlying47 rfl rfl (by rw [pkC_size]; kernel_rfl) (by kernel_rfl) ?_
  exact ⟨rfl, HQ.out.2.2.drew⟩
theorem pk_eq {p q : Pk} (h1 : p.src = q.src) (h2 : p.dst = q.dst) (h3 : p.hops = q.hops) (h4 : p.al = q.al) (h5 : p.fi = q.fi) (h6 : p.fid = q.fid) (h7 : p.fo = q.fo) (h8 : p.fm = q.fm) (h9 : p.nx = q.nx) : p = q := by
  cases p; cases q; simp_all
/-- What Get answers. -/
def HGet (b : List UInt8) (w : World) (e : Ending) (w' : World) : Prop :=
  ∃ A', e = .returned (.tuple #[.agg (pkC (gP b) A' (gT b).rest.length (gT b).rest.length), .agg (faultC (gT b).code (gT b).fat), .int .i64 ((gT b).e : Int)]) ∧ Gots (gT b).rest w.heap.size A' w' ∧ Below w.heap.size w w'
theorem HGet.zero {b : List UInt8} {w w' : World} {e : Ending} {k : Nat} (h : GetZ k w e w') (hT : gT b = tlE k) (h0 : k ≠ 0) (h7 : k ≠ 7) : HGet b w e w' := by
  refine ⟨none, ?_, by rw [hT]; exact Gots.nil, h.2⟩
  rw [h.1]
  unfold gP
  rw [hT, if_neg (by simp [tlE, h0, h7])]
  rfl
theorem three_sets {w wD : World} {c0 d0 : Array Value} (f : Below w.heap.size w wD) (kx : bk wD w.heap.size = some (.cells c0 30 (0, 0))) (ky : bk wD (w.heap.size + 1) = some (.cells d0 47 (0, 0))) (v1 v2 v3 : Value) :
    Below w.heap.size w (((wD.setCell ⟨w.heap.size, 38, none⟩ v1).setCell ⟨w.heap.size, 39, none⟩ v2).setCell ⟨w.heap.size, 33, none⟩ v3) ∧ (∃ c1, bk (((wD.setCell ⟨w.heap.size, 38, none⟩ v1).setCell ⟨w.heap.size, 39, none⟩ v2).setCell ⟨w.heap.size, 33, none⟩ v3) w.heap.size = some (.cells c1 30 (0, 0))) ∧
      bk (((wD.setCell ⟨w.heap.size, 38, none⟩ v1).setCell ⟨w.heap.size, 39, none⟩ v2).setCell ⟨w.heap.size, 33, none⟩ v3) (w.heap.size + 1) = some (.cells d0 47 (0, 0)) := by
  refine ⟨((f.setCell (p := ⟨w.heap.size, 38, none⟩) (Nat.le_refl _) _).setCell (p := ⟨w.heap.size, 39, none⟩) (Nat.le_refl _) _).setCell (p := ⟨w.heap.size, 33, none⟩) (Nat.le_refl _) _, ⟨_, by rw [bk_setCell_same, bk_setCell_same, bk_setCell_same, kx]; rfl⟩, ?_⟩
  rw [bk_setCell_other _ _ _ _ _ (by omega), bk_setCell_other _ _ _ _ _ (by omega), bk_setCell_other _ _ _ _ _ (by omega), ky]
theorem hget_good (A : Option Addr) (b : List UInt8) (c : Nat) (w : World) (h : Rd w w.heap.size A b) (hl : 40 ≤ b.length) (h30 : b.length < 2 ^ 30) (hf : (at8 b 0).toNat / 16 = 6) (hcut : 40 + gsz b ≤ b.length) : Calls Try.prog 22 #[.slice A b.length c] w (HGet b w) := by
  have hT : gT b = gR b := by unfold gT; rw [if_neg (by omega), if_neg (by omega), if_neg (by omega)]
  have HT := Lib.hid hT
  clear hT
  obtain ⟨bb, o, rfl, hbn, hcl⟩ := h (by omega)
  have u0 := hcl 0 (by omega)
  obtain ⟨y0, hy0⟩ : ∃ y, y = at8 b 0 := ⟨_, rfl⟩
  rw [show b[0]'(by omega) = y0 by rw [hy0]; unfold at8; rw [List.getD_eq_getElem?_getD, List.getElem?_eq_getElem]; rfl] at u0
  simp only [Nat.add_zero] at u0
  have d1 : decide ((b.length : Int) < 40) = false := by simp; omega
  have d2 : decide (b.length < 40) = false := by simp; omega
  have h0i : (0 : Int) < (b.length : Int) := by omega
  have h0n : 0 < b.length := by omega
  obtain ⟨k, hk⟩ : ∃ k, k = y0.toNat / 16 := ⟨_, rfl⟩
  have sh : (y0.toNat : Int) / 16 = (k : Int) := by omega
  rw [← hy0, ← hk] at hf
  have HH := Lib.hid h
  clear h hcl hy0 hk
  have k6 : (k : Int) = 6 := by omega
  obtain ⟨z, hz⟩ : ∃ z, z = gsz b := ⟨_, rfl⟩
  have hz16 : z < 65536 := by rw [hz]; unfold gsz; have := (at8 b 4).toNat_lt; have := (at8 b 5).toNat_lt; omega
  have e2 : val ((b.drop 4).take 2) = z := by rw [take_two b 4 (by omega), val_2, hz]; rfl
  have e6 : val ((b.drop 6).take 1) = (at8 b 6).toNat := take_one b 6 (by omega)
  have e7 : val ((b.drop 7).take 1) = (at8 b 7).toNat := take_one b 7 (by omega)
  obtain ⟨n6, hn6⟩ : ∃ z, z = at8 b 6 := ⟨_, rfl⟩
  obtain ⟨n7, hn7⟩ : ∃ z, z = at8 b 7 := ⟨_, rfl⟩
  rw [← hn6] at e6
  rw [← hn7] at e7
  have g2 : IntKind.i64.wrap (z : Int) = (z : Int) := by rw [IntKind.wrap_i64]; omega
  have g6 : IntKind.u8.wrap (n6.toNat : Int) = (n6.toNat : Int) := by have := n6.toNat_lt; rw [IntKind.wrap_u8]; omega
  have g7 : IntKind.u8.wrap (n7.toNat : Int) = (n7.toNat : Int) := by have := n7.toNat_lt; rw [IntKind.wrap_u8]; omega
  have EE := Lib.hid (And.intro e2 (And.intro e6 e7))
  have HZ := Lib.hid (And.intro hz (And.intro hn6 hn7))
  clear e2 e6 e7 hz hn6 hn7 hf
  go_enter Try.func22, Try.ntmps22
  go_upto_region 1 with fail
  rw [zpk]
  have a0 : Below w.heap.size w ((w.alloc (.cells (pkC pk0 none 0 0) 30 (0, 0))).alloc (.cells (faultC 0 0) 47 (0, 0))) := (by (repeat (first | exact Below.refl _ _ | assumption | refine Below.drew ?_ | refine bdrewN ?_ _ | refine Below.alloc ?_ (by first | omega | (simp <;> omega) | (simp only [World.size_alloc] <;> omega)) _ | refine below_setRow ?_ (by first | omega | (simp <;> omega)) _ | refine Below.setCell ?_ (by first | omega | (simp <;> omega)) _)))
  have kx : bk ((w.alloc (.cells (pkC pk0 none 0 0) 30 (0, 0))).alloc (.cells (faultC 0 0) 47 (0, 0))) w.heap.size = some (.cells (pkC pk0 none 0 0) 30 (0, 0)) := (bk_alloc_past _ _ _ (by simp)).trans (bk_alloc_at _ _ _ rfl)
  have ky : bk ((w.alloc (.cells (pkC pk0 none 0 0) 30 (0, 0))).alloc (.cells (faultC 0 0) 47 (0, 0))) (w.heap.size + 1) = some (.cells (faultC 0 0) 47 (0, 0)) := bk_alloc_at _ _ _ (by simp)
  have ls : ((w.alloc (.cells (pkC pk0 none 0 0) 30 (0, 0))).alloc (.cells (faultC 0 0) 47 (0, 0))).heap.size = w.heap.size + 2 := by simp
  change Code.wp _ _ _ _ ((w.alloc (.cells (pkC pk0 none 0 0) 30 (0, 0))).alloc (.cells (faultC 0 0) 47 (0, 0)))
  generalize (w.alloc (.cells (pkC pk0 none 0 0) 30 (0, 0))).alloc (.cells (faultC 0 0) 47 (0, 0)) = w1 at *
  have lx : w.heap.size < w1.heap.size := by omega
  have ly : w.heap.size + 1 < w1.heap.size := by omega
  rw [← a0.cell (p := ⟨bb, o, none⟩) hbn] at u0
  have HP := Lib.hid (And.intro a0 (And.intro kx ky))
  go_upto_region 5 with fail
  clear kx ky lx ly u0 sh k6
  go_wp2_with fail
  refine (of_PK (some ⟨bb, o, none⟩) b c w1 ((HH.out.below HP.out.1 (Nat.le_refl _)).mono HP.out.1.size) (fun h => by cases h) (by omega) w.heap.size (by omega)).mono ?_
  rintro e w2 ⟨gc, gb, rfl, hgc, hgd, hgg, hgb, hP, hB, b2⟩
  have hgb := hgb (by omega)
  have G2 : Hid (Gw w w2 gc gb b (some 0) pk0) := Lib.hid ⟨HP.out.1.trans (b2.mono HP.out.1.size), bk_keep b2 (bk_lt HP.out.2.1) HP.out.2.1, bk_keep b2 (bk_lt HP.out.2.2) HP.out.2.2, hP, hB, by omega, hgg⟩
  clear hP hB b2 hgc hgd HP a0
  go_wp2_with fail
  refine (num_at gc gb b 0 4 w2 G2.out.hP G2.out.hB hgg (by omega) (by omega) (by omega)).mono ?_
  rintro e w3 ⟨rfl, hP3, hg3⟩
  have G3 := Lib.hid (G2.out.step hg3 hP3)
  clear G2 hP3 hg3
  go_wp2_with fail
  refine (num_at gc gb b 4 2 w3 G3.out.hP G3.out.hB hgg (by omega) (by omega) (by omega)).mono ?_
  rintro e w4 ⟨rfl, hP4, hg4⟩
  have G4 := Lib.hid (G3.out.step hg4 hP4)
  rw [EE.out.1]
  clear G3 hP4 hg4
  go_wp2_with fail
  refine (num_at gc gb b 6 1 w4 G4.out.hP G4.out.hB hgg (by omega) (by omega) (by omega)).mono ?_
  rintro e w5 ⟨rfl, hP5, hg5⟩
  have G5 := Lib.hid (G4.out.step hg5 hP5)
  rw [EE.out.2.1]
  clear G4 hP5 hg5
  go_wp2_with fail
  refine (num_at gc gb b 7 1 w5 G5.out.hP G5.out.hB hgg (by omega) (by omega) (by omega)).mono ?_
  rintro e w6 ⟨rfl, hP6, hg6⟩
  have G6 := Lib.hid (G5.out.step hg6 hP6)
  rw [EE.out.2.2]
  clear G5 hP6 hg6
  have kx6 := G6.out.kx
  have lx6 := bk_lt kx6
  have fx6 := bk_frozen kx6 32
  have cx6 := (bk_cell kx6 32).trans (pkC_hops _ _ _ _)
  go_upto_region 9 with fail
  have G7 := Lib.hid (G6.out.put n7)
  clear G6 kx6 lx6 fx6 cx6
  change Code.wp _ _ _ _ (w6.setCell ⟨w.heap.size, 32, none⟩ (B n7))
  generalize w6.setCell ⟨w.heap.size, 32, none⟩ (B n7) = w7 at *
  rw [← HZ.out.1] at hcut
  obtain ⟨cur, hcb, hcz, hct⟩ := G7.out.hB (by omega)
  have x8 : xt cur 8 16 = (List.map B (p16 (b.drop 8))).toArray := by rw [xt_of_take hct 8 16 (by omega), p16_eq (by rw [List.length_drop]; omega)]
  have x24 : xt cur 24 16 = (List.map B (p16 (b.drop 24))).toArray := by rw [xt_of_take hct 24 16 (by omega), p16_eq (by rw [List.length_drop]; omega)]
  have z8 : 24 ≤ cur.size := by omega
  have z24 : 40 ≤ cur.size := by omega
  have p8 := p16_len (b.drop 8)
  have p24 := p16_len (b.drop 24)
  obtain ⟨sr, hsr⟩ : ∃ s, s = p16 (b.drop 8) := ⟨_, rfl⟩
  obtain ⟨ds, hds⟩ : ∃ s, s = p16 (b.drop 24) := ⟨_, rfl⟩
  rw [← hsr] at x8 p8
  rw [← hds] at x24 p24
  have HSD := Lib.hid (And.intro hsr hds)
  obtain ⟨x, hx⟩ : ∃ x, x = w.heap.size := ⟨_, rfl⟩
  obtain ⟨M1, hM1⟩ : ∃ M : MadeW x, M = MadeW.cutp x gc gb 8 b := ⟨_, rfl⟩
  obtain ⟨M5, hM5⟩ : ∃ M : MadeW x, M = MadeW.cutp x gc gb 24 b := ⟨_, rfl⟩
  obtain ⟨M9, hM9⟩ : ∃ M : MadeW x, M = MadeW.pkt x x { pk0 with hops := n7, src := sr, hs := p8 } := ⟨_, rfl⟩
  obtain ⟨MB, hMB⟩ : ∃ M : MadeW x, M = MadeW.pkt x x { pk0 with hops := n7, src := sr, hs := p8, dst := ds, hd := p24 } := ⟨_, rfl⟩
  have H1 := Lib.hid hM1; have H5 := Lib.hid hM5; have H9 := Lib.hid hM9; have HB := Lib.hid hMB
  have hgm : x ≤ w7.heap.size := by rw [hx]; exact G7.out.f.size
  have hgx : x ≤ gc := by have := G7.out.lb; have := G7.out.lc; omega
  have hgbx : ¬ gb < x := by have := G7.out.lb; omega
  have HL := Lib.hid hl
  have K13 : Hid (bk w7 gb = some (.cells cur 5 (0, 0))) := Lib.hid hcb
  have hct' := Lib.hid (And.intro hcz hct)
  obtain ⟨f0, hf0⟩ : ∃ f : Fs, f = fun j w => (j = 12 → PK w gc gb b (some 8)) ∧ (j = 13 → bk w gb = some (.cells cur 5 (0, 0))) ∧ (j = 14 → bk w x = some (.cells (pkC { pk0 with hops := n7 } none 0 0) 30 (0, 0))) ∧ (j = 15 → bk w (x + 1) = some (.cells (faultC 0 0) 47 (0, 0))) := ⟨_, rfl⟩
  have i12 : ∀ w, f0 12 w → PK w gc gb b (some 8) := fun w h => by rw [hf0] at h; exact h.1 rfl
  have i13 : ∀ w, f0 13 w → bk w gb = some (.cells cur 5 (0, 0)) := fun w h => by rw [hf0] at h; exact h.2.1 rfl
  have i14 : ∀ w, f0 14 w → bk w x = some (.cells (pkC { pk0 with hops := n7 } none 0 0) 30 (0, 0)) := fun w h => by rw [hf0] at h; exact h.2.2.1 rfl
  have i15 : ∀ w, f0 15 w → bk w (x + 1) = some (.cells (faultC 0 0) 47 (0, 0)) := fun w h => by rw [hf0] at h; exact h.2.2.2 rfl
  have k13 : f0 13 w7 := by rw [hf0]; exact ⟨fun e => absurd e (by decide), fun _ => hcb, fun e => absurd e (by decide), fun e => absurd e (by decide)⟩
  have HF0 := Lib.hid hf0
  have HXW := Lib.hid hx
  have kx7 : bk w7 x = some (.cells (pkC { pk0 with hops := n7 } none 0 0) 30 (0, 0)) := by rw [hx]; exact G7.out.kx
  have ky7 : bk w7 (x + 1) = some (.cells (faultC 0 0) 47 (0, 0)) := by rw [hx]; exact G7.out.ky
  rw [← hx]
  have hrow := rowIn_eq (m := x) (W := w7) (gs := [(13, fun w => bk w gb = some (.cells cur 5 (0, 0)))]) (hne := ⟨⟨w7, Below.refl _ _, fun p hp => (by
    obtain rfl : p = _ := (by simpa using hp)
    exact hcb)⟩⟩) (b := gb) (r := .cells cur 5 (0, 0)) (fun w h => h _ (List.mem_singleton.2 rfl))
  have hne : Nonempty (LaterF x w7 [(13, fun w => bk w gb = some (.cells cur 5 (0, 0)))]) := ⟨⟨w7, Below.refl _ _, fun p hp => (by
    obtain rfl : p = _ := (by simpa using hp)
    exact hcb)⟩⟩
  clear hct hsr hds hM1 hM5 hM9 hMB hf0 hx hcz
  refine wp_region_e x [.cutp 1 H1, .cutp 5 H5, .pkt 9 H9, .pkt 11 HB, .rest1 x 12 97, .rest1 x 13 5, .rest1 x 14 30, .rest1 x 15 47] (fun k => (([(1, [12]), (3, [13]), (5, [1]), (7, [13]), (9, [14]), (11, [9])] : List (Nat × List Nat)).lookup k).getD []) f0 hgm (by kernel_rfl) (by kernel_rfl) (by kernel_rfl) (by kernel_rfl) (by rw [HF0.out]; exact ini_get rfl rfl rfl rfl (Nat.le_refl 12) G7.out.hP hcb kx7 ky7) ?_
  refine walkW_segn 1 [] facts0 noneHx (by kernel_rfl) (by kernel_rfl) ?_
  simp only [List.take_succ_cons, List.take_zero, List.drop_succ_cons, List.drop_zero, Nat.reduceAdd]
  repeat (go_big_quiet_step (fail))
  (first | refine wpQuiet_nil ?_ | (go_big_quiet_want; (try go_big_quiet_op); trace_state; fail))
  refine walkW_mk (fun _ => M1) [] M1 [(12, fun w => PK w gc gb b (some 8))] (facts1 i12) (by kernel_rfl) (by kernel_rfl) (by kernel_rfl) rfl rfl (fun w' hb' hg' => ?_) (fun v1 hT1 => ?_)
  · unfold madeAtW
    go_simp
    exact cutp_mk H1 (hg' _ (List.mem_singleton.2 rfl)) (by have := HL.out; omega) (Nat.le_trans hgm hb'.size) hgx
  obtain rfl := cutp_T H1 hT1
  simp only [Act.put, List.setIfInBounds_toArray, List.set_cons_succ, List.set_cons_zero, Nat.reduceAdd]
  refine walkW_segn 1 [] facts0 noneHx (by kernel_rfl) (by kernel_rfl) ?_
  simp only [List.take_succ_cons, List.take_zero, List.drop_succ_cons, List.drop_zero, Nat.reduceAdd]
  repeat (go_big_quiet_step (fail))
  (first | refine wpQuiet_nil ?_ | (go_big_quiet_want; (try go_big_quiet_op); trace_state; fail))
  refine walkW_segn 1 [(13, fun w => bk w gb = some (.cells cur 5 (0, 0)))] (facts1 (fun w h => i13 w h.2)) ⟨w7, Below.refl _ _, fun p hp => by
    obtain rfl : p = _ := by simpa using hp
    exact (⟨fun (e : (13 : Nat) = 1) => absurd e (by decide), k13⟩)⟩ (by kernel_rfl) (by kernel_rfl) ?_
  simp only [List.take_succ_cons, List.take_zero, List.drop_succ_cons, List.drop_zero, Nat.reduceAdd]
  repeat (go_big_quiet_step (fail))
  (first | refine wpQuiet_nil ?_ | (go_big_quiet_want; (try go_big_quiet_op); trace_state; fail))
  refine walkW_segn 1 [] facts0 noneHx (by kernel_rfl) (by kernel_rfl) ?_
  simp only [List.take_succ_cons, List.take_zero, List.drop_succ_cons, List.drop_zero, Nat.reduceAdd]
  repeat (go_big_quiet_step (fail))
  (first | refine wpQuiet_nil ?_ | (go_big_quiet_want; (try go_big_quiet_op); trace_state; fail))
  refine walkW_mk (fun _ => M5) [] M5 [(1, M1.R (.slice (some ⟨gb, 8, none⟩) 16 16))] (facts1 fun w h => h.1 rfl) (by kernel_rfl) (by kernel_rfl) (by kernel_rfl) rfl rfl (fun w' hb' hg' => ?_) (fun v5 hT5 => ?_)
  · unfold madeAtW
    go_simp
    exact cutp_mk H5 (cutp_R H1 (hg' _ (List.mem_singleton.2 rfl))) (by have := HL.out; omega) (Nat.le_trans hgm hb'.size) hgx
  obtain rfl := cutp_T H5 hT5
  simp only [Act.put, List.setIfInBounds_toArray, List.set_cons_succ, List.set_cons_zero, Nat.reduceAdd]
  refine walkW_segn 1 [] facts0 noneHx (by kernel_rfl) (by kernel_rfl) ?_
  simp only [List.take_succ_cons, List.take_zero, List.drop_succ_cons, List.drop_zero, Nat.reduceAdd]
  repeat (go_big_quiet_step (fail))
  (first | refine wpQuiet_nil ?_ | (go_big_quiet_want; (try go_big_quiet_op); trace_state; fail))
  refine walkW_segn 1 [(13, fun w => bk w gb = some (.cells cur 5 (0, 0)))] (facts1 (fun w h => i13 w h.2.2)) ⟨w7, Below.refl _ _, fun p hp => by
    obtain rfl : p = _ := by simpa using hp
    exact (⟨fun (e : (13 : Nat) = 5) => absurd e (by decide), fun (e : (13 : Nat) = 1) => absurd e (by decide), k13⟩)⟩ (by kernel_rfl) (by kernel_rfl) ?_
  simp only [List.take_succ_cons, List.take_zero, List.drop_succ_cons, List.drop_zero, Nat.reduceAdd]
  repeat (go_big_quiet_step (fail))
  (first | refine wpQuiet_nil ?_ | (go_big_quiet_want; (try go_big_quiet_op); trace_state; fail))
  refine walkW_segn 1 [] facts0 noneHx (by kernel_rfl) (by kernel_rfl) ?_
  simp only [List.take_succ_cons, List.take_zero, List.drop_succ_cons, List.drop_zero, Nat.reduceAdd]
  repeat (go_big_quiet_step (fail))
  (first | refine wpQuiet_nil ?_ | (go_big_quiet_want; (try go_big_quiet_op); trace_state; fail))
  refine walkW_mk (fun _ => M9) [] M9 [(14, fun w => bk w x = some (.cells (pkC { pk0 with hops := n7 } none 0 0) 30 (0, 0)))] (facts1 fun w h => i14 w h.2.2) (by kernel_rfl) (by kernel_rfl) (by kernel_rfl) rfl rfl (fun w' hb' hg' => ?_) (fun v9 hT9 => ?_)
  · exact pkt_mk (off := 0) (l := sr) H9 rfl rfl rfl (hg' _ (List.mem_singleton.2 rfl)) p8 (by omega) (pkC_spl0 sr p8) (Nat.le_refl _)
  clear hT9
  simp only [Act.put]
  refine walkW_segn 1 [] facts0 noneHx (by kernel_rfl) (by kernel_rfl) ?_
  simp only [List.take_succ_cons, List.take_zero, List.drop_succ_cons, List.drop_zero, Nat.reduceAdd]
  repeat (go_big_quiet_step (fail))
  (first | refine wpQuiet_nil ?_ | (go_big_quiet_want; (try go_big_quiet_op); trace_state; fail))
  refine walkW_mk (fun _ => MB) [] MB [(9, M9.R v9)] (facts1 fun w h => h.1 rfl) (by kernel_rfl) (by kernel_rfl) (by kernel_rfl) rfl rfl (fun w' hb' hg' => ?_) (fun vB hTB => ?_)
  · exact pkt_mk (off := 16) (l := ds) HB rfl rfl rfl (pkt_R H9 (hg' _ (List.mem_singleton.2 rfl))) p24 (by omega) (pkC_spl16 ds p24) (Nat.le_refl _)
  clear hTB
  simp only [Act.put]
  refine walkW_nil ?_
  intro w9 hb9 hf
  have P9 := cutp_R H5 ((hf 5 (by kernel_rfl)).2.2.1 rfl)
  have X9 := pkt_R HB ((hf 11 (by kernel_rfl)).1 rfl)
  have Y9 := i15 _ (hf 15 (by kernel_rfl)).2.2.2.2
  have Z9 := i13 _ (hf 13 (by kernel_rfl)).2.2.2.2
  rw [HXW.out] at hb9 X9 Y9
  have G9 : Hid (Gw w w9 gc gb b (some 40) { pk0 with hops := n7, src := sr, hs := p8, dst := ds, hd := p24 }) := Lib.hid (by
    have l1 := G7.out.lb; have l2 := G7.out.lc
    exact ⟨G7.out.f.trans hb9, X9, Y9, P9, fun _ => ⟨cur, Z9, hct'.out⟩, l1, l2⟩)
  rw [HXW.out]
  clear kx7 ky7 hf P9 X9 Y9 Z9 hb9 hT1 hT5 H1 H5 H9 HB G7 hcb x8 x24 z8 z24 hrow hne k13 i12 i13 i14 i15 HF0 K13 hct' hgm hgx hgbx HXW
  have kx9 := G9.out.kx
  have lx9 := bk_lt kx9
  go_upto_region 10 with fail
  have e0 : cutB (z : Int) (stOf b (some 40)) = ((b.drop 40).take z, some ((b.drop 40).drop z)) := cutB_good (by rw [List.length_drop]; omega)
  have p0 : posB (z : Int) b (some 40) = some (40 + z) := by simp only [posB]; rw [if_neg (by omega)]; simp
  have C := pbytes_any gc gb b (some 40) z w9 G9.out.hP
  unfold PTook at C
  rw [e0, p0] at C
  obtain ⟨T, hTT⟩ : ∃ T, T = (b.drop 40).take z := ⟨_, rfl⟩
  simp only [← hTT] at C
  have hTl : T.length = z := by rw [hTT, List.length_take, List.length_drop]; omega
  have HC := Lib.hid C
  have HTT := Lib.hid (And.intro hTT hTl)
  clear C e0 p0 kx9 lx9 hTT hTl
  go_wp2_with fail
  refine HC.out.mono ?_
  rintro e wA ⟨A4, rfl, hA4, hPA, hgA⟩
  have GA := Lib.hid (G9.out.step hgA hPA)
  have GT : Hid (Gots T gb A4 wA) := Lib.hid (by
    have h := Gots.of_PB (q := 40) (m := z) GA.out.hB (by obtain ⟨cs, hb⟩ := GA.out.hP.obj; have := bk_lt hb; have := GA.out.lc; omega) (Nat.le_refl gb) (A := A4) (fun h0 => by
      rw [← HTT.out.1] at h0
      obtain ⟨q, hq, he, _⟩ := hA4 h0
      cases hq
      exact he)
    rw [← HTT.out.1] at h
    exact h)
  clear HC hPA hgA G9 hA4
  go_wp2_with fail
  refine (bad_PK gc gb b (some (40 + z)) wA GA.out.hP).mono ?_
  rintro e wB ⟨rfl, rfl⟩
  have kx := GA.out.kx
  have lx := bk_lt kx
  go_wp2_with fail
  refine (isMul_any ds p24 wA).mono ?_
  rintro e wC ⟨rfl, bC⟩
  have KK : Hid (Below w.heap.size w wC ∧ bk wC w.heap.size = some (.cells (pkC { pk0 with hops := n7, src := sr, hs := p8, dst := ds, hd := p24 } none 0 0) 30 (0, 0)) ∧ bk wC (w.heap.size + 1) = some (.cells (faultC 0 0) 47 (0, 0))) :=
    Lib.hid ⟨GA.out.f.trans (bC.mono GA.out.f.size), bk_keep bC lx kx, bk_keep bC (bk_lt GA.out.ky) GA.out.ky⟩
  replace GT := Lib.hid (GT.out.below bC)
  clear kx lx bC GA
  obtain ⟨mc, hmc⟩ : ∃ m, m = isMul ds := ⟨_, rfl⟩
  rw [← hmc]
  obtain ⟨R, hR⟩ : ∃ R, R = chain mc n6 T 40 6 true false := ⟨_, rfl⟩
  have HR : Hid (R = gR b) := Lib.hid (by rw [hR, hmc, HSD.out.2, HZ.out.2.1, HTT.out.1, HZ.out.1]; rfl)
  have hsh : Shape R := by rw [hR]; exact chain_shape ..
  have C := chain_any n6 A4 T T.length 40 mc wC GT.out.rd GT.out.nn (Nat.le_refl _) (by rw [HTT.out.2]; omega) (by omega)
  rw [show chain mc n6 T 40 (if 40 = 40 then 6 else 40 - 8) (40 == 40) false = R from hR.symm] at C
  have HC := Lib.hid C
  have hbd := shape_bound hsh
  have HSH := Lib.hid hsh
  clear C hR hmc hsh
  obtain ⟨last, rest, al, fi, fid, fo, fm, code, fat, er⟩ := R
  simp only at hbd
  go_wp2_with fail
  refine HC.out.mono ?_
  rintro e wD ⟨A5, rfl, hG5, bD⟩
  have G5 : Hid (Gots rest wC.heap.size A5 wD) := Lib.hid hG5
  have lC := KK.out.1.size
  have lC1 := bk_lt KK.out.2.2
  replace KK := Lib.hid (And.intro (KK.out.1.trans (bD.mono KK.out.1.size)) (And.intro (bk_keep bD (bk_lt KK.out.2.1) KK.out.2.1) (bk_keep bD (bk_lt KK.out.2.2) KK.out.2.2)))
  have hsCD := bD.size
  clear HC GT hG5 bD
  have kx := KK.out.2.1; have ky := KK.out.2.2
  have lx := bk_lt kx; have ly := bk_lt ky
  have f38 := bk_frozen kx 38; have f39 := bk_frozen kx 39; have f33 := bk_frozen kx 33
  have c38 := (bk_cell kx 38).trans (pkC_nx _ _ _ _); have c39 := (bk_cell kx 39).trans (pkC_body _ _ _ _); have c33 := (bk_cell kx 33).trans (pkC_al _ _ _ _)
  unfold tlV
  have s34 := fun (P : Pk) (A : Option Addr) (n c : Nat) => pkC_spl34 (p := P) (A := A) (n := n) (c := c) fi fid fo fm hbd.1 hbd.2
  go_upto_region 14 with fail
  clear f38 f39 f33 c38 c39 c33 kx ky lx ly s34
  obtain ⟨P, hP⟩ : ∃ P : Pk, P = { src := sr, dst := ds, hops := n7, al := al, fi := fi, fid := fid, fo := fo, fm := fm, nx := last, hs := p8, hd := p24, hid := hbd.1, ho := hbd.2 } := ⟨_, rfl⟩
  obtain ⟨m0, hm0⟩ : ∃ m, m = wC.heap.size := ⟨_, rfl⟩
  have hm1 : w.heap.size + 1 < m0 := by omega
  obtain ⟨q1, ⟨c1, q2⟩, q3⟩ := three_sets KK.out.1 KK.out.2.1 KK.out.2.2 (.int .u8 (last.toNat : Int)) (.slice A5 rest.length rest.length) (.bool al)
  obtain ⟨r1, r2, r3⟩ := two_rows q1 q2 q3 (pkC P A5 rest.length rest.length) (faultC code fat)
  have hgot : Gots rest m0 A5 (((((wD.setCell ⟨w.heap.size, 38, none⟩ (.int .u8 (last.toNat : Int))).setCell ⟨w.heap.size, 39, none⟩ (.slice A5 rest.length rest.length)).setCell ⟨w.heap.size, 33, none⟩ (.bool al)).setRow w.heap.size (pkC P A5 rest.length rest.length)).setRow (w.heap.size + 1) (faultC code fat)) :=
    Gots.turn G5.out (Nat.le_of_eq hm0) (by simp [World.setRow, World.setCell]) (fun b hb => by
      rw [bk_setRow_other _ _ _ _ (by omega), bk_setRow_other _ _ _ _ (by omega), bk_setCell_other _ _ _ _ _ (by omega), bk_setCell_other _ _ _ _ _ (by omega), bk_setCell_other _ _ _ _ _ (by omega)])
  rw [← hP]
  have KX := Lib.hid r1; have KY := Lib.hid r2; have FF := Lib.hid r3; have GG := Lib.hid hgot
  have HPP := Lib.hid hP
  clear q1 q2 q3 r1 r2 r3 hgot KK G5 lC lC1 hsCD hP hm0
  generalize ((((wD.setCell ⟨w.heap.size, 38, none⟩ (.int .u8 (last.toNat : Int))).setCell ⟨w.heap.size, 39, none⟩ (.slice A5 rest.length rest.length)).setCell ⟨w.heap.size, 33, none⟩ (.bool al)).setRow w.heap.size (pkC P A5 rest.length rest.length)).setRow (w.heap.size + 1) (faultC code fat) = w14 at *
  have kx := KX.out; have ky := KY.out
  have lx := bk_lt kx; have ly := bk_lt ky
  rcases HSH.out with ⟨h1, h2, h3, _⟩ | ⟨co, pp, al', h1⟩ | ⟨ee, h1, h2, h3⟩
  · simp only at h1 h2 h3
    subst h1 h2 h3
    go_upto_region 16 with fail
    go_wp2_with fail
    have HQ := Lib.hid (two_rows FF.out KX.out KY.out (pkC P A5 rest.length rest.length) (faultC 0 0))
    refine ret_three (c1 := pkC P A5 rest.length rest.length) (c2 := faultC 0 0) (ty1 := 30) (ty2 := 47) (f1 := (0, 0)) (f2 := (0, 0)) rfl rfl rfl rfl rfl (HQ.out).1 (HQ.out).2.1 Try.underlying30 Try.underlying47 rfl rfl (by rw [pkC_size]; kernel_rfl) (by kernel_rfl) ?_
    have hgP : gP b = P := by
      unfold gP
      rw [HT.out, ← HR.out, if_pos (.inl rfl)]
      exact pk_eq (by rw [HPP.out]; exact HSD.out.1.symm) (by rw [HPP.out]; exact HSD.out.2.symm) (by rw [HPP.out]; exact HZ.out.2.2.symm) (by rw [HPP.out]; rfl) (by rw [HPP.out]; rfl) (by rw [HPP.out]; exact Nat.mod_eq_of_lt hbd.1) (by rw [HPP.out]; exact Nat.mod_eq_of_lt hbd.2) (by rw [HPP.out]; rfl) (by rw [HPP.out]; rfl)
    refine ⟨A5, by rw [hgP, HT.out, ← HR.out]; rfl, ?_, HQ.out.2.2⟩
    rw [HT.out, ← HR.out]
    exact Gots.turn GG.out (by omega) (by simp [World.setRow]) (fun b hb => by rw [bk_setRow_other _ _ _ _ (by omega), bk_setRow_other _ _ _ _ (by omega)])
  · unfold tlF at h1
    injection h1 with e1 e2 e3 e4 e5 e6 e7 e8 e9 e10
    subst e1 e2 e3 e4 e5 e6 e7 e8 e9 e10
    have hps : P.src = sr ∧ P.dst = ds ∧ P.hops = n7 ∧ P.al = al := by rw [HPP.out]; exact ⟨rfl, rfl, rfl, rfl⟩
    have x0 : xt (pkC P A5 0 0) 0 16 = (List.map B sr).toArray := by rw [pkC_xsrc, hps.1]
    have x1 : xt (pkC P A5 0 0) 16 16 = (List.map B ds).toArray := by rw [pkC_xdst, hps.2.1]
    have c32 : w14.cell? ⟨w.heap.size, 32, none⟩ = some (B n7) := by rw [bk_cell KX.out, pkC_hops, hps.2.2.1]
    have c33 : w14.cell? ⟨w.heap.size, 33, none⟩ = some (.bool al) := by rw [bk_cell KX.out, pkC_al, hps.2.2.2]
    go_upto_region 18 with fail
    go_region
    have HQ := Lib.hid (two_rows FF.out KX.out KY.out (pkC ⟨sr, ds, n7, al, false, 0, 0, false, 0, p8, p24, by decide, by decide⟩ none 0 0) (faultC code (min pp 4294967295)))
    go_wp2_with fail
    refine ret_three (c1 := pkC ⟨sr, ds, n7, al, false, 0, 0, false, 0, p8, p24, by decide, by decide⟩ none 0 0) (c2 := faultC code (min pp 4294967295)) (ty1 := 30) (ty2 := 47) (f1 := (0, 0)) (f2 := (0, 0)) rfl rfl rfl rfl rfl (HQ.out).1 (HQ.out).2.1 Try.underlying30 Try.underlying47 rfl rfl (by rw [pkC_size]; kernel_rfl) (by kernel_rfl) ?_
    have hgP : gP b = ⟨sr, ds, n7, al, false, 0, 0, false, 0, p8, p24, by decide, by decide⟩ := by
      unfold gP
      rw [HT.out, ← HR.out, if_pos (.inr rfl)]
      exact pk_eq HSD.out.1.symm HSD.out.2.symm HZ.out.2.2.symm rfl rfl rfl rfl rfl rfl
    exact ⟨none, by rw [hgP, HT.out, ← HR.out]; rfl, by rw [HT.out, ← HR.out]; exact Gots.nil, HQ.out.2.2.drew⟩
  · unfold tlE at h1
    injection h1 with e1 e2 e3 e4 e5 e6 e7 e8 e9 e10
    subst e1 e2 e3 e4 e5 e6 e7 e8 e9 e10
    have hee0 : ¬ (er : Int) = 0 := by omega
    have hee7 : ¬ (er : Int) = 7 := by omega
    go_upto_region 19 with fail
    go_region
    rw [zpkA]
    have HQ := Lib.hid (two_rows FF.out KX.out KY.out (pkC pk0 none 0 0) (faultC 0 0))
    go_wp2_with fail
    refine ret_three (c1 := pkC pk0 none 0 0) (c2 := faultC 0 0) (ty1 := 30) (ty2 := 47) (f1 := (0, 0)) (f2 := (0, 0)) rfl rfl rfl rfl rfl (HQ.out).1 (HQ.out).2.1 Try.underlying30 Try.underlying47 rfl rfl (by rw [pkC_size]; kernel_rfl) (by kernel_rfl) ?_
    refine ⟨none, ?_, by rw [HT.out, ← HR.out]; exact Gots.nil, HQ.out.2.2.drew⟩
    unfold gP
    rw [HT.out, ← HR.out, if_neg (by simp [h2, h3])]
    rfl
theorem hget_any (A : Option Addr) (b : List UInt8) (c : Nat) (w : World) (h : Rd w w.heap.size A b) (h30 : b.length < 2 ^ 30) : Calls Try.prog 22 #[.slice A b.length c] w (HGet b w) := by
  by_cases h1 : b.length < 40
  · exact (hget_short A b.length c w h1).mono fun e w' hz => HGet.zero hz (by unfold gT; rw [if_pos h1]) (by decide) (by decide)
  · by_cases h2 : (at8 b 0).toNat / 16 ≠ 6
    · exact (hget_form A b c w h (by omega) h2).mono fun e w' hz => HGet.zero hz (by unfold gT; rw [if_neg h1, if_pos h2]) (by decide) (by decide)
    · by_cases h3 : b.length < 40 + gsz b
      · exact (hget_cut A b c w h (by omega) h30 (by omega) h3).mono fun e w' hz => HGet.zero hz (by unfold gT; rw [if_neg h1, if_neg h2, if_pos h3]) (by decide) (by decide)
      · exact hget_good A b c w h (by omega) h30 (by omega) (by omega)
end Go.Proofs.Ytbfiakikhkiefaa
/- Headers: the document's Get. -/
namespace Go.Proofs.Ytbfiakikhkiefaa
open Go.RowKit
set_option maxRecDepth 100000
set_option maxHeartbeats 4000000
@[go_sem ↓] theorem qfTold (dst : Option Tmp) (x : Operand) (t : TypeId) (pos : String) (af : Array Edge) (g : Option (Nat × Bool)) (a : Act) (m : Nat) (W : World) (gs : List (Nat × (World → Prop))) [Nonempty (LaterF m W gs)] (K : Act → Prop) :
    Oper.quiet Try.prog ⟨dst, .load 51 x, t, pos, af, g⟩ a (fun w' => ∃ x : LaterF m W gs, w' = x.w) K =
      ldF (quietHid Try.prog ⟨dst, .load 51 x, t, pos, af, g⟩ a (fun w' => ∃ x : LaterF m W gs, w' = x.w) K) gs m 10 W (fun c => K (a.put dst (.agg c))) (a.eval x) :=
  quiet_load_F 51 10 _ Try.underlying51 rfl (by kernel_rfl) dst x t pos af g a m W gs K
@[go_sem ↓] theorem cpBytes (dst : Option Tmp) (x y : Operand) (t : TypeId) (pos : String) (af : Array Edge) (gd : Option (Nat × Bool)) (a : Act) (w : World) (K : Act → World → Prop) (Q : Exit → Act → World → Prop) :
    Oper.wp Try.prog ⟨dst, .call { callee := .builtin .copy, args := #[x, y], argTypes := #[28, 28] }, t, pos, af, gd⟩ a w K Q =
      cpPtr (wpHid Try.prog ⟨dst, .call { callee := .builtin .copy, args := #[x, y], argTypes := #[28, 28] }, t, pos, af, gd⟩ a w K Q) w (fun n w' => K (a.put dst (.int .i64 n)) w') (a.eval x) (a.eval y) :=
  wp_copy_bk 28 28 5 Try.underlying28 (by kernel_rfl) dst x y t pos af gd a w K Q
/-- Bytes that are read lie in a block of cells. -/
theorem Rd.obj {w : World} {n bb o : Nat} {l : List UInt8} (h : Rd w n (some ⟨bb, o, none⟩) l) (h0 : 0 < l.length) :
    ∃ c t fr, bk w bb = some (.cells c t fr) ∧ o + l.length ≤ c.size ∧ ∀ i m, i + m ≤ l.length → xt c (o + i) m = (List.map B ((l.drop i).take m)).toArray := by
  obtain ⟨b', o', e, hlt, hc⟩ := h h0
  cases e
  have h1 := hc 0 h0
  rw [Nat.add_zero] at h1
  have hobj : ∃ c t fr, bk w bb = some (.cells c t fr) := by
    unfold World.cell? at h1
    split at h1
    · rename_i c t fr hb; exact ⟨c, t, fr, hb⟩
    · cases h1
  obtain ⟨c, t, fr, hb⟩ := hobj
  have hcell : ∀ j (hj : j < l.length), c[o + j]? = some (B l[j]) := fun j hj => by rw [← bk_cell hb]; exact hc j hj
  have hsz : o + l.length ≤ c.size := by
    have := hcell (l.length - 1) (by omega)
    have := (Array.getElem?_eq_some_iff.1 this).1
    omega
  refine ⟨c, t, fr, hb, hsz, fun i m him => ?_⟩
  apply Array.ext_getElem?
  intro j
  unfold xt
  rw [Array.getElem?_extract]
  by_cases hj : j < m
  · rw [if_pos (by omega), Nat.add_assoc, hcell (i + j) (by omega)]
    simp [hj, List.getElem?_drop, List.getElem?_eq_getElem (show i + j < l.length by omega)]
  · rw [if_neg (by omega)]
    simp [List.getElem?_take, hj]
theorem rget_short (A : Option Addr) (n c : Nat) (w : World) (hl : n < 40) : Calls Try.prog 23 #[.slice A n c] w (GetZ 5 w) := by
  have d1 : decide ((n : Int) < 40) = true := by simp; omega
  have d2 : decide (n < 40) = true := by simp; omega
  go_enter Try.func23, Try.ntmps23
  go_upto_region 1 with fail
  rw [zpk]
  have a0 : Below w.heap.size w ((w.alloc (.cells (pkC pk0 none 0 0) 30 (0, 0))).alloc (.cells (faultC 0 0) 47 (0, 0))) := (by (repeat (first | exact Below.refl _ _ | assumption | refine Below.drew ?_ | refine bdrewN ?_ _ | refine Below.alloc ?_ (by first | omega | (simp <;> omega) | (simp only [World.size_alloc] <;> omega)) _ | refine below_setRow ?_ (by first | omega | (simp <;> omega)) _ | refine Below.setCell ?_ (by first | omega | (simp <;> omega)) _)))
  have kx : bk ((w.alloc (.cells (pkC pk0 none 0 0) 30 (0, 0))).alloc (.cells (faultC 0 0) 47 (0, 0))) w.heap.size = some (.cells (pkC pk0 none 0 0) 30 (0, 0)) := (bk_alloc_past _ _ _ (by simp)).trans (bk_alloc_at _ _ _ rfl)
  have ky : bk ((w.alloc (.cells (pkC pk0 none 0 0) 30 (0, 0))).alloc (.cells (faultC 0 0) 47 (0, 0))) (w.heap.size + 1) = some (.cells (faultC 0 0) 47 (0, 0)) := bk_alloc_at _ _ _ (by simp)
  have ls : ((w.alloc (.cells (pkC pk0 none 0 0) 30 (0, 0))).alloc (.cells (faultC 0 0) 47 (0, 0))).heap.size = w.heap.size + 2 := by simp
  change Code.wp _ _ _ _ ((w.alloc (.cells (pkC pk0 none 0 0) 30 (0, 0))).alloc (.cells (faultC 0 0) 47 (0, 0)))
  generalize (w.alloc (.cells (pkC pk0 none 0 0) 30 (0, 0))).alloc (.cells (faultC 0 0) 47 (0, 0)) = w1 at *
  have lx : w.heap.size < w1.heap.size := by omega
  have ly : w.heap.size + 1 < w1.heap.size := by omega
  go_wp2_with fail
  have HQ := Lib.hid (two_rows a0 kx ky (pkC pk0 none 0 0) (faultC 0 0))
  refine ret_three (c1 := pkC pk0 none 0 0) (c2 := faultC 0 0) (ty1 := 30) (ty2 := 47) (f1 := (0, 0)) (f2 := (0, 0)) rfl rfl rfl rfl rfl (HQ.out).1 (HQ.out).2.1 Try.underlying30 Try.underlying47 rfl rfl (by rw [pkC_size]; kernel_rfl) (by kernel_rfl) ?_
  exact ⟨rfl, HQ.out.2.2⟩
theorem rget_form (A : Option Addr) (b : List UInt8) (c : Nat) (w : World) (h : Rd w w.heap.size A b) (hl : 40 ≤ b.length) (hf : (at8 b 0).toNat / 16 ≠ 6) : Calls Try.prog 23 #[.slice A b.length c] w (GetZ 4 w) := by
  obtain ⟨bb, o, rfl, hbn, hcl⟩ := h (by omega)
  have u0 := hcl 0 (by omega)
  obtain ⟨y0, hy0⟩ : ∃ y, y = at8 b 0 := ⟨_, rfl⟩
  rw [show b[0]'(by omega) = y0 by rw [hy0]; unfold at8; rw [List.getD_eq_getElem?_getD, List.getElem?_eq_getElem]; rfl] at u0
  simp only [Nat.add_zero] at u0
  have d1 : decide ((b.length : Int) < 40) = false := by simp; omega
  have d2 : decide (b.length < 40) = false := by simp; omega
  have h0i : (0 : Int) < (b.length : Int) := by omega
  have h0n : 0 < b.length := by omega
  obtain ⟨k, hk⟩ : ∃ k, k = y0.toNat / 16 := ⟨_, rfl⟩
  have sh : (y0.toNat : Int) / 16 = (k : Int) := by omega
  rw [← hy0, ← hk] at hf
  have HH := Lib.hid h
  clear h hcl hy0 hk
  have sh' : (y0.toNat : Int).tdiv 16 = (k : Int) := by rw [Int.tdiv_eq_ediv_of_nonneg (by omega)]; exact sh
  have hk8 : k < 16 := by have := y0.toNat_lt; omega
  have sw : IntKind.u8.wrap (k : Int) = (k : Int) := by rw [IntKind.wrap_u8]; omega
  have k6 : ¬ (k : Int) = 6 := by omega
  go_enter Try.func23, Try.ntmps23
  go_upto_region 1 with fail
  rw [zpk]
  have a0 : Below w.heap.size w ((w.alloc (.cells (pkC pk0 none 0 0) 30 (0, 0))).alloc (.cells (faultC 0 0) 47 (0, 0))) := (by (repeat (first | exact Below.refl _ _ | assumption | refine Below.drew ?_ | refine bdrewN ?_ _ | refine Below.alloc ?_ (by first | omega | (simp <;> omega) | (simp only [World.size_alloc] <;> omega)) _ | refine below_setRow ?_ (by first | omega | (simp <;> omega)) _ | refine Below.setCell ?_ (by first | omega | (simp <;> omega)) _)))
  have kx : bk ((w.alloc (.cells (pkC pk0 none 0 0) 30 (0, 0))).alloc (.cells (faultC 0 0) 47 (0, 0))) w.heap.size = some (.cells (pkC pk0 none 0 0) 30 (0, 0)) := (bk_alloc_past _ _ _ (by simp)).trans (bk_alloc_at _ _ _ rfl)
  have ky : bk ((w.alloc (.cells (pkC pk0 none 0 0) 30 (0, 0))).alloc (.cells (faultC 0 0) 47 (0, 0))) (w.heap.size + 1) = some (.cells (faultC 0 0) 47 (0, 0)) := bk_alloc_at _ _ _ (by simp)
  have ls : ((w.alloc (.cells (pkC pk0 none 0 0) 30 (0, 0))).alloc (.cells (faultC 0 0) 47 (0, 0))).heap.size = w.heap.size + 2 := by simp
  change Code.wp _ _ _ _ ((w.alloc (.cells (pkC pk0 none 0 0) 30 (0, 0))).alloc (.cells (faultC 0 0) 47 (0, 0)))
  generalize (w.alloc (.cells (pkC pk0 none 0 0) 30 (0, 0))).alloc (.cells (faultC 0 0) 47 (0, 0)) = w1 at *
  have lx : w.heap.size < w1.heap.size := by omega
  have ly : w.heap.size + 1 < w1.heap.size := by omega
  rw [← a0.cell (p := ⟨bb, o, none⟩) hbn] at u0
  go_wp2_with fail
  have HQ := Lib.hid (two_rows a0 kx ky (pkC pk0 none 0 0) (faultC 0 0))
  refine ret_three (c1 := pkC pk0 none 0 0) (c2 := faultC 0 0) (ty1 := 30) (ty2 := 47) (f1 := (0, 0)) (f2 := (0, 0)) rfl rfl rfl rfl rfl (HQ.out).1 (HQ.out).2.1 Try.underlying30 Try.underlying47 rfl rfl (by rw [pkC_size]; kernel_rfl) (by kernel_rfl) ?_
  exact ⟨rfl, HQ.out.2.2⟩
theorem rget_cut (A : Option Addr) (b : List UInt8) (c : Nat) (w : World) (h : Rd w w.heap.size A b) (hl : 40 ≤ b.length) (h30 : b.length < 2 ^ 30) (hf : (at8 b 0).toNat / 16 = 6) (hcut : b.length < 40 + gsz b) : Calls Try.prog 23 #[.slice A b.length c] w (GetZ 5 w) := by
  have hR0 := h
  obtain ⟨bb, o, rfl, hbn, hcl⟩ := h (by omega)
  have u0 := hcl 0 (by omega)
  obtain ⟨y0, hy0⟩ : ∃ y, y = at8 b 0 := ⟨_, rfl⟩
  rw [show b[0]'(by omega) = y0 by rw [hy0]; unfold at8; rw [List.getD_eq_getElem?_getD, List.getElem?_eq_getElem]; rfl] at u0
  simp only [Nat.add_zero] at u0
  have d1 : decide ((b.length : Int) < 40) = false := by simp; omega
  have d2 : decide (b.length < 40) = false := by simp; omega
  have h0i : (0 : Int) < (b.length : Int) := by omega
  have h0n : 0 < b.length := by omega
  obtain ⟨k, hk⟩ : ∃ k, k = y0.toNat / 16 := ⟨_, rfl⟩
  have sh : (y0.toNat : Int) / 16 = (k : Int) := by omega
  rw [← hy0, ← hk] at hf
  have HH := Lib.hid h
  clear h hcl hy0 hk
  have sh' : (y0.toNat : Int).tdiv 16 = (k : Int) := by rw [Int.tdiv_eq_ediv_of_nonneg (by omega)]; exact sh
  have hk8 : k < 16 := by have := y0.toNat_lt; omega
  have sw : IntKind.u8.wrap (k : Int) = (k : Int) := by rw [IntKind.wrap_u8]; omega
  have k6 : (k : Int) = 6 := by omega
  obtain ⟨z, hz⟩ : ∃ z, z = gsz b := ⟨_, rfl⟩
  obtain ⟨x4, hx4⟩ : ∃ z, z = at8 b 4 := ⟨_, rfl⟩
  obtain ⟨x5, hx5⟩ : ∃ z, z = at8 b 5 := ⟨_, rfl⟩
  obtain ⟨n6, hn6⟩ : ∃ z, z = at8 b 6 := ⟨_, rfl⟩
  obtain ⟨n7, hn7⟩ : ∃ z, z = at8 b 7 := ⟨_, rfl⟩
  obtain ⟨_, _, e0', _, hcl⟩ := hR0 (by omega)
  cases e0'
  have e8 : ∀ j (h : j < b.length), b[j] = at8 b j := fun j h => by unfold at8; rw [List.getD_eq_getElem?_getD, List.getElem?_eq_getElem h]; rfl
  have u4 := hcl 4 (by omega); have u5 := hcl 5 (by omega); have u6 := hcl 6 (by omega); have u7 := hcl 7 (by omega)
  rw [e8, ← hx4] at u4
  rw [e8, ← hx5] at u5
  rw [e8, ← hn6] at u6
  rw [e8, ← hn7] at u7
  have b4 := x4.toNat_lt; have b5 := x5.toNat_lt
  have hz2 : z = 256 * x4.toNat + x5.toNat := by rw [hz, hx4, hx5]; rfl
  have f1 : IntKind.i64.wrap (x4.toNat : Int) = (x4.toNat : Int) := by rw [IntKind.wrap_i64]; omega
  have f2 : IntKind.i64.wrap (x5.toNat : Int) = (x5.toNat : Int) := by rw [IntKind.wrap_i64]; omega
  have f3 : IntKind.i64.wrap (256 * (x4.toNat : Int)) = 256 * (x4.toNat : Int) := by rw [IntKind.wrap_i64]; omega
  have f4 : IntKind.i64.wrap (256 * (x4.toNat : Int) + (x5.toNat : Int)) = (z : Int) := by rw [IntKind.wrap_i64]; omega
  have f4' : 256 * (x4.toNat : Int) + (x5.toNat : Int) = (z : Int) := by omega
  have hz16 : z < 65536 := by omega
  obtain ⟨q40, hq40⟩ : ∃ q, q = 40 + z := ⟨_, rfl⟩
  have f5 : IntKind.i64.wrap (40 + (z : Int)) = (q40 : Int) := by rw [IntKind.wrap_i64]; omega
  have f5' : 40 + (z : Int) = (q40 : Int) := by omega
  have HZ := Lib.hid (And.intro hz (And.intro hn6 hn7))
  rw [← hz, ← hq40] at hcut
  have HQ4 := Lib.hid hq40
  have n4 : (4 : Int) < (b.length : Int) := by omega
  have n5 : (5 : Int) < (b.length : Int) := by omega
  have n6i : (6 : Int) < (b.length : Int) := by omega
  have n7i : (7 : Int) < (b.length : Int) := by omega
  clear hcl hz hn6 hn7 e8 hz2 hx4 hx5 hq40 hf
  go_enter Try.func23, Try.ntmps23
  go_upto_region 1 with fail
  rw [zpk]
  have a0 : Below w.heap.size w ((w.alloc (.cells (pkC pk0 none 0 0) 30 (0, 0))).alloc (.cells (faultC 0 0) 47 (0, 0))) := (by (repeat (first | exact Below.refl _ _ | assumption | refine Below.drew ?_ | refine bdrewN ?_ _ | refine Below.alloc ?_ (by first | omega | (simp <;> omega) | (simp only [World.size_alloc] <;> omega)) _ | refine below_setRow ?_ (by first | omega | (simp <;> omega)) _ | refine Below.setCell ?_ (by first | omega | (simp <;> omega)) _)))
  have kx : bk ((w.alloc (.cells (pkC pk0 none 0 0) 30 (0, 0))).alloc (.cells (faultC 0 0) 47 (0, 0))) w.heap.size = some (.cells (pkC pk0 none 0 0) 30 (0, 0)) := (bk_alloc_past _ _ _ (by simp)).trans (bk_alloc_at _ _ _ rfl)
  have ky : bk ((w.alloc (.cells (pkC pk0 none 0 0) 30 (0, 0))).alloc (.cells (faultC 0 0) 47 (0, 0))) (w.heap.size + 1) = some (.cells (faultC 0 0) 47 (0, 0)) := bk_alloc_at _ _ _ (by simp)
  have ls : ((w.alloc (.cells (pkC pk0 none 0 0) 30 (0, 0))).alloc (.cells (faultC 0 0) 47 (0, 0))).heap.size = w.heap.size + 2 := by simp
  change Code.wp _ _ _ _ ((w.alloc (.cells (pkC pk0 none 0 0) 30 (0, 0))).alloc (.cells (faultC 0 0) 47 (0, 0)))
  generalize (w.alloc (.cells (pkC pk0 none 0 0) 30 (0, 0))).alloc (.cells (faultC 0 0) 47 (0, 0)) = w1 at *
  have lx : w.heap.size < w1.heap.size := by omega
  have ly : w.heap.size + 1 < w1.heap.size := by omega
  rw [← a0.cell (p := ⟨bb, o, none⟩) hbn] at u0
  rw [← a0.cell (p := ⟨bb, o + 4, none⟩) hbn] at u4
  rw [← a0.cell (p := ⟨bb, o + 5, none⟩) hbn] at u5
  have hbn1 : bb < w1.heap.size := by omega
  have HKK := Lib.hid (And.intro kx ky)
  go_upto_region 5 with fail
  clear kx ky
  refine wp_region_later (w1.heap.size) (by kernel_rfl) (by kernel_rfl) ?_
  repeat (go_big_quiet_step ((fail)))
  (first | refine wpQuiet_nil ?_ | (go_big_quiet_want; (try go_big_quiet_op); trace_state; fail))
  intro w2 hw'
  have q2 := later_elim hw'
  clear hw'
  have A2 := a0.trans (q2.mono a0.size)
  have kx := bk_keep q2 lx HKK.out.1
  have ky := bk_keep q2 ly HKK.out.2
  replace lx := Nat.lt_of_lt_of_le lx q2.size
  replace ly := Nat.lt_of_lt_of_le ly q2.size
  have u6 := (A2.cell (p := ⟨bb, o + 6, none⟩) hbn).trans u6
  have u7 := (A2.cell (p := ⟨bb, o + 7, none⟩) hbn).trans u7
  clear HKK u0 u4 u5 sh sh' sw f1 f2 f3 f4 f4' q2 a0 hbn1 ls b4 b5 k6
  have e1 : decide ((b.length : Int) < (q40 : Int)) = true := by simp; omega
  have e2 : decide (b.length < q40) = true := by simp; omega
  go_wp2_with fail
  have HQ := Lib.hid (two_rows A2 kx ky (pkC pk0 none 0 0) (faultC 0 0))
  refine ret_three (c1 := pkC pk0 none 0 0) (c2 := faultC 0 0) (ty1 := 30) (ty2 := 47) (f1 := (0, 0)) (f2 := (0, 0)) rfl rfl rfl rfl rfl (HQ.out).1 (HQ.out).2.1 Try.underlying30 Try.underlying47 rfl rfl (by rw [pkC_size]; kernel_rfl) (by kernel_rfl) ?_
  exact ⟨rfl, HQ.out.2.2⟩
theorem rget_good (A : Option Addr) (b : List UInt8) (c : Nat) (w : World) (h : Rd w w.heap.size A b) (hc : b.length ≤ c) (hl : 40 ≤ b.length) (h30 : b.length < 2 ^ 30) (hf : (at8 b 0).toNat / 16 = 6) (hcut : 40 + gsz b ≤ b.length) : Calls Try.prog 23 #[.slice A b.length c] w fun e w' => ∃ A' c', e = .returned (.tuple #[.agg (pkC (gP b) A' (gT b).rest.length c'), .agg (faultC (gT b).code (gT b).fat), .int .i64 ((gT b).e : Int)]) ∧ Gots (gT b).rest w.heap.size A' w' ∧ Below w.heap.size w w' := by
  have hT : gT b = gR b := by unfold gT; rw [if_neg (by omega), if_neg (by omega), if_neg (by omega)]
  have HT := Lib.hid hT
  clear hT
  have hR0 := h
  obtain ⟨bb, o, rfl, hbn, hcl⟩ := h (by omega)
  have u0 := hcl 0 (by omega)
  obtain ⟨y0, hy0⟩ : ∃ y, y = at8 b 0 := ⟨_, rfl⟩
  rw [show b[0]'(by omega) = y0 by rw [hy0]; unfold at8; rw [List.getD_eq_getElem?_getD, List.getElem?_eq_getElem]; rfl] at u0
  simp only [Nat.add_zero] at u0
  have d1 : decide ((b.length : Int) < 40) = false := by simp; omega
  have d2 : decide (b.length < 40) = false := by simp; omega
  have h0i : (0 : Int) < (b.length : Int) := by omega
  have h0n : 0 < b.length := by omega
  obtain ⟨k, hk⟩ : ∃ k, k = y0.toNat / 16 := ⟨_, rfl⟩
  have sh : (y0.toNat : Int) / 16 = (k : Int) := by omega
  rw [← hy0, ← hk] at hf
  have HH := Lib.hid h
  clear h hcl hy0 hk
  have sh' : (y0.toNat : Int).tdiv 16 = (k : Int) := by rw [Int.tdiv_eq_ediv_of_nonneg (by omega)]; exact sh
  have hk8 : k < 16 := by have := y0.toNat_lt; omega
  have sw : IntKind.u8.wrap (k : Int) = (k : Int) := by rw [IntKind.wrap_u8]; omega
  have k6 : (k : Int) = 6 := by omega
  obtain ⟨z, hz⟩ : ∃ z, z = gsz b := ⟨_, rfl⟩
  obtain ⟨x4, hx4⟩ : ∃ z, z = at8 b 4 := ⟨_, rfl⟩
  obtain ⟨x5, hx5⟩ : ∃ z, z = at8 b 5 := ⟨_, rfl⟩
  obtain ⟨n6, hn6⟩ : ∃ z, z = at8 b 6 := ⟨_, rfl⟩
  obtain ⟨n7, hn7⟩ : ∃ z, z = at8 b 7 := ⟨_, rfl⟩
  obtain ⟨_, _, e0', _, hcl⟩ := hR0 (by omega)
  cases e0'
  have e8 : ∀ j (h : j < b.length), b[j] = at8 b j := fun j h => by unfold at8; rw [List.getD_eq_getElem?_getD, List.getElem?_eq_getElem h]; rfl
  have u4 := hcl 4 (by omega); have u5 := hcl 5 (by omega); have u6 := hcl 6 (by omega); have u7 := hcl 7 (by omega)
  rw [e8, ← hx4] at u4
  rw [e8, ← hx5] at u5
  rw [e8, ← hn6] at u6
  rw [e8, ← hn7] at u7
  have b4 := x4.toNat_lt; have b5 := x5.toNat_lt
  have hz2 : z = 256 * x4.toNat + x5.toNat := by rw [hz, hx4, hx5]; rfl
  have f1 : IntKind.i64.wrap (x4.toNat : Int) = (x4.toNat : Int) := by rw [IntKind.wrap_i64]; omega
  have f2 : IntKind.i64.wrap (x5.toNat : Int) = (x5.toNat : Int) := by rw [IntKind.wrap_i64]; omega
  have f3 : IntKind.i64.wrap (256 * (x4.toNat : Int)) = 256 * (x4.toNat : Int) := by rw [IntKind.wrap_i64]; omega
  have f4 : IntKind.i64.wrap (256 * (x4.toNat : Int) + (x5.toNat : Int)) = (z : Int) := by rw [IntKind.wrap_i64]; omega
  have f4' : 256 * (x4.toNat : Int) + (x5.toNat : Int) = (z : Int) := by omega
  have hz16 : z < 65536 := by omega
  obtain ⟨q40, hq40⟩ : ∃ q, q = 40 + z := ⟨_, rfl⟩
  have f5 : IntKind.i64.wrap (40 + (z : Int)) = (q40 : Int) := by rw [IntKind.wrap_i64]; omega
  have f5' : 40 + (z : Int) = (q40 : Int) := by omega
  have HZ := Lib.hid (And.intro hz (And.intro hn6 hn7))
  rw [← hz, ← hq40] at hcut
  have HQ4 := Lib.hid hq40
  have n4 : (4 : Int) < (b.length : Int) := by omega
  have n5 : (5 : Int) < (b.length : Int) := by omega
  have n6i : (6 : Int) < (b.length : Int) := by omega
  have n7i : (7 : Int) < (b.length : Int) := by omega
  clear hcl hz hn6 hn7 e8 hz2 hx4 hx5 hq40 hf
  go_enter Try.func23, Try.ntmps23
  go_upto_region 1 with fail
  rw [zpk]
  have a0 : Below w.heap.size w ((w.alloc (.cells (pkC pk0 none 0 0) 30 (0, 0))).alloc (.cells (faultC 0 0) 47 (0, 0))) := (by (repeat (first | exact Below.refl _ _ | assumption | refine Below.drew ?_ | refine bdrewN ?_ _ | refine Below.alloc ?_ (by first | omega | (simp <;> omega) | (simp only [World.size_alloc] <;> omega)) _ | refine below_setRow ?_ (by first | omega | (simp <;> omega)) _ | refine Below.setCell ?_ (by first | omega | (simp <;> omega)) _)))
  have kx : bk ((w.alloc (.cells (pkC pk0 none 0 0) 30 (0, 0))).alloc (.cells (faultC 0 0) 47 (0, 0))) w.heap.size = some (.cells (pkC pk0 none 0 0) 30 (0, 0)) := (bk_alloc_past _ _ _ (by simp)).trans (bk_alloc_at _ _ _ rfl)
  have ky : bk ((w.alloc (.cells (pkC pk0 none 0 0) 30 (0, 0))).alloc (.cells (faultC 0 0) 47 (0, 0))) (w.heap.size + 1) = some (.cells (faultC 0 0) 47 (0, 0)) := bk_alloc_at _ _ _ (by simp)
  have ls : ((w.alloc (.cells (pkC pk0 none 0 0) 30 (0, 0))).alloc (.cells (faultC 0 0) 47 (0, 0))).heap.size = w.heap.size + 2 := by simp
  change Code.wp _ _ _ _ ((w.alloc (.cells (pkC pk0 none 0 0) 30 (0, 0))).alloc (.cells (faultC 0 0) 47 (0, 0)))
  generalize (w.alloc (.cells (pkC pk0 none 0 0) 30 (0, 0))).alloc (.cells (faultC 0 0) 47 (0, 0)) = w1 at *
  have lx : w.heap.size < w1.heap.size := by omega
  have ly : w.heap.size + 1 < w1.heap.size := by omega
  rw [← a0.cell (p := ⟨bb, o, none⟩) hbn] at u0
  rw [← a0.cell (p := ⟨bb, o + 4, none⟩) hbn] at u4
  rw [← a0.cell (p := ⟨bb, o + 5, none⟩) hbn] at u5
  have hbn1 : bb < w1.heap.size := by omega
  have HKK := Lib.hid (And.intro kx ky)
  go_upto_region 5 with fail
  clear kx ky
  refine wp_region_later (w1.heap.size) (by kernel_rfl) (by kernel_rfl) ?_
  repeat (go_big_quiet_step ((fail)))
  (first | refine wpQuiet_nil ?_ | (go_big_quiet_want; (try go_big_quiet_op); trace_state; fail))
  intro w2 hw'
  have q2 := later_elim hw'
  clear hw'
  have A2 := a0.trans (q2.mono a0.size)
  have kx := bk_keep q2 lx HKK.out.1
  have ky := bk_keep q2 ly HKK.out.2
  replace lx := Nat.lt_of_lt_of_le lx q2.size
  replace ly := Nat.lt_of_lt_of_le ly q2.size
  have u6 := (A2.cell (p := ⟨bb, o + 6, none⟩) hbn).trans u6
  have u7 := (A2.cell (p := ⟨bb, o + 7, none⟩) hbn).trans u7
  clear HKK u0 u4 u5 sh sh' sw f1 f2 f3 f4 f4' q2 a0 hbn1 ls b4 b5 k6
  have e1 : decide ((b.length : Int) < (q40 : Int)) = false := by simp; omega
  have e2 : decide (b.length < q40) = false := by simp; omega
  go_upto_region 9 with fail
  have a3 : Below w2.heap.size w2 (w2.alloc (.cells (pkC { pk0 with hops := n7 } none 0 0) 30 (0, 0))) := (by (repeat (first | exact Below.refl _ _ | assumption | refine Below.drew ?_ | refine bdrewN ?_ _ | refine Below.alloc ?_ (by first | omega | (simp <;> omega) | (simp only [World.size_alloc] <;> omega)) _ | refine below_setRow ?_ (by first | omega | (simp <;> omega)) _ | refine Below.setCell ?_ (by first | omega | (simp <;> omega)) _)))
  have kp := bk_alloc_at w2 (.cells (pkC { pk0 with hops := n7 } none 0 0) 30 (0, 0)) w2.heap.size rfl
  have A3 := A2.trans (a3.mono A2.size)
  have kx3 := bk_keep a3 lx kx
  have ky3 := bk_keep a3 ly ky
  have U6 := (a3.cell (p := ⟨bb, o + 6, none⟩) (Nat.lt_of_lt_of_le hbn A2.size)).trans u6
  obtain ⟨px, hpx⟩ : ∃ x, x = w2.heap.size := ⟨_, rfl⟩
  have hpy : w.heap.size + 1 < px := by omega
  change Code.wp _ _ _ _ (w2.alloc (.cells (pkC { pk0 with hops := n7 } none 0 0) 30 (0, 0)))
  rw [← hpx] at kp ⊢
  have hpl : px < (w2.alloc (.cells (pkC { pk0 with hops := n7 } none 0 0) 30 (0, 0))).heap.size := by simp [hpx]
  clear kx ky lx ly u6 u7 a3 A2 hpx
  generalize w2.alloc (.cells (pkC { pk0 with hops := n7 } none 0 0) 30 (0, 0)) = w3 at *
  have p8 := p16_len (b.drop 8)
  have p24 := p16_len (b.drop 24)
  obtain ⟨sr, hsr⟩ : ∃ s, s = p16 (b.drop 8) := ⟨_, rfl⟩
  obtain ⟨ds, hds⟩ : ∃ s, s = p16 (b.drop 24) := ⟨_, rfl⟩
  rw [← hsr] at p8
  rw [← hds] at p24
  have HSD := Lib.hid (And.intro hsr hds)
  clear hsr hds
  have kp3 := kp
  have U63 := U6
  clear kp U6 hpl
  refine wp_region_later_tail (w3.heap.size) 4 (by kernel_rfl) (by kernel_rfl) ?_
  simp only [List.take_succ_cons, List.take_zero, List.drop_succ_cons, List.drop_zero]
  repeat (go_big_quiet_step ((fail)))
  (first | refine wpQuiet_nil ?_ | (go_big_quiet_want; (try go_big_quiet_op); trace_state; fail))
  intro w4 hw'
  have q4 := later_elim hw'
  clear hw'
  have A4 := A3.trans (q4.mono A3.size)
  have kp4 := bk_keep q4 (bk_lt kp3) kp3
  have kx4 := bk_keep q4 (bk_lt kx3) kx3
  have ky4 := bk_keep q4 (bk_lt ky3) ky3
  have U64 := (q4.cell (p := ⟨bb, o + 6, none⟩) (Nat.lt_of_lt_of_le hbn A3.size)).trans U63
  obtain ⟨cc, tt, fr, kb, hsz, hxt⟩ := (HH.out.below A4 (Nat.le_refl _)).obj (by omega)
  have xs := hxt 8 16 (by omega)
  rw [← p16_eq (by rw [List.length_drop]; omega), ← HSD.out.1] at xs
  have hs1 : o + 8 + 16 ≤ cc.size := by omega
  have hs2 : o + 24 ≤ cc.size := by omega
  have hbp : ¬ bb = px := by omega
  clear q4 hxt kx3 ky3 kp3 A3 U63
  have lkp := bk_lt kp4
  go_upto_region 10 with fail
  change Code.wp _ _ _ _ (w4.setRow px (pkC { pk0 with hops := n7, src := sr, hs := p8 } none 0 0))
  have A5 := below_setRow A4 (show w.heap.size ≤ px by omega) (pkC { pk0 with hops := n7, src := sr, hs := p8 } none 0 0)
  have kp5 : bk (w4.setRow px (pkC { pk0 with hops := n7, src := sr, hs := p8 } none 0 0)) px = some (.cells (pkC { pk0 with hops := n7, src := sr, hs := p8 } none 0 0) 30 (0, 0)) := by rw [bk_setRow_same, kp4]; rfl
  have kx5 := (bk_setRow_other w4 px w.heap.size (pkC { pk0 with hops := n7, src := sr, hs := p8 } none 0 0) (by omega)).trans kx4
  have ky5 := (bk_setRow_other w4 px (w.heap.size + 1) (pkC { pk0 with hops := n7, src := sr, hs := p8 } none 0 0) (by omega)).trans ky4
  have U65 := (cell_of_bk (bk_setRow_other w4 px bb (pkC { pk0 with hops := n7, src := sr, hs := p8 } none 0 0) hbp) (o + 6)).trans U64
  clear kb hsz xs hs1 hs2 kp4 kx4 ky4 U64 A4 lkp
  generalize w4.setRow px (pkC { pk0 with hops := n7, src := sr, hs := p8 } none 0 0) = w5 at *
  refine wp_region_later_tail (w5.heap.size) 4 (by kernel_rfl) (by kernel_rfl) ?_
  simp only [List.take_succ_cons, List.take_zero, List.drop_succ_cons, List.drop_zero]
  repeat (go_big_quiet_step ((fail)))
  (first | refine wpQuiet_nil ?_ | (go_big_quiet_want; (try go_big_quiet_op); trace_state; fail))
  intro w6 hw'
  have q6 := later_elim hw'
  clear hw'
  have A6 := A5.trans (q6.mono A5.size)
  have kp6 := bk_keep q6 (bk_lt kp5) kp5
  have kx6 := bk_keep q6 (bk_lt kx5) kx5
  have ky6 := bk_keep q6 (bk_lt ky5) ky5
  have U66 := (q6.cell (p := ⟨bb, o + 6, none⟩) (Nat.lt_of_lt_of_le hbn A5.size)).trans U65
  obtain ⟨cc, tt, fr, kb, hsz, hxt⟩ := (HH.out.below A6 (Nat.le_refl _)).obj (by omega)
  have xs := hxt 24 16 (by omega)
  rw [← p16_eq (by rw [List.length_drop]; omega), ← HSD.out.2] at xs
  have hs1 : o + 24 + 16 ≤ cc.size := by omega
  have hs2 : o + 40 ≤ cc.size := by omega
  have hbp : ¬ bb = px := by omega
  clear q6 hxt kx5 ky5 kp5 A5 U65
  have lkp := bk_lt kp6
  go_upto_region 11 with fail
  change Code.wp _ _ _ _ (w6.setRow px (pkC { pk0 with hops := n7, src := sr, hs := p8, dst := ds, hd := p24 } none 0 0))
  have A7 := below_setRow A6 (show w.heap.size ≤ px by omega) (pkC { pk0 with hops := n7, src := sr, hs := p8, dst := ds, hd := p24 } none 0 0)
  have kp7 : bk (w6.setRow px (pkC { pk0 with hops := n7, src := sr, hs := p8, dst := ds, hd := p24 } none 0 0)) px = some (.cells (pkC { pk0 with hops := n7, src := sr, hs := p8, dst := ds, hd := p24 } none 0 0) 30 (0, 0)) := by rw [bk_setRow_same, kp6]; rfl
  have kx7 := (bk_setRow_other w6 px w.heap.size (pkC { pk0 with hops := n7, src := sr, hs := p8, dst := ds, hd := p24 } none 0 0) (by omega)).trans kx6
  have ky7 := (bk_setRow_other w6 px (w.heap.size + 1) (pkC { pk0 with hops := n7, src := sr, hs := p8, dst := ds, hd := p24 } none 0 0) (by omega)).trans ky6
  have U67 := (cell_of_bk (bk_setRow_other w6 px bb (pkC { pk0 with hops := n7, src := sr, hs := p8, dst := ds, hd := p24 } none 0 0) hbp) (o + 6)).trans U66
  clear kb hsz xs hs1 hs2 kp6 kx6 ky6 U66 A6 lkp
  generalize w6.setRow px (pkC { pk0 with hops := n7, src := sr, hs := p8, dst := ds, hd := p24 } none 0 0) = w7 at *
  obtain ⟨T, hTT⟩ : ∃ T, T = (b.drop 40).take z := ⟨_, rfl⟩
  have hzq : q40 = 40 + z := HQ4.out
  have hTl : T.length = z := by rw [hTT, List.length_take, List.length_drop]; omega
  obtain ⟨R, hR⟩ : ∃ R, R = chain (isMul ds) n6 T 40 6 true false := ⟨_, rfl⟩
  have HR : Hid (R = gR b) := Lib.hid (by rw [hR, HSD.out.2, HZ.out.2.1, hTT, HZ.out.1]; rfl)
  have HRC : Hid (chain (isMul ds) n6 T 40 (if 40 = 40 then 6 else 40 - 8) (40 == 40) false = R) := Lib.hid hR.symm
  have hsh : Shape R := by rw [hR]; exact chain_shape ..
  have hbd := shape_bound hsh
  have HSH := Lib.hid hsh
  have rd7 : Rd w7 w7.heap.size (some ⟨bb, o, none⟩) b := (HH.out.below A7 (Nat.le_refl _)).mono A7.size
  have HRD := Lib.hid rd7; have HTT := Lib.hid (And.intro hTT hTl)
  have hqz : q40 - 40 = z := by omega
  have i1 : (40 : Int) ≤ (q40 : Int) := by omega
  have i2 : (q40 : Int) ≤ (c : Int) := by omega
  have i3 : 40 ≤ q40 := by omega
  have i4 : q40 ≤ c := by omega
  have hzc : z ≤ c - 40 := by omega
  clear hR hsh rd7 hTT hTl hzq f5'
  by_cases hcs : c - 40 = 0
  · have hcz : True := trivial
    have HRT : Hid (Rd w7 w7.heap.size (some ⟨bb, o, none⟩) T) := Lib.hid (by
      rw [HTT.out.1]
      first
        | exact (HRD.out.drop (by omega)).take
        | (rw [List.drop_of_length_le (by omega), List.take_nil]; exact Rd.nil))
    obtain ⟨m, hm⟩ : ∃ m, m = w7.heap.size := ⟨_, rfl⟩
    have lpm : px < m := by rw [hm]; exact bk_lt kp7
    have lbm : bb < m := by rw [hm]; exact Nat.lt_of_lt_of_le hbn A7.size
    obtain ⟨M10, hM10⟩ : ∃ M : Made m, M = Made.td m R := ⟨_, rfl⟩
    obtain ⟨M11, hM11⟩ : ∃ M : Made m, M = Made.row m (fun b => .pointer (some ⟨b, 0, none⟩)) (.cells (tdC (tlA false) nilV) 51 (0, 0)) := ⟨_, rfl⟩
    have H10 := Lib.hid hM10; have H11 := Lib.hid hM11
    clear hM10 hM11
    refine wp_region_made_tail m 12 (fun j => ([(9, Made.val (.bool (isMul ds))), (10, M10), (11, M11)] : List (Nat × Made m)).lookup j) (Nat.le_of_eq hm) (by kernel_rfl) (by kernel_rfl) ?_
    simp only [List.take_succ_cons, List.take_zero, List.drop_succ_cons, List.drop_zero]
    refine walk_segn 9 ([]) facts0 (by kernel_rfl) (by kernel_rfl) ?_
    simp only [List.take_succ_cons, List.take_zero, List.drop_succ_cons, List.drop_zero, Nat.reduceAdd]
    repeat (go_big_quiet_step (fail))
    (first | refine wpQuiet_nil ?_ | (go_big_quiet_want; (try go_big_quiet_op); trace_state; fail))
    refine walk_val (.bool (isMul ds)) ([]) facts0 (by kernel_rfl) (by kernel_rfl) (by kernel_rfl) (fun w' hb' hg' => ?_) ?_
    · unfold madeAt
      go_simp
      ((refine (rIsMul_any ds p24 w').mono ?_; rintro e w2 ⟨rfl, hb⟩; exact val_end hb))
    simp only [Act.put, List.setIfInBounds_toArray, List.set_cons_succ, List.set_cons_zero, Nat.reduceAdd]
    refine walk_mkop M10 [] facts0 (by kernel_rfl) (by kernel_rfl) (by kernel_rfl) (fun w' hb' hg' => ?_) (fun v hT hAt => ?_)
    · unfold madeAt
      go_simp
      have hbw : Below w7.heap.size w7 w' := by rw [← hm]; exact hb'
      have C := chain9_any n6 (some ⟨bb, o, none⟩) T (0) 40 (isMul ds) w' ((HRT.out.below hbw (Nat.le_refl _)).mono hbw.size) (fun h => by cases h) (by rw [HTT.out.2]; omega) (by rw [HTT.out.2]; omega) (by omega)
      rw [HRC.out, HTT.out.2] at C
      refine C.mono ?_
      rintro e w9 ⟨A9, c9, rfl, hg9, b9⟩
      exact td_end H10 b9 (Gots.turn hg9 (by rw [hm]; exact hbw.size) (Nat.le_refl _) (fun _ _ => rfl))
    obtain ⟨A9, c9, rfl⟩ := td_T H10 hT
    clear hT hAt
    simp only [Act.put, List.setIfInBounds_toArray, List.set_cons_succ, List.set_cons_zero, Nat.reduceAdd]
    refine walk_mkop M11 ([]) facts0 (by kernel_rfl) (by kernel_rfl) (by kernel_rfl) (fun w' hb' hg' => ?_) (fun v _ hAt => ?_)
    · unfold madeAt
      go_simp
      ((exact row_box H11 (by have := hb'.size; omega)))
    obtain ⟨tb, hmtb, rfl, hntb, hitb, rb⟩ := made_at H11 (by intro b b' h; simpa using h) 11 hAt
    clear hAt
    simp only [Act.put, List.setIfInBounds_toArray, List.set_cons_succ, List.set_cons_zero, Nat.reduceAdd]
    refine walk_nil ?_
    intro w9 hb9 hf
    have G9 := td_R H10 ((hf 10).2.1 rfl)
    have kt9 := rb w9 ((hf 11).1 rfl)
    have hms := hb9.size
    have htm : m ≤ tb := hmtb
    rw [hm] at hb9
    have kp9 := bk_keep hb9 (bk_lt kp7) kp7
    have kx9 := bk_keep hb9 (bk_lt kx7) kx7
    have ky9 := bk_keep hb9 (bk_lt ky7) ky7
    have A9' := A7.trans (hb9.mono A7.size)
    clear hb9 hf rb kp7 kx7 ky7 A7 U67
    unfold toV
    have lt9 := bk_lt kt9
    go_upto_region 12 with fail
    have htp : tb ≠ px := by omega
    have ktA : bk (w9.setRow tb (tdC R (.slice A9 R.rest.length c9))) tb = some (.cells (tdC R (.slice A9 R.rest.length c9)) 51 (0, 0)) := by rw [bk_setRow_same, kt9]; rfl
    have kpA := (bk_setRow_other w9 tb px (tdC R (.slice A9 R.rest.length c9)) (by omega)).trans kp9
    have kxA := (bk_setRow_other w9 tb w.heap.size (tdC R (.slice A9 R.rest.length c9)) (by omega)).trans kx9
    have kyA := (bk_setRow_other w9 tb (w.heap.size + 1) (tdC R (.slice A9 R.rest.length c9)) (by omega)).trans ky9
    have AA := below_setRow A9' (show w.heap.size ≤ tb by omega) (tdC R (.slice A9 R.rest.length c9))
    have GA := Lib.hid (Gots.kept G9 (by decide) (Kept.setRow (c' := tdC R (.slice A9 R.rest.length c9)) kt9 htm (show 51 ∈ [51] by simp)))
    change Code.wp _ _ _ _ (w9.setRow tb (tdC R (.slice A9 R.rest.length c9)))
    clear kt9 kp9 kx9 ky9 A9' G9 lt9
    generalize w9.setRow tb (tdC R (.slice A9 R.rest.length c9)) = wA at *
    obtain ⟨last, rest, al, fi, fid, fo, fm, code, fat, er⟩ := R
    simp only at hbd GA
    have lpA := bk_lt kpA
    have f33 := bk_frozen kpA 33
    have c33 := (bk_cell kpA 33).trans (pkC_al _ _ _ _)
    have ct2 := bk_cell ktA 2
    simp [tdC] at ct2
    go_upto_region 13 with fail
    have kpB : bk (wA.setCell ⟨px, 33, none⟩ (.bool al)) px = some (.cells (pkC { pk0 with hops := n7, src := sr, hs := p8, dst := ds, hd := p24, al := al } none 0 0) 30 (0, 0)) := by
      rw [bk_setCell_same, kpA]
      show some (Obj.cells ((pkC { pk0 with hops := n7, src := sr, hs := p8, dst := ds, hd := p24 } none 0 0).setIfInBounds 33 (.bool al)) _ _) = _
      rw [pkC_set33]
    have ktB := (bk_setCell_other wA px 33 tb (.bool al) (by omega)).trans ktA
    have kxB := (bk_setCell_other wA px 33 w.heap.size (.bool al) (by omega)).trans kxA
    have kyB := (bk_setCell_other wA px 33 (w.heap.size + 1) (.bool al) (by omega)).trans kyA
    have AB := AA.setCell (p := ⟨px, 33, none⟩) (show w.heap.size ≤ px by omega) (.bool al)
    have GB := Lib.hid (Gots.turn GA.out (Nat.le_refl m) (w' := wA.setCell ⟨px, 33, none⟩ (.bool al)) (by simp [World.setCell]) (fun b hb => bk_setCell_other _ _ _ _ _ (by omega)))
    clear ktA kpA kxA kyA AA GA lpA f33 c33 ct2
    generalize wA.setCell ⟨px, 33, none⟩ (.bool al) = wB at *
    have lpB := bk_lt kpB; have ltB := bk_lt ktB; have lxB := bk_lt kxB; have lyB := bk_lt kyB
    have htx : ¬ tb = w.heap.size := by omega
    have hty : ¬ tb = w.heap.size + 1 := by omega
    have hpx : ¬ px = w.heap.size := by omega
    have hpy' : ¬ px = w.heap.size + 1 := by omega
    have ct0 := bk_cell ktB 0; have ct1 := bk_cell ktB 1; have ct9 := bk_cell ktB 9
    simp [tdC] at ct0 ct1 ct9
    rcases HSH.out with ⟨h1, h2, h3, _⟩ | ⟨co, pp, al', h1⟩ | ⟨ee, h1, h2, h3⟩
    · simp only at h1 h2 h3
      subst h1 h2 h3
      have s34 := fun (P : Pk) (A : Option Addr) (n c : Nat) => pkC_spl34 (p := P) (A := A) (n := n) (c := c) fi fid fo fm hbd.1 hbd.2
      go_upto_region 18 with fail
      change Code.wp _ _ _ _ (wB.setRow px (pkC { pk0 with hops := n7, src := sr, hs := p8, dst := ds, hd := p24, al := al, fi := fi, fid := fid, fo := fo, fm := fm, hid := hbd.1, ho := hbd.2 } none 0 0))
      have kpC : bk (wB.setRow px (pkC { pk0 with hops := n7, src := sr, hs := p8, dst := ds, hd := p24, al := al, fi := fi, fid := fid, fo := fo, fm := fm, hid := hbd.1, ho := hbd.2 } none 0 0)) px = some (.cells (pkC { pk0 with hops := n7, src := sr, hs := p8, dst := ds, hd := p24, al := al, fi := fi, fid := fid, fo := fo, fm := fm, hid := hbd.1, ho := hbd.2 } none 0 0) 30 (0, 0)) := by rw [bk_setRow_same, kpB]; rfl
      have ktC := (bk_setRow_other wB px tb (pkC { pk0 with hops := n7, src := sr, hs := p8, dst := ds, hd := p24, al := al, fi := fi, fid := fid, fo := fo, fm := fm, hid := hbd.1, ho := hbd.2 } none 0 0) htp).trans ktB
      have kxC := (bk_setRow_other wB px w.heap.size (pkC { pk0 with hops := n7, src := sr, hs := p8, dst := ds, hd := p24, al := al, fi := fi, fid := fid, fo := fo, fm := fm, hid := hbd.1, ho := hbd.2 } none 0 0) (by omega)).trans kxB
      have kyC := (bk_setRow_other wB px (w.heap.size + 1) (pkC { pk0 with hops := n7, src := sr, hs := p8, dst := ds, hd := p24, al := al, fi := fi, fid := fid, fo := fo, fm := fm, hid := hbd.1, ho := hbd.2 } none 0 0) (by omega)).trans kyB
      have AC := below_setRow AB (show w.heap.size ≤ px by omega) (pkC { pk0 with hops := n7, src := sr, hs := p8, dst := ds, hd := p24, al := al, fi := fi, fid := fid, fo := fo, fm := fm, hid := hbd.1, ho := hbd.2 } none 0 0)
      have GC := Lib.hid (Gots.turn GB.out (Nat.le_refl m) (w' := wB.setRow px (pkC { pk0 with hops := n7, src := sr, hs := p8, dst := ds, hd := p24, al := al, fi := fi, fid := fid, fo := fo, fm := fm, hid := hbd.1, ho := hbd.2 } none 0 0)) (by simp [World.setRow]) (fun b hb => bk_setRow_other _ _ _ _ (by omega)))
      clear ktB kpB kxB kyB AB GB lpB ltB lxB lyB ct0 ct1 ct9 s34
      generalize wB.setRow px (pkC { pk0 with hops := n7, src := sr, hs := p8, dst := ds, hd := p24, al := al, fi := fi, fid := fid, fo := fo, fm := fm, hid := hbd.1, ho := hbd.2 } none 0 0) = wC at *
      have lpC := bk_lt kpC; have ltC := bk_lt ktC; have lxC := bk_lt kxC; have lyC := bk_lt kyC
      have ct0 := bk_cell ktC 0; have ct1 := bk_cell ktC 1
      simp [tdC] at ct0 ct1
      have f38 := bk_frozen kpC 38; have f39 := bk_frozen kpC 39
      have c38 := (bk_cell kpC 38).trans (pkC_nx _ _ _ _); have c39 := (bk_cell kpC 39).trans (pkC_body _ _ _ _)
      go_upto_region 20 with fail
      have kpD : bk ((wC.setCell ⟨px, 38, none⟩ (.int .u8 (last.toNat : Int))).setCell ⟨px, 39, none⟩ (.slice A9 rest.length c9)) px = some (.cells (pkC { pk0 with hops := n7, src := sr, hs := p8, dst := ds, hd := p24, al := al, fi := fi, fid := fid, fo := fo, fm := fm, nx := last, hid := hbd.1, ho := hbd.2 } A9 rest.length c9) 30 (0, 0)) := by
        rw [bk_setCell_same, bk_setCell_same, kpC]
        show some (Obj.cells (((pkC { pk0 with hops := n7, src := sr, hs := p8, dst := ds, hd := p24, al := al, fi := fi, fid := fid, fo := fo, fm := fm, hid := hbd.1, ho := hbd.2 } none 0 0).setIfInBounds 38 (B last)).setIfInBounds 39 (.slice A9 rest.length c9)) _ _) = _
        rw [pkC_set38, pkC_set]
      have kxD := (bk_setCell_other (wC.setCell ⟨px, 38, none⟩ (.int .u8 (last.toNat : Int))) px 39 w.heap.size (.slice A9 rest.length c9) (by omega)).trans ((bk_setCell_other wC px 38 w.heap.size (.int .u8 (last.toNat : Int)) (by omega)).trans kxC)
      have kyD := (bk_setCell_other (wC.setCell ⟨px, 38, none⟩ (.int .u8 (last.toNat : Int))) px 39 (w.heap.size + 1) (.slice A9 rest.length c9) (by omega)).trans ((bk_setCell_other wC px 38 (w.heap.size + 1) (.int .u8 (last.toNat : Int)) (by omega)).trans kyC)
      have AD : Below w.heap.size w ((wC.setCell ⟨px, 38, none⟩ (.int .u8 (last.toNat : Int))).setCell ⟨px, 39, none⟩ (.slice A9 rest.length c9)) := (AC.setCell (p := ⟨px, 38, none⟩) (show w.heap.size ≤ px by omega) _).setCell (p := ⟨px, 39, none⟩) (show w.heap.size ≤ px by omega) _
      have GD := Lib.hid (Gots.turn GC.out (Nat.le_refl m) (w' := ((wC.setCell ⟨px, 38, none⟩ (.int .u8 (last.toNat : Int))).setCell ⟨px, 39, none⟩ (.slice A9 rest.length c9))) (by simp [World.setCell]) (fun b hb => by rw [bk_setCell_other _ _ _ _ _ (by omega), bk_setCell_other _ _ _ _ _ (by omega)]))
      clear ktC kpC kxC kyC AC GC lpC ltC lxC lyC ct0 ct1 f38 f39 c38 c39
      generalize ((wC.setCell ⟨px, 38, none⟩ (.int .u8 (last.toNat : Int))).setCell ⟨px, 39, none⟩ (.slice A9 rest.length c9)) = wD at *
      have lpD := bk_lt kpD; have lxD := bk_lt kxD; have lyD := bk_lt kyD
      go_wp2_with fail
      have HQ := Lib.hid (two_rows AD kxD kyD (pkC { pk0 with hops := n7, src := sr, hs := p8, dst := ds, hd := p24, al := al, fi := fi, fid := fid, fo := fo, fm := fm, nx := last, hid := hbd.1, ho := hbd.2 } A9 rest.length c9) (faultC 0 0))
      refine ret_three (c1 := pkC { pk0 with hops := n7, src := sr, hs := p8, dst := ds, hd := p24, al := al, fi := fi, fid := fid, fo := fo, fm := fm, nx := last, hid := hbd.1, ho := hbd.2 } A9 rest.length c9) (c2 := faultC 0 0) (ty1 := 30) (ty2 := 47) (f1 := (0, 0)) (f2 := (0, 0)) rfl rfl rfl rfl rfl (HQ.out).1 (HQ.out).2.1 Try.underlying30 Try.underlying47 rfl rfl (by rw [pkC_size]; kernel_rfl) (by kernel_rfl) ?_
      have hgP : gP b = { pk0 with hops := n7, src := sr, hs := p8, dst := ds, hd := p24, al := al, fi := fi, fid := fid, fo := fo, fm := fm, nx := last, hid := hbd.1, ho := hbd.2 } := by
        unfold gP
        rw [HT.out, ← HR.out, if_pos (.inl rfl)]
        exact pk_eq HSD.out.1.symm HSD.out.2.symm HZ.out.2.2.symm rfl rfl (Nat.mod_eq_of_lt hbd.1) (Nat.mod_eq_of_lt hbd.2) rfl rfl
      refine ⟨A9, ⟨c9, by rw [hgP, HT.out, ← HR.out]; rfl⟩, ?_, HQ.out.2.2⟩
      rw [HT.out, ← HR.out]
      exact Gots.turn GD.out (by omega) (by simp [World.setRow]) (fun b hb => by rw [bk_setRow_other _ _ _ _ (by omega), bk_setRow_other _ _ _ _ (by omega)])
    · unfold tlF at h1
      injection h1 with e1 e2 e3 e4 e5 e6 e7 e8 e9 e10
      subst e1 e2 e3 e4 e5 e6 e7 e8 e9 e10
      have cA : ∀ cs : Array Value, (wB.setRow w.heap.size cs).cell? ⟨tb, 9, none⟩ = some (.int .i64 7) := fun cs => (cell_of_bk (bk_setRow_other _ _ _ _ htx) 9).trans ct9
      have cB : ∀ cs ds : Array Value, ((wB.setRow w.heap.size cs).setRow (w.heap.size + 1) ds).cell? ⟨tb, 9, none⟩ = some (.int .i64 7) := fun cs ds => (cell_of_bk (bk_setRow_other _ _ _ _ hty) 9).trans (cA cs)
      go_upto_region 14 with fail
      go_region
      have HQ := Lib.hid (two_rows AB kxB kyB (pkC { pk0 with hops := n7, src := sr, hs := p8, dst := ds, hd := p24, al := al } none 0 0) (faultC code (min pp 4294967295)))
      go_wp2_with fail
      refine ret_three (c1 := pkC { pk0 with hops := n7, src := sr, hs := p8, dst := ds, hd := p24, al := al } none 0 0) (c2 := faultC code (min pp 4294967295)) (ty1 := 30) (ty2 := 47) (f1 := (0, 0)) (f2 := (0, 0)) rfl rfl rfl rfl rfl (HQ.out).1 (HQ.out).2.1 Try.underlying30 Try.underlying47 rfl rfl (by rw [pkC_size]; kernel_rfl) (by kernel_rfl) ?_
      have hgP : gP b = { pk0 with hops := n7, src := sr, hs := p8, dst := ds, hd := p24, al := al } := by
        unfold gP
        rw [HT.out, ← HR.out, if_pos (.inr rfl)]
        exact pk_eq HSD.out.1.symm HSD.out.2.symm HZ.out.2.2.symm rfl rfl rfl rfl rfl rfl
      exact ⟨none, ⟨0, by rw [hgP, HT.out, ← HR.out]; rfl⟩, by rw [HT.out, ← HR.out]; exact Gots.nil, HQ.out.2.2.drew⟩
    · unfold tlE at h1
      injection h1 with e1 e2 e3 e4 e5 e6 e7 e8 e9 e10
      subst e1 e2 e3 e4 e5 e6 e7 e8 e9 e10
      have hee0 : ¬ (er : Int) = 0 := by omega
      have hee7 : ¬ (er : Int) = 7 := by omega
      have cA : ∀ cs : Array Value, (wB.setRow w.heap.size cs).cell? ⟨tb, 9, none⟩ = some (.int .i64 (er : Int)) := fun cs => (cell_of_bk (bk_setRow_other _ _ _ _ htx) 9).trans ct9
      have cB : ∀ cs ds : Array Value, ((wB.setRow w.heap.size cs).setRow (w.heap.size + 1) ds).cell? ⟨tb, 9, none⟩ = some (.int .i64 (er : Int)) := fun cs ds => (cell_of_bk (bk_setRow_other _ _ _ _ hty) 9).trans (cA cs)
      go_upto_region 16 with fail
      go_region
      rw [zpkA]
      have HQ := Lib.hid (two_rows AB kxB kyB (pkC pk0 none 0 0) (faultC 0 0))
      go_wp2_with fail
      refine ret_three (c1 := pkC pk0 none 0 0) (c2 := faultC 0 0) (ty1 := 30) (ty2 := 47) (f1 := (0, 0)) (f2 := (0, 0)) rfl rfl rfl rfl rfl (HQ.out).1 (HQ.out).2.1 Try.underlying30 Try.underlying47 rfl rfl (by rw [pkC_size]; kernel_rfl) (by kernel_rfl) ?_
      refine ⟨none, ⟨0, ?_⟩, by rw [HT.out, ← HR.out]; exact Gots.nil, HQ.out.2.2.drew⟩
      unfold gP
      rw [HT.out, ← HR.out, if_neg (by simp [h2, h3])]
      rfl
  · have hcz : True := trivial
    have HRT : Hid (Rd w7 w7.heap.size (some ⟨bb, o + 40, none⟩) T) := Lib.hid (by
      rw [HTT.out.1]
      first
        | exact (HRD.out.drop (by omega)).take
        | (rw [List.drop_of_length_le (by omega), List.take_nil]; exact Rd.nil))
    obtain ⟨m, hm⟩ : ∃ m, m = w7.heap.size := ⟨_, rfl⟩
    have lpm : px < m := by rw [hm]; exact bk_lt kp7
    have lbm : bb < m := by rw [hm]; exact Nat.lt_of_lt_of_le hbn A7.size
    obtain ⟨M10, hM10⟩ : ∃ M : Made m, M = Made.td m R := ⟨_, rfl⟩
    obtain ⟨M11, hM11⟩ : ∃ M : Made m, M = Made.row m (fun b => .pointer (some ⟨b, 0, none⟩)) (.cells (tdC (tlA false) nilV) 51 (0, 0)) := ⟨_, rfl⟩
    have H10 := Lib.hid hM10; have H11 := Lib.hid hM11
    clear hM10 hM11
    refine wp_region_made_tail m 12 (fun j => ([(9, Made.val (.bool (isMul ds))), (10, M10), (11, M11)] : List (Nat × Made m)).lookup j) (Nat.le_of_eq hm) (by kernel_rfl) (by kernel_rfl) ?_
    simp only [List.take_succ_cons, List.take_zero, List.drop_succ_cons, List.drop_zero]
    refine walk_segn 9 ([]) facts0 (by kernel_rfl) (by kernel_rfl) ?_
    simp only [List.take_succ_cons, List.take_zero, List.drop_succ_cons, List.drop_zero, Nat.reduceAdd]
    repeat (go_big_quiet_step (fail))
    (first | refine wpQuiet_nil ?_ | (go_big_quiet_want; (try go_big_quiet_op); trace_state; fail))
    refine walk_val (.bool (isMul ds)) ([]) facts0 (by kernel_rfl) (by kernel_rfl) (by kernel_rfl) (fun w' hb' hg' => ?_) ?_
    · unfold madeAt
      go_simp
      ((refine (rIsMul_any ds p24 w').mono ?_; rintro e w2 ⟨rfl, hb⟩; exact val_end hb))
    simp only [Act.put, List.setIfInBounds_toArray, List.set_cons_succ, List.set_cons_zero, Nat.reduceAdd]
    refine walk_mkop M10 [] facts0 (by kernel_rfl) (by kernel_rfl) (by kernel_rfl) (fun w' hb' hg' => ?_) (fun v hT hAt => ?_)
    · unfold madeAt
      go_simp
      have hbw : Below w7.heap.size w7 w' := by rw [← hm]; exact hb'
      have C := chain9_any n6 (some ⟨bb, o + 40, none⟩) T (c - 40) 40 (isMul ds) w' ((HRT.out.below hbw (Nat.le_refl _)).mono hbw.size) (fun h => by cases h) (by rw [HTT.out.2]; omega) (by rw [HTT.out.2]; omega) (by omega)
      rw [HRC.out, HTT.out.2] at C
      refine C.mono ?_
      rintro e w9 ⟨A9, c9, rfl, hg9, b9⟩
      exact td_end H10 b9 (Gots.turn hg9 (by rw [hm]; exact hbw.size) (Nat.le_refl _) (fun _ _ => rfl))
    obtain ⟨A9, c9, rfl⟩ := td_T H10 hT
    clear hT hAt
    simp only [Act.put, List.setIfInBounds_toArray, List.set_cons_succ, List.set_cons_zero, Nat.reduceAdd]
    refine walk_mkop M11 ([]) facts0 (by kernel_rfl) (by kernel_rfl) (by kernel_rfl) (fun w' hb' hg' => ?_) (fun v _ hAt => ?_)
    · unfold madeAt
      go_simp
      ((exact row_box H11 (by have := hb'.size; omega)))
    obtain ⟨tb, hmtb, rfl, hntb, hitb, rb⟩ := made_at H11 (by intro b b' h; simpa using h) 11 hAt
    clear hAt
    simp only [Act.put, List.setIfInBounds_toArray, List.set_cons_succ, List.set_cons_zero, Nat.reduceAdd]
    refine walk_nil ?_
    intro w9 hb9 hf
    have G9 := td_R H10 ((hf 10).2.1 rfl)
    have kt9 := rb w9 ((hf 11).1 rfl)
    have hms := hb9.size
    have htm : m ≤ tb := hmtb
    rw [hm] at hb9
    have kp9 := bk_keep hb9 (bk_lt kp7) kp7
    have kx9 := bk_keep hb9 (bk_lt kx7) kx7
    have ky9 := bk_keep hb9 (bk_lt ky7) ky7
    have A9' := A7.trans (hb9.mono A7.size)
    clear hb9 hf rb kp7 kx7 ky7 A7 U67
    unfold toV
    have lt9 := bk_lt kt9
    go_upto_region 12 with fail
    have htp : tb ≠ px := by omega
    have ktA : bk (w9.setRow tb (tdC R (.slice A9 R.rest.length c9))) tb = some (.cells (tdC R (.slice A9 R.rest.length c9)) 51 (0, 0)) := by rw [bk_setRow_same, kt9]; rfl
    have kpA := (bk_setRow_other w9 tb px (tdC R (.slice A9 R.rest.length c9)) (by omega)).trans kp9
    have kxA := (bk_setRow_other w9 tb w.heap.size (tdC R (.slice A9 R.rest.length c9)) (by omega)).trans kx9
    have kyA := (bk_setRow_other w9 tb (w.heap.size + 1) (tdC R (.slice A9 R.rest.length c9)) (by omega)).trans ky9
    have AA := below_setRow A9' (show w.heap.size ≤ tb by omega) (tdC R (.slice A9 R.rest.length c9))
    have GA := Lib.hid (Gots.kept G9 (by decide) (Kept.setRow (c' := tdC R (.slice A9 R.rest.length c9)) kt9 htm (show 51 ∈ [51] by simp)))
    change Code.wp _ _ _ _ (w9.setRow tb (tdC R (.slice A9 R.rest.length c9)))
    clear kt9 kp9 kx9 ky9 A9' G9 lt9
    generalize w9.setRow tb (tdC R (.slice A9 R.rest.length c9)) = wA at *
    obtain ⟨last, rest, al, fi, fid, fo, fm, code, fat, er⟩ := R
    simp only at hbd GA
    have lpA := bk_lt kpA
    have f33 := bk_frozen kpA 33
    have c33 := (bk_cell kpA 33).trans (pkC_al _ _ _ _)
    have ct2 := bk_cell ktA 2
    simp [tdC] at ct2
    go_upto_region 13 with fail
    have kpB : bk (wA.setCell ⟨px, 33, none⟩ (.bool al)) px = some (.cells (pkC { pk0 with hops := n7, src := sr, hs := p8, dst := ds, hd := p24, al := al } none 0 0) 30 (0, 0)) := by
      rw [bk_setCell_same, kpA]
      show some (Obj.cells ((pkC { pk0 with hops := n7, src := sr, hs := p8, dst := ds, hd := p24 } none 0 0).setIfInBounds 33 (.bool al)) _ _) = _
      rw [pkC_set33]
    have ktB := (bk_setCell_other wA px 33 tb (.bool al) (by omega)).trans ktA
    have kxB := (bk_setCell_other wA px 33 w.heap.size (.bool al) (by omega)).trans kxA
    have kyB := (bk_setCell_other wA px 33 (w.heap.size + 1) (.bool al) (by omega)).trans kyA
    have AB := AA.setCell (p := ⟨px, 33, none⟩) (show w.heap.size ≤ px by omega) (.bool al)
    have GB := Lib.hid (Gots.turn GA.out (Nat.le_refl m) (w' := wA.setCell ⟨px, 33, none⟩ (.bool al)) (by simp [World.setCell]) (fun b hb => bk_setCell_other _ _ _ _ _ (by omega)))
    clear ktA kpA kxA kyA AA GA lpA f33 c33 ct2
    generalize wA.setCell ⟨px, 33, none⟩ (.bool al) = wB at *
    have lpB := bk_lt kpB; have ltB := bk_lt ktB; have lxB := bk_lt kxB; have lyB := bk_lt kyB
    have htx : ¬ tb = w.heap.size := by omega
    have hty : ¬ tb = w.heap.size + 1 := by omega
    have hpx : ¬ px = w.heap.size := by omega
    have hpy' : ¬ px = w.heap.size + 1 := by omega
    have ct0 := bk_cell ktB 0; have ct1 := bk_cell ktB 1; have ct9 := bk_cell ktB 9
    simp [tdC] at ct0 ct1 ct9
    rcases HSH.out with ⟨h1, h2, h3, _⟩ | ⟨co, pp, al', h1⟩ | ⟨ee, h1, h2, h3⟩
    · simp only at h1 h2 h3
      subst h1 h2 h3
      have s34 := fun (P : Pk) (A : Option Addr) (n c : Nat) => pkC_spl34 (p := P) (A := A) (n := n) (c := c) fi fid fo fm hbd.1 hbd.2
      go_upto_region 18 with fail
      change Code.wp _ _ _ _ (wB.setRow px (pkC { pk0 with hops := n7, src := sr, hs := p8, dst := ds, hd := p24, al := al, fi := fi, fid := fid, fo := fo, fm := fm, hid := hbd.1, ho := hbd.2 } none 0 0))
      have kpC : bk (wB.setRow px (pkC { pk0 with hops := n7, src := sr, hs := p8, dst := ds, hd := p24, al := al, fi := fi, fid := fid, fo := fo, fm := fm, hid := hbd.1, ho := hbd.2 } none 0 0)) px = some (.cells (pkC { pk0 with hops := n7, src := sr, hs := p8, dst := ds, hd := p24, al := al, fi := fi, fid := fid, fo := fo, fm := fm, hid := hbd.1, ho := hbd.2 } none 0 0) 30 (0, 0)) := by rw [bk_setRow_same, kpB]; rfl
      have ktC := (bk_setRow_other wB px tb (pkC { pk0 with hops := n7, src := sr, hs := p8, dst := ds, hd := p24, al := al, fi := fi, fid := fid, fo := fo, fm := fm, hid := hbd.1, ho := hbd.2 } none 0 0) htp).trans ktB
      have kxC := (bk_setRow_other wB px w.heap.size (pkC { pk0 with hops := n7, src := sr, hs := p8, dst := ds, hd := p24, al := al, fi := fi, fid := fid, fo := fo, fm := fm, hid := hbd.1, ho := hbd.2 } none 0 0) (by omega)).trans kxB
      have kyC := (bk_setRow_other wB px (w.heap.size + 1) (pkC { pk0 with hops := n7, src := sr, hs := p8, dst := ds, hd := p24, al := al, fi := fi, fid := fid, fo := fo, fm := fm, hid := hbd.1, ho := hbd.2 } none 0 0) (by omega)).trans kyB
      have AC := below_setRow AB (show w.heap.size ≤ px by omega) (pkC { pk0 with hops := n7, src := sr, hs := p8, dst := ds, hd := p24, al := al, fi := fi, fid := fid, fo := fo, fm := fm, hid := hbd.1, ho := hbd.2 } none 0 0)
      have GC := Lib.hid (Gots.turn GB.out (Nat.le_refl m) (w' := wB.setRow px (pkC { pk0 with hops := n7, src := sr, hs := p8, dst := ds, hd := p24, al := al, fi := fi, fid := fid, fo := fo, fm := fm, hid := hbd.1, ho := hbd.2 } none 0 0)) (by simp [World.setRow]) (fun b hb => bk_setRow_other _ _ _ _ (by omega)))
      clear ktB kpB kxB kyB AB GB lpB ltB lxB lyB ct0 ct1 ct9 s34
      generalize wB.setRow px (pkC { pk0 with hops := n7, src := sr, hs := p8, dst := ds, hd := p24, al := al, fi := fi, fid := fid, fo := fo, fm := fm, hid := hbd.1, ho := hbd.2 } none 0 0) = wC at *
      have lpC := bk_lt kpC; have ltC := bk_lt ktC; have lxC := bk_lt kxC; have lyC := bk_lt kyC
      have ct0 := bk_cell ktC 0; have ct1 := bk_cell ktC 1
      simp [tdC] at ct0 ct1
      have f38 := bk_frozen kpC 38; have f39 := bk_frozen kpC 39
      have c38 := (bk_cell kpC 38).trans (pkC_nx _ _ _ _); have c39 := (bk_cell kpC 39).trans (pkC_body _ _ _ _)
      go_upto_region 20 with fail
      have kpD : bk ((wC.setCell ⟨px, 38, none⟩ (.int .u8 (last.toNat : Int))).setCell ⟨px, 39, none⟩ (.slice A9 rest.length c9)) px = some (.cells (pkC { pk0 with hops := n7, src := sr, hs := p8, dst := ds, hd := p24, al := al, fi := fi, fid := fid, fo := fo, fm := fm, nx := last, hid := hbd.1, ho := hbd.2 } A9 rest.length c9) 30 (0, 0)) := by
        rw [bk_setCell_same, bk_setCell_same, kpC]
        show some (Obj.cells (((pkC { pk0 with hops := n7, src := sr, hs := p8, dst := ds, hd := p24, al := al, fi := fi, fid := fid, fo := fo, fm := fm, hid := hbd.1, ho := hbd.2 } none 0 0).setIfInBounds 38 (B last)).setIfInBounds 39 (.slice A9 rest.length c9)) _ _) = _
        rw [pkC_set38, pkC_set]
      have kxD := (bk_setCell_other (wC.setCell ⟨px, 38, none⟩ (.int .u8 (last.toNat : Int))) px 39 w.heap.size (.slice A9 rest.length c9) (by omega)).trans ((bk_setCell_other wC px 38 w.heap.size (.int .u8 (last.toNat : Int)) (by omega)).trans kxC)
      have kyD := (bk_setCell_other (wC.setCell ⟨px, 38, none⟩ (.int .u8 (last.toNat : Int))) px 39 (w.heap.size + 1) (.slice A9 rest.length c9) (by omega)).trans ((bk_setCell_other wC px 38 (w.heap.size + 1) (.int .u8 (last.toNat : Int)) (by omega)).trans kyC)
      have AD : Below w.heap.size w ((wC.setCell ⟨px, 38, none⟩ (.int .u8 (last.toNat : Int))).setCell ⟨px, 39, none⟩ (.slice A9 rest.length c9)) := (AC.setCell (p := ⟨px, 38, none⟩) (show w.heap.size ≤ px by omega) _).setCell (p := ⟨px, 39, none⟩) (show w.heap.size ≤ px by omega) _
      have GD := Lib.hid (Gots.turn GC.out (Nat.le_refl m) (w' := ((wC.setCell ⟨px, 38, none⟩ (.int .u8 (last.toNat : Int))).setCell ⟨px, 39, none⟩ (.slice A9 rest.length c9))) (by simp [World.setCell]) (fun b hb => by rw [bk_setCell_other _ _ _ _ _ (by omega), bk_setCell_other _ _ _ _ _ (by omega)]))
      clear ktC kpC kxC kyC AC GC lpC ltC lxC lyC ct0 ct1 f38 f39 c38 c39
      generalize ((wC.setCell ⟨px, 38, none⟩ (.int .u8 (last.toNat : Int))).setCell ⟨px, 39, none⟩ (.slice A9 rest.length c9)) = wD at *
      have lpD := bk_lt kpD; have lxD := bk_lt kxD; have lyD := bk_lt kyD
      go_wp2_with fail
      have HQ := Lib.hid (two_rows AD kxD kyD (pkC { pk0 with hops := n7, src := sr, hs := p8, dst := ds, hd := p24, al := al, fi := fi, fid := fid, fo := fo, fm := fm, nx := last, hid := hbd.1, ho := hbd.2 } A9 rest.length c9) (faultC 0 0))
      refine ret_three (c1 := pkC { pk0 with hops := n7, src := sr, hs := p8, dst := ds, hd := p24, al := al, fi := fi, fid := fid, fo := fo, fm := fm, nx := last, hid := hbd.1, ho := hbd.2 } A9 rest.length c9) (c2 := faultC 0 0) (ty1 := 30) (ty2 := 47) (f1 := (0, 0)) (f2 := (0, 0)) rfl rfl rfl rfl rfl (HQ.out).1 (HQ.out).2.1 Try.underlying30 Try.underlying47 rfl rfl (by rw [pkC_size]; kernel_rfl) (by kernel_rfl) ?_
      have hgP : gP b = { pk0 with hops := n7, src := sr, hs := p8, dst := ds, hd := p24, al := al, fi := fi, fid := fid, fo := fo, fm := fm, nx := last, hid := hbd.1, ho := hbd.2 } := by
        unfold gP
        rw [HT.out, ← HR.out, if_pos (.inl rfl)]
        exact pk_eq HSD.out.1.symm HSD.out.2.symm HZ.out.2.2.symm rfl rfl (Nat.mod_eq_of_lt hbd.1) (Nat.mod_eq_of_lt hbd.2) rfl rfl
      refine ⟨A9, ⟨c9, by rw [hgP, HT.out, ← HR.out]; rfl⟩, ?_, HQ.out.2.2⟩
      rw [HT.out, ← HR.out]
      exact Gots.turn GD.out (by omega) (by simp [World.setRow]) (fun b hb => by rw [bk_setRow_other _ _ _ _ (by omega), bk_setRow_other _ _ _ _ (by omega)])
    · unfold tlF at h1
      injection h1 with e1 e2 e3 e4 e5 e6 e7 e8 e9 e10
      subst e1 e2 e3 e4 e5 e6 e7 e8 e9 e10
      have cA : ∀ cs : Array Value, (wB.setRow w.heap.size cs).cell? ⟨tb, 9, none⟩ = some (.int .i64 7) := fun cs => (cell_of_bk (bk_setRow_other _ _ _ _ htx) 9).trans ct9
      have cB : ∀ cs ds : Array Value, ((wB.setRow w.heap.size cs).setRow (w.heap.size + 1) ds).cell? ⟨tb, 9, none⟩ = some (.int .i64 7) := fun cs ds => (cell_of_bk (bk_setRow_other _ _ _ _ hty) 9).trans (cA cs)
      go_upto_region 14 with fail
      go_region
      have HQ := Lib.hid (two_rows AB kxB kyB (pkC { pk0 with hops := n7, src := sr, hs := p8, dst := ds, hd := p24, al := al } none 0 0) (faultC code (min pp 4294967295)))
      go_wp2_with fail
      refine ret_three (c1 := pkC { pk0 with hops := n7, src := sr, hs := p8, dst := ds, hd := p24, al := al } none 0 0) (c2 := faultC code (min pp 4294967295)) (ty1 := 30) (ty2 := 47) (f1 := (0, 0)) (f2 := (0, 0)) rfl rfl rfl rfl rfl (HQ.out).1 (HQ.out).2.1 Try.underlying30 Try.underlying47 rfl rfl (by rw [pkC_size]; kernel_rfl) (by kernel_rfl) ?_
      have hgP : gP b = { pk0 with hops := n7, src := sr, hs := p8, dst := ds, hd := p24, al := al } := by
        unfold gP
        rw [HT.out, ← HR.out, if_pos (.inr rfl)]
        exact pk_eq HSD.out.1.symm HSD.out.2.symm HZ.out.2.2.symm rfl rfl rfl rfl rfl rfl
      exact ⟨none, ⟨0, by rw [hgP, HT.out, ← HR.out]; rfl⟩, by rw [HT.out, ← HR.out]; exact Gots.nil, HQ.out.2.2.drew⟩
    · unfold tlE at h1
      injection h1 with e1 e2 e3 e4 e5 e6 e7 e8 e9 e10
      subst e1 e2 e3 e4 e5 e6 e7 e8 e9 e10
      have hee0 : ¬ (er : Int) = 0 := by omega
      have hee7 : ¬ (er : Int) = 7 := by omega
      have cA : ∀ cs : Array Value, (wB.setRow w.heap.size cs).cell? ⟨tb, 9, none⟩ = some (.int .i64 (er : Int)) := fun cs => (cell_of_bk (bk_setRow_other _ _ _ _ htx) 9).trans ct9
      have cB : ∀ cs ds : Array Value, ((wB.setRow w.heap.size cs).setRow (w.heap.size + 1) ds).cell? ⟨tb, 9, none⟩ = some (.int .i64 (er : Int)) := fun cs ds => (cell_of_bk (bk_setRow_other _ _ _ _ hty) 9).trans (cA cs)
      go_upto_region 16 with fail
      go_region
      rw [zpkA]
      have HQ := Lib.hid (two_rows AB kxB kyB (pkC pk0 none 0 0) (faultC 0 0))
      go_wp2_with fail
      refine ret_three (c1 := pkC pk0 none 0 0) (c2 := faultC 0 0) (ty1 := 30) (ty2 := 47) (f1 := (0, 0)) (f2 := (0, 0)) rfl rfl rfl rfl rfl (HQ.out).1 (HQ.out).2.1 Try.underlying30 Try.underlying47 rfl rfl (by rw [pkC_size]; kernel_rfl) (by kernel_rfl) ?_
      refine ⟨none, ⟨0, ?_⟩, by rw [HT.out, ← HR.out]; exact Gots.nil, HQ.out.2.2.drew⟩
      unfold gP
      rw [HT.out, ← HR.out, if_neg (by simp [h2, h3])]
      rfl
theorem rget_any (A : Option Addr) (b : List UInt8) (c : Nat) (w : World) (h : Rd w w.heap.size A b) (hc : b.length ≤ c) (h30 : b.length < 2 ^ 30) : Calls Try.prog 23 #[.slice A b.length c] w fun e w' => ∃ A' c', e = .returned (.tuple #[.agg (pkC (gP b) A' (gT b).rest.length c'), .agg (faultC (gT b).code (gT b).fat), .int .i64 ((gT b).e : Int)]) ∧ Gots (gT b).rest w.heap.size A' w' ∧ Below w.heap.size w w' := by
  by_cases h1 : b.length < 40
  · exact (rget_short A b.length c w h1).mono fun e w' hz => (HGet.zero hz (by unfold gT; rw [if_pos h1]) (by decide) (by decide)).elim fun A' hq => ⟨A', _, hq⟩
  · by_cases h2 : (at8 b 0).toNat / 16 ≠ 6
    · exact (rget_form A b c w h (by omega) h2).mono fun e w' hz => (HGet.zero hz (by unfold gT; rw [if_neg h1, if_pos h2]) (by decide) (by decide)).elim fun A' hq => ⟨A', _, hq⟩
    · by_cases h3 : b.length < 40 + gsz b
      · exact (rget_cut A b c w h (by omega) h30 (by omega) h3).mono fun e w' hz => (HGet.zero hz (by unfold gT; rw [if_neg h1, if_neg h2, if_pos h3]) (by decide) (by decide)).elim fun A' hq => ⟨A', _, hq⟩
      · exact rget_good A b c w h hc (by omega) h30 (by omega) (by omega)
end Go.Proofs.Ytbfiakikhkiefaa
/- HeadersGet, walked. -/
namespace Go.Proofs.Ytbfiakikhkiefaa
open Go.RowKit
set_option maxRecDepth 100000
set_option maxHeartbeats 2000000
theorem gT_rest (b : List UInt8) : (gT b).rest.length ≤ b.length := by
  unfold gT
  split
  · simp [tlE]
  · split
    · simp [tlE]
    · split
      · simp [tlE]
      · refine Nat.le_trans (chain_rest _ _ _ _ _ _ _ _) ?_
        unfold gB
        rw [List.length_take, List.length_drop]
        omega
theorem headersGet_long (A : Option Addr) (n c : Nat) (w : World) (hl : 5000 < n) (h63 : n < 2 ^ 63) :
    Calls Try.prog 7 #[.slice A n c] w fun e w' => e = .returned (.bool true) ∧ Below w.heap.size w w' := by
  have d1 : decide (5000 < (n : Int)) = true := by simp; omega
  have d2 : decide (5000 < n) = true := by simp; omega
  go_enter Try.func7, Try.ntmps7
  go_wp2_with fail
  refine (lives9_any _).mono ?_
  rintro e w1 ⟨rfl, b1⟩
  go_wp2_with fail
  go_ret
  exact ⟨rfl, b1⟩
theorem headersGet_walk (A : Option Addr) (l : List UInt8) (c : Nat) (w : World) (h : Rd w w.heap.size A l) (hc : l.length ≤ c) (hl : l.length ≤ 5000) :
    Calls Try.prog 7 #[.slice A l.length c] w fun e w' => e = .returned (.bool true) ∧ Below w.heap.size w w' := by
  have RI := Lib.hid h
  have F : Hid (Below w.heap.size w w) := Lib.hid (Below.refl _ _)
  have d1 : decide (5000 < (l.length : Int)) = false := by simp; omega
  have d2 : decide (5000 < l.length) = false := by simp; omega
  have hlr := gT_rest l
  obtain ⟨P, hP⟩ : ∃ P, P = gP l := ⟨_, rfl⟩
  obtain ⟨R, hR⟩ : ∃ R, R = gT l := ⟨_, rfl⟩
  rw [← hR] at hlr
  obtain ⟨rest, hrest⟩ : ∃ r, r = R.rest := ⟨_, rfl⟩
  obtain ⟨co, hco⟩ : ∃ r, r = R.code := ⟨_, rfl⟩
  obtain ⟨fa, hfa⟩ : ∃ r, r = R.fat := ⟨_, rfl⟩
  obtain ⟨er, her⟩ : ∃ r, r = R.e := ⟨_, rfl⟩
  rw [← hrest] at hlr
  have HP := Lib.hid hP
  have HR := Lib.hid (And.intro (show (gT l).rest = rest by rw [hrest, hR]) (And.intro (show (gT l).code = co by rw [hco, hR]) (And.intro (show (gT l).fat = fa by rw [hfa, hR]) (show (gT l).e = er by rw [her, hR]))))
  have q2 := fun w => eqFault co fa w
  clear h hP hR hrest hco hfa her R
  go_enter Try.func7, Try.ntmps7
  go_wp2_with fail
  refine (twinBytes_any A l c w RI.out (by omega)).mono ?_
  rintro e w1 ⟨rfl, hT, b1⟩
  have KT := Lib.hid hT
  have ltT := bk_lt hT
  replace F := Lib.hid (F.out.trans (b1.mono F.out.size))
  replace RI := Lib.hid ((RI.out.below b1 (Nat.le_refl _)).mono b1.size)
  clear hT b1
  obtain ⟨T, hT⟩ : ∃ T, T = w.heap.size := ⟨_, rfl⟩
  rw [← hT] at KT ltT
  rw [← hT]
  have HTW := Lib.hid hT
  clear hT
  go_wp2_with fail
  refine (hget_any (some ⟨T, 0, none⟩) l (l.length + 4) w1 (Rd.of_bk KT.out ltT (tw_head l 199)) (by omega)).mono ?_
  rintro e w2 ⟨A2, rfl, hG2, b2⟩
  rw [← HP.out, HR.out.1, HR.out.2.1, HR.out.2.2.1, HR.out.2.2.2]
  rw [HR.out.1] at hG2
  have GD := Lib.hid hG2
  replace KT := Lib.hid (bk_keep b2 (bk_lt KT.out) KT.out)
  replace F := Lib.hid (F.out.trans (b2.mono F.out.size))
  replace RI := Lib.hid ((RI.out.below b2 (Nat.le_refl _)).mono b2.size)
  have s2 := b2.size
  clear hG2 b2
  go_upto_region 5 with fail
  have a3 : Below w2.heap.size w2 ((w2.alloc (.cells (pkC P A2 rest.length rest.length) 30 (0, 0))).alloc (.cells (faultC co fa) 47 (0, 0))) := (by (repeat (first | exact Below.refl _ _ | assumption | refine Below.drew ?_ | refine bdrewN ?_ _ | refine Below.alloc ?_ (by first | omega | (simp <;> omega) | (simp only [World.size_alloc] <;> omega)) _ | refine below_setRow ?_ (by first | omega | (simp <;> omega)) _ | refine Below.setCell ?_ (by first | omega | (simp <;> omega)) _)))
  have KX : Hid (bk ((w2.alloc (.cells (pkC P A2 rest.length rest.length) 30 (0, 0))).alloc (.cells (faultC co fa) 47 (0, 0))) w2.heap.size = some (.cells (pkC P A2 rest.length rest.length) 30 (0, 0))) := Lib.hid (by
    rw [bk_alloc_past _ _ _ (by simp), bk_alloc_at _ _ _ rfl])
  have KY : Hid (bk ((w2.alloc (.cells (pkC P A2 rest.length rest.length) 30 (0, 0))).alloc (.cells (faultC co fa) 47 (0, 0))) (w2.heap.size + 1) = some (.cells (faultC co fa) 47 (0, 0))) := Lib.hid (bk_alloc_at _ _ _ (by simp))
  replace KT := Lib.hid (bk_keep a3 (bk_lt KT.out) KT.out)
  replace GD := Lib.hid (GD.out.below a3)
  replace F := Lib.hid (F.out.trans (a3.mono F.out.size))
  replace RI := Lib.hid ((RI.out.below a3 (Nat.le_refl _)).mono a3.size)
  have s3 := a3.size
  clear a3
  change Code.wp _ _ _ _ ((w2.alloc (.cells (pkC P A2 rest.length rest.length) 30 (0, 0))).alloc (.cells (faultC co fa) 47 (0, 0)))
  generalize (w2.alloc (.cells (pkC P A2 rest.length rest.length) 30 (0, 0))).alloc (.cells (faultC co fa) 47 (0, 0)) = w3 at *
  go_wp2_with fail
  refine (rget_any A l c w3 RI.out hc (by omega)).mono ?_
  rintro e w4 ⟨A4, c4, rfl, hG4, b4⟩
  rw [← HP.out, HR.out.1, HR.out.2.1, HR.out.2.2.1, HR.out.2.2.2]
  rw [HR.out.1] at hG4
  have GE := Lib.hid hG4
  replace KX := Lib.hid (bk_keep b4 (bk_lt KX.out) KX.out)
  replace KY := Lib.hid (bk_keep b4 (bk_lt KY.out) KY.out)
  replace KT := Lib.hid (bk_keep b4 (bk_lt KT.out) KT.out)
  replace GD := Lib.hid (GD.out.below b4)
  replace F := Lib.hid (F.out.trans (b4.mono F.out.size))
  replace RI := Lib.hid ((RI.out.below b4 (Nat.le_refl _)).mono b4.size)
  have s4 := b4.size
  clear hG4 b4
  go_upto_region 6 with fail
  have a5 : Below w4.heap.size w4 ((w4.alloc (.cells (pkC P A4 rest.length c4) 30 (0, 0))).alloc (.cells (faultC co fa) 47 (0, 0))) := (by (repeat (first | exact Below.refl _ _ | assumption | refine Below.drew ?_ | refine bdrewN ?_ _ | refine Below.alloc ?_ (by first | omega | (simp <;> omega) | (simp only [World.size_alloc] <;> omega)) _ | refine below_setRow ?_ (by first | omega | (simp <;> omega)) _ | refine Below.setCell ?_ (by first | omega | (simp <;> omega)) _)))
  have KU : Hid (bk ((w4.alloc (.cells (pkC P A4 rest.length c4) 30 (0, 0))).alloc (.cells (faultC co fa) 47 (0, 0))) w4.heap.size = some (.cells (pkC P A4 rest.length c4) 30 (0, 0))) := Lib.hid (by
    rw [bk_alloc_past _ _ _ (by simp), bk_alloc_at _ _ _ rfl])
  have KV : Hid (bk ((w4.alloc (.cells (pkC P A4 rest.length c4) 30 (0, 0))).alloc (.cells (faultC co fa) 47 (0, 0))) (w4.heap.size + 1) = some (.cells (faultC co fa) 47 (0, 0))) := Lib.hid (bk_alloc_at _ _ _ (by simp))
  replace KX := Lib.hid (bk_keep a5 (bk_lt KX.out) KX.out)
  replace KY := Lib.hid (bk_keep a5 (bk_lt KY.out) KY.out)
  replace KT := Lib.hid (bk_keep a5 (bk_lt KT.out) KT.out)
  replace GD := Lib.hid (GD.out.below a5)
  replace GE := Lib.hid (GE.out.below a5)
  replace F := Lib.hid (F.out.trans (a5.mono F.out.size))
  replace RI := Lib.hid ((RI.out.below a5 (Nat.le_refl _)).mono a5.size)
  have s5 := a5.size
  clear a5
  change Code.wp _ _ _ _ ((w4.alloc (.cells (pkC P A4 rest.length c4) 30 (0, 0))).alloc (.cells (faultC co fa) 47 (0, 0)))
  generalize (w4.alloc (.cells (pkC P A4 rest.length c4) 30 (0, 0))).alloc (.cells (faultC co fa) 47 (0, 0)) = w5 at *
  have vKX := KX.out; have wKX := bk_lt vKX
  have vKU := KU.out; have wKU := bk_lt vKU
  go_wp2_with fail
  refine (samePacket_any P A2 A4 rest rest.length c4 w5 GD.out.rd GE.out.rd (by omega)).mono ?_
  rintro e w6 ⟨rfl, b6⟩
  clear vKX wKX
  clear vKU wKU
  replace KX := Lib.hid (bk_keep b6 (bk_lt KX.out) KX.out)
  replace KY := Lib.hid (bk_keep b6 (bk_lt KY.out) KY.out)
  replace KU := Lib.hid (bk_keep b6 (bk_lt KU.out) KU.out)
  replace KV := Lib.hid (bk_keep b6 (bk_lt KV.out) KV.out)
  replace KT := Lib.hid (bk_keep b6 (bk_lt KT.out) KT.out)
  replace GD := Lib.hid (GD.out.below b6)
  replace F := Lib.hid (F.out.trans (b6.mono F.out.size))
  replace RI := Lib.hid ((RI.out.below b6 (Nat.le_refl _)).mono b6.size)
  have s6 := b6.size
  clear b6 GE
  have vKY := KY.out; have wKY := bk_lt vKY
  have vKV := KV.out; have wKV := bk_lt vKV
  go_wp2_with fail
  refine (leftBytes_any A l c T w6 RI.out (by omega) KT.out).mono ?_
  rintro e w7 ⟨rfl, b7⟩
  clear vKY wKY
  clear vKV wKV
  replace KX := Lib.hid (bk_keep b7 (bk_lt KX.out) KX.out)
  replace KT := Lib.hid (bk_keep b7 (bk_lt KT.out) KT.out)
  replace GD := Lib.hid (GD.out.below b7)
  replace F := Lib.hid (F.out.trans (b7.mono F.out.size))
  have s7 := b7.size
  clear b7 KU KY KV RI
  go_wp2_with fail
  have a8 := (Below.refl (w7).heap.size w7).alloc (Nat.le_refl _) (.cells #[.slice none 0 0] 40 (0, 0))
  have HK8 : Hid (Bk ((w7).alloc (.cells #[.slice none 0 0] 40 (0, 0))) (w7).heap.size w.heap.size []) := Lib.hid (Bk.new (bk_alloc_at _ _ _ rfl))
  have hf7 := F.out.size
  have ltx7 := bk_lt KX.out
  replace KX := Lib.hid (bk_keep a8 (bk_lt KX.out) KX.out)
  replace KT := Lib.hid (bk_keep a8 (bk_lt KT.out) KT.out)
  replace GD := Lib.hid (GD.out.below a8)
  replace F := Lib.hid (F.out.trans (a8.mono F.out.size))
  have hlt8 := F.out.size
  have s8 := a8.size
  clear a8
  generalize (w7).alloc (.cells #[.slice none 0 0] 40 (0, 0)) = w8 at *
  have hTw : T = w.heap.size := HTW.out
  refine (bytes_Bk w7.heap.size w.heap.size [] (some ⟨T, 0, none⟩) l.length (l.length + 4) w8 HK8.out (by simp) hf7 hlt8 (fun _ => ⟨T, 0, _, rfl, KT.out, by simp [tw_length]⟩) (by omega) (by omega) (fun b j ⟨o, e, _⟩ => by cases e; omega) (fun l' hl' => by cases hl')).mono ?_
  rintro e w9 ⟨i1, x1, rfl, K9, B9, b9⟩
  replace F := Lib.hid (F.out.trans b9)
  have s9 := B9.size
  have R9 := Lib.hid (B9.room' GD.out.room fun b o cur e hb => by rintro rfl; obtain ⟨hv, hh⟩ := HK8.out.book.objAt; rw [hh] at hb; cases hb)
  have X9 := Lib.hid (B9.keep _ _ KX.out (by omega) (fun cur' e => by cases e))
  have hlo := Lib.hid GD.out.lo
  have HK9 := Lib.hid K9
  clear K9 B9 b9 HK8 GD KT KX
  have cx : w9.cell? ⟨w2.heap.size, 39, none⟩ = _ := (bk_cell X9.out 39).trans (pkC_body P A2 rest.length rest.length)
  go_wp2_with fail
  clear cx
  refine (bytes_Bk w7.heap.size w.heap.size _ A2 rest.length rest.length w9 HK9.out (by simp) hf7 (by omega) R9.out (Nat.le_refl _) (by omega) (fun b j hr => by have := hlo.out b j hr; omega) (fun l' hl' b j h1 h2 => by
    simp at hl'
    subst hl'
    obtain ⟨o, e, _⟩ := h1
    cases e
    have := hlo.out _ _ h2
    omega)).mono ?_
  rintro e w10 ⟨i2, x2, rfl, K10, B10, b10⟩
  replace F := Lib.hid (F.out.trans b10)
  have s10 := B10.size
  have HK10 := Lib.hid K10
  clear K10 B10 b10 HK9 R9 X9
  go_wp2_with fail
  refine (apart_Bk (w7).heap.size w.heap.size _ w10 (HK10).out hf7 (by omega) (by simp)).mono ?_
  rintro e wq ⟨rfl, bq⟩
  replace F := Lib.hid (F.out.trans bq)
  clear bq HK10
  go_wp2_with fail
  refine (lives9_any wq).mono ?_
  rintro e wr ⟨rfl, br⟩
  replace F := Lib.hid (F.out.trans (br.mono F.out.size))
  clear br
  go_wp2_with fail
  go_ret
  exact ⟨rfl, F.out⟩
end Go.Proofs.Ytbfiakikhkiefaa

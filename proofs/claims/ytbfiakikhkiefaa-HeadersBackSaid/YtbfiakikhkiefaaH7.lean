/- Headers: a packet; append to bytes that are full; headers.Put. -/
import Derived.Test.YtbfiakikhkiefaaC0
import Derived.Test.YtbfiakikhkiefaaH6
import Derived.Test.YtbfiakikhkiefaaW2
import Derived.Test.YtbfiakikhkiefaaMgB
import Derived.Test.YtbfiakikhkiefaaMgF
import Derived.ArgAppend
import Derived.Laws.Bits64b
namespace Go.Proofs.Ytbfiakikhkiefaa
open Go.RowKit
set_option maxRecDepth 100000
set_option maxHeartbeats 2000000
/-- A packet, without its body. -/
structure Pk where
  src : List UInt8
  dst : List UInt8
  hops : UInt8
  al : Bool
  fi : Bool
  fid : Nat
  fo : Nat
  fm : Bool
  nx : UInt8
  hs : src.length = 16
  hd : dst.length = 16
  hid : fid < 4294967296
  ho : fo < 65536
def pkC (p : Pk) (A : Option Addr) (n c : Nat) : Array Value := (List.map B p.src ++ List.map B p.dst ++ [B p.hops, .bool p.al, .bool p.fi, .int .u32 (p.fid : Int), .int .u16 (p.fo : Int), .bool p.fm, B p.nx, .slice A n c]).toArray
section
variable (p : Pk) (A : Option Addr) (n c : Nat)
@[go_sem] theorem pkC_size : (pkC p A n c).size = 40 := by simp [pkC, p.hs, p.hd]
@[go_sem] theorem pkC_hops : (pkC p A n c)[32]? = some (B p.hops) := by simp [pkC, p.hs, p.hd]
@[go_sem] theorem pkC_al : (pkC p A n c)[33]? = some (.bool p.al) := by simp [pkC, p.hs, p.hd]
@[go_sem] theorem pkC_fi : (pkC p A n c)[34]? = some (.bool p.fi) := by simp [pkC, p.hs, p.hd]
@[go_sem] theorem pkC_fid : (pkC p A n c)[35]? = some (.int .u32 (p.fid : Int)) := by simp [pkC, p.hs, p.hd]
@[go_sem] theorem pkC_fo : (pkC p A n c)[36]? = some (.int .u16 (p.fo : Int)) := by simp [pkC, p.hs, p.hd]
@[go_sem] theorem pkC_fm : (pkC p A n c)[37]? = some (.bool p.fm) := by simp [pkC, p.hs, p.hd]
@[go_sem] theorem pkC_nx : (pkC p A n c)[38]? = some (B p.nx) := by simp [pkC, p.hs, p.hd]
@[go_sem] theorem pkC_body : (pkC p A n c)[39]? = some (.slice A n c) := by simp [pkC, p.hs, p.hd]
theorem pkC_src (j : Nat) (h : j < p.src.length) : (pkC p A n c)[j]? = some (B p.src[j]) := by
  have := p.hs; have := p.hd
  simp [pkC, List.getElem?_append, h]
theorem pkC_dst (j : Nat) (h : j < p.dst.length) : (pkC p A n c)[16 + j]? = some (B p.dst[j]) := by
  have := p.hs; have := p.hd
  simp [pkC, List.getElem?_append, p.hs, p.hd, List.getElem?_eq_getElem h]
  omega
end
attribute [irreducible] pkC
theorem Rd.src {w : World} {x m : Nat} {p : Pk} {A : Option Addr} {n c : Nat} (h : bk w x = some (.cells (pkC p A n c) 30 (0, 0))) (hx : x < m) : Rd w m (some ⟨x, 0, none⟩) p.src := fun _ =>
  ⟨x, 0, rfl, hx, fun j hj => by rw [Nat.zero_add, bk_cell h]; exact pkC_src p A n c j hj⟩
theorem Rd.dst {w : World} {x m : Nat} {p : Pk} {A : Option Addr} {n c : Nat} (h : bk w x = some (.cells (pkC p A n c) 30 (0, 0))) (hx : x < m) : Rd w m (some ⟨x, 16, none⟩) p.dst := fun _ =>
  ⟨x, 16, rfl, hx, fun j hj => by rw [bk_cell h]; exact pkC_dst p A n c j hj⟩
/-- append to bytes that are full. -/
theorem grow_mk {m : Nat} {M : MadeW m} {o : Oper} {a : Act} {w : World} {s x : Operand} (ho : o.op = .call { callee := .builtin .append, args := #[s, x], argTypes := #[28, 28] })
    {l1 l2 l : List UInt8} (HM : Hid (M = MadeW.own m [] l)) (hl : l = l1 ++ l2) {b1 b2 : Addr} {c2 : Nat} (hs : a.eval s = .slice (some b1) l1.length l1.length) (h1 : Rd w w.heap.size (some b1) l1) (hx : a.eval x = .slice (some b2) l2.length c2) (h2 : Rd w w.heap.size (some b2) l2)
    (h0 : 0 < l2.length) (hb : l1.length + l2.length < 2 ^ 47) (hbase : m ≤ w.heap.size) : madeAtW Try.prog M o a w := by
  obtain ⟨i0, hi, hz0, hz1, hz2⟩ := info_parts infoB
  obtain ⟨v', w', hrun, r1, r2⟩ := run_append_arg_grows (P := Try.prog) w 28 o.type 5 i0 (.int .u8 0) 1 1 Try.underlying28 hi hz0 hz1 hz2 rfl (by decide) b1 l1.length l1.length (l1.map B) (by simp) h1.news b2 l2.length c2 (l2.map B) (by simp) h2.news (by omega) (by unfold maxLen; omega) (by omega)
  unfold madeAtW execOp
  simp only [ho, resolve, invoke, builtin, Sem.run_bind, Sem.run_pure, Result.andThen_ok, List.map_toArray, List.map_cons, List.map_nil, hs, hx, hrun]
  refine own_mk HM (Kept.grown r2 hbase fun g hg => by cases hg) ?_
  have r1' : w'.ownsRow w.heap.size 5 1 v' l.length (l.map B) := by rw [hl, List.length_append, List.map_append]; exact r1
  obtain ⟨q1, q2 | ⟨g, cap, cur, q2, q3, q4⟩⟩ := r1'
  · exact ⟨q1, .inl q2⟩
  · exact ⟨q1, .inr ⟨g, cap, cur, q2, by omega, q4⟩⟩
theorem put_sl (A : Option Addr) (l : List UInt8) (c n k : Nat) (m : Int) (hw : wid m = k) (w : World) (h : Rd w w.heap.size A l) (hA : A = none → l = [] ∧ c = 0) (hl : l.length < 2 ^ 45) (hn : n < 2 ^ 64) (hm : -2 ^ 63 ≤ m ∧ m < 2 ^ 63) :
    Calls Try.prog 27 #[.slice A l.length c, .int .u64 n, .int .i64 m] w fun e w' => ∃ g, e = .returned (.slice (some ⟨g, 0, none⟩) (l ++ nb k n).length (l ++ nb k n).length) ∧ Rd w' w'.heap.size (some ⟨g, 0, none⟩) (l ++ nb k n) ∧ Below w.heap.size w w' := by
  subst hw
  refine (put_any A l c n m w h hA hl hn hm).mono ?_
  rintro e w' ⟨g, cur, rfl, hg, hb, hs, ht, hbel⟩
  exact ⟨g, by rw [List.length_append, nb_length], Rd.of_take hb ht (bk_lt hb), hbel⟩
theorem rd_nn {w : World} {n c : Nat} {A : Option Addr} {l : List UInt8} (h : Rd w n A l) (h0 : 0 < l.length) : A = none → l = [] ∧ c = 0 := fun e => by
  obtain ⟨b, o, e2, _⟩ := h h0
  rw [e] at e2
  cases e2
theorem row_box {m : Nat} {M : Made m} {f : Nat → Value} {r : Obj} (HM : Hid (M = Made.row m f r)) {w : World} (hm : m ≤ w.heap.size) : Below w.heap.size w (w.alloc r) ∧ M.T (f w.heap.size) ∧ M.R (f w.heap.size) (w.alloc r) := by
  have HM := HM.out
  subst HM
  exact ⟨(Below.refl _ _).alloc (Nat.le_refl _) _, ⟨_, hm, rfl⟩, _, hm, rfl, by simp [World.size_alloc], bk_alloc_at _ _ _ rfl⟩
theorem or_one (y : Nat) : y * 8 ||| 1 = y * 8 + 1 := by
  have := Nat.shiftLeft_add_eq_or_of_lt (show 1 < 2 ^ 3 by omega) y
  rw [Nat.shiftLeft_eq] at this
  exact this.symm
/-- What a packet says of its part, as two bytes' number. -/
def pword (p : Pk) : Nat := p.fo * 8 + p.fm.toNat
def fragB (p : Pk) : List UInt8 := if p.fi then [p.nx, 0] ++ nb 2 (pword p) ++ nb 4 p.fid else []
def first0 (p : Pk) : UInt8 := if p.fi then 44 else p.nx
def alertB (p : Pk) : List UInt8 := if p.al then [first0 p, 0, 5, 2, 0, 0, 1, 0] else []
def moreB (p : Pk) : List UInt8 := alertB p ++ fragB p
def firstB (p : Pk) : UInt8 := if p.al then 0 else first0 p
def pkB (p : Pk) (l : List UInt8) : List UInt8 := [96, 0, 0, 0] ++ nb 2 ((moreB p).length + l.length) ++ [firstB p, p.hops] ++ p.src ++ p.dst ++ moreB p ++ l
def pkBad (p : Pk) (l : List UInt8) : Bool := decide (65535 < (moreB p).length + l.length) || (p.fi && decide (8191 < p.fo))
def PutGot (p : Pk) (l : List UInt8) (n : Nat) (e : Ending) (w' : World) : Prop :=
  if pkBad p l then e = .returned (.tuple #[.slice none 0 0, .int .i64 3]) else ∃ A' c', e = .returned (.tuple #[.slice A' (pkB p l).length c', .int .i64 0]) ∧ w'.ownsRow n 5 1 (.slice A' (pkB p l).length c') (pkB p l).length ((pkB p l).map B)
/-- Bytes handed back that nobody else has. -/
def Made.ow (m : Nat) (l : List UInt8) (hl : l.length < 2 ^ 40) : Made m where
  T v := ∃ A c, v = .slice A l.length c
  R v w := w.ownsRow m 5 1 v l.length (l.map B)
  mono := fun _ _ _ hb h => own_below h hb
  gives := fun w hm => ⟨.slice (some ⟨w.heap.size, 0, none⟩) l.length l.length, w.alloc (.cells (l.map B).toArray 5 (0, 0)), (Below.refl _ _).alloc (Nat.le_refl _) _, ⟨_, _, rfl⟩, World.ownsRow.mono (own_lit l hl) hm⟩
theorem ow_T {m : Nat} {M : Made m} {l : List UInt8} {hl : l.length < 2 ^ 40} {v : Value} (HM : Hid (M = Made.ow m l hl)) (h : M.T v) : ∃ A c, v = .slice A l.length c := by
  have := HM.out
  subst this
  exact h
theorem ow_R {m : Nat} {M : Made m} {l : List UInt8} {hl : l.length < 2 ^ 40} {v : Value} {w : World} (HM : Hid (M = Made.ow m l hl)) (h : M.R v w) : w.ownsRow m 5 1 v l.length (l.map B) := by
  have := HM.out
  subst this
  exact h
theorem ow_end {m : Nat} {M : Made m} {l : List UInt8} {hl : l.length < 2 ^ 40} (HM : Hid (M = Made.ow m l hl)) {w w' : World} {A : Option Addr} {c : Nat} (hb : Below w.heap.size w w') (h : w'.ownsRow m 5 1 (.slice A l.length c) l.length (l.map B)) : madeEnd M w (.returned (.slice A l.length c)) w' := by
  have := HM.out
  subst this
  exact ⟨_, rfl, hb, ⟨A, c, rfl⟩, h⟩
/-- Bytes whose block holds no more than them. -/
def MadeW.rdl (m : Nat) (l : List UInt8) : MadeW m where
  T v := ∃ g, v = .slice (some ⟨g, 0, none⟩) l.length l.length
  R v w := ∃ g cur, v = .slice (some ⟨g, 0, none⟩) l.length l.length ∧ bk w g = some (.cells cur 5 (0, 0)) ∧ cur.toList.take l.length = l.map B
  D := []
  O := [5]
  inh := ⟨_, 0, rfl⟩
  mono := fun D v w w' hd hk ⟨g, cur, h1, h2, h3⟩ => ⟨g, cur, h1, hk.row h2 fun h => hd _ h (by simp), h3⟩
def Ent.rdl (k : Nat) {m : Nat} {M : MadeW m} {l : List UInt8} (HM : Hid (M = MadeW.rdl m l)) : Ent m := ⟨k, fun _ => M, [], [5], [], fun _ => by have := HM.out; subst this; exact ⟨rfl, rfl⟩⟩
theorem rdl_T {m : Nat} {M : MadeW m} {l : List UInt8} {v : Value} (HM : Hid (M = MadeW.rdl m l)) (h : M.T v) : ∃ g, v = .slice (some ⟨g, 0, none⟩) l.length l.length := by
  have := HM.out
  subst this
  exact h
theorem rdl_R {m g n : Nat} {M : MadeW m} {l : List UInt8} {w : World} (HM : Hid (M = MadeW.rdl m l)) (h : M.R (.slice (some ⟨g, 0, none⟩) n n) w) : Rd w w.heap.size (some ⟨g, 0, none⟩) l := by
  have := HM.out
  subst this
  obtain ⟨g', cur, e, h2, h3⟩ := h
  cases e
  exact Rd.of_take h2 h3 (bk_lt h2)
theorem rdl_put {m : Nat} {M : MadeW m} {l L : List UInt8} (HM : Hid (M = MadeW.rdl m L)) (A : Option Addr) (c n k : Nat) (q : Int) (hw : wid q = k) (hL : L = l ++ nb k n) (w : World) (h : Rd w w.heap.size A l) (hA : A = none → l = [] ∧ c = 0) (hl : l.length < 2 ^ 45) (hn : n < 2 ^ 64) (hq : -2 ^ 63 ≤ q ∧ q < 2 ^ 63) (hm : m ≤ w.heap.size) :
    Calls Try.prog 27 #[.slice A l.length c, .int .u64 n, .int .i64 q] w (madeEndW M w) := by
  subst hw
  have := HM.out
  subst this
  refine (put_any A l c n q w h hA hl hn hq).mono ?_
  rintro e w' ⟨g, cur, rfl, hg, hb, hs, ht, hbel⟩
  have e : l.length + wid q = L.length := by rw [hL, List.length_append, nb_length]
  rw [e] at ht ⊢
  exact ⟨_, rfl, Kept.of_below hbel hm, ⟨g, rfl⟩, g, cur, rfl, hb, by rw [ht, hL]⟩
theorem hput_any (p : Pk) (A : Option Addr) (l : List UInt8) (c : Nat) (w : World) (h : Rd w w.heap.size A l) (hA : A = none → l = [] ∧ c = 0) (hl : l.length < 2 ^ 36) :
    Calls Try.prog 11 #[.agg (pkC p A l.length c)] w fun e w' => PutGot p l w.heap.size e w' ∧ Below w.heap.size w w' := by
  have ba : Below w.heap.size w (w.alloc (.cells (pkC p A l.length c) 30 (0, 0))) := (by (repeat (first | exact Below.refl _ _ | assumption | refine Below.drew ?_ | refine bdrewN ?_ _ | refine Below.alloc ?_ (by first | omega | (simp <;> omega) | (simp only [World.size_alloc] <;> omega)) _ | refine below_setRow ?_ (by first | omega | (simp <;> omega)) _ | refine Below.setCell ?_ (by first | omega | (simp <;> omega)) _)))
  have k0 : bk (w.alloc (.cells (pkC p A l.length c) 30 (0, 0))) w.heap.size = some (.cells (pkC p A l.length c) 30 (0, 0)) := bk_alloc_at _ _ _ rfl
  have l0 : w.heap.size < (w.alloc (.cells (pkC p A l.length c) 30 (0, 0))).heap.size := by simp
  have HR := Lib.hid ((h.below ba (Nat.le_refl _)).mono ba.size); have HA := Lib.hid hA; have F := Lib.hid ba
  clear h hA ba
  go_enter Try.func11, Try.ntmps11
  go_upto_region 1 with fail
  generalize w.alloc (.cells (pkC p A l.length c) 30 (0, 0)) = w1 at *
  obtain ⟨x, hx⟩ : ∃ x, x = w.heap.size := ⟨_, rfl⟩
  rw [← hx] at k0 l0 ⊢
  have HXX := Lib.hid hx
  have K0 := Lib.hid k0
  clear hx k0
  have c32 := (bk_cell K0.out 32).trans (pkC_hops p A l.length c); have c33 := (bk_cell K0.out 33).trans (pkC_al p A l.length c); have c34 := (bk_cell K0.out 34).trans (pkC_fi p A l.length c); have c35 := (bk_cell K0.out 35).trans (pkC_fid p A l.length c)
  have c36 := (bk_cell K0.out 36).trans (pkC_fo p A l.length c); have c37 := (bk_cell K0.out 37).trans (pkC_fm p A l.length c); have c38 := (bk_cell K0.out 38).trans (pkC_nx p A l.length c); have c39 := (bk_cell K0.out 39).trans (pkC_body p A l.length c)
  cases hfi : p.fi with
  | true =>
    have HFI := Lib.hid hfi
    rw [hfi] at c34
    clear hfi
    have ho := p.ho; have hid := p.hid
    have f1 : IntKind.u64.wrap (p.fo : Int) = (p.fo : Int) := by rw [IntKind.wrap_u64]; omega
    obtain ⟨y, hy⟩ : ∃ y, y = p.fo * 8 := ⟨_, rfl⟩
    have f2 : IntKind.u64.wrap ((p.fo : Int) * 8) = (y : Int) := by rw [IntKind.wrap_u64]; omega
    have f2' : IntKind.u64.wrap ((p.fo : Int) * 2 ^ 3) = (y : Int) := by rw [IntKind.wrap_u64]; omega
    have hy20 : y < 2 ^ 20 := by omega
    have f3 : IntKind.u64.wrap (p.fid : Int) = (p.fid : Int) := by rw [IntKind.wrap_u64]; omega
    have HY := Lib.hid hy
    clear hy
    cases hfm : p.fm with
    | true =>
      rw [hfm] at c37
      obtain ⟨W, hW⟩ : ∃ W, W = y + 1 := ⟨_, rfl⟩
      have f4 : bits BinOp.or IntKind.u64 (y : Int) 1 = (W : Int) := by
        have e := bits_or_u64_nat y 1 (by omega) (by omega)
        rw [HY.out, or_one, ← HY.out, ← hW] at e
        exact e
      have HW : Hid (W = pword p) := Lib.hid (by unfold pword; rw [hfm, hW, HY.out]; rfl)
      have hW64 : W < 2 ^ 64 := by omega
      clear hfm hW
      go_upto_region 8 with fail
      clear f1 f2 f2' c36 c37
      obtain ⟨m, hm⟩ : ∃ m, m = w1.heap.size := ⟨_, rfl⟩
      rw [← hm] at l0
      obtain ⟨M2, hM2⟩ : ∃ M : Made m, M = Made.row m (fun b => .slice (some ⟨b, 0, none⟩) 2 2) (.cells (List.map B [p.nx, 0]).toArray 5 (0, 0)) := ⟨_, rfl⟩
      obtain ⟨M4, hM4⟩ : ∃ M : Made m, M = Made.sl m ([p.nx, 0] ++ nb 2 W) := ⟨_, rfl⟩
      obtain ⟨M9, hM9⟩ : ∃ M : Made m, M = Made.sl m ([p.nx, 0] ++ nb 2 W ++ nb 4 p.fid) := ⟨_, rfl⟩
      have H2 := Lib.hid hM2; have H4 := Lib.hid hM4; have H9 := Lib.hid hM9
      clear hM2 hM4 hM9
      refine wp_region_made (m) (fun k => ([(2, M2), (4, M4), (9, M9)] : List (Nat × Made m)).lookup k) (by first | omega | (simp <;> omega)) (by kernel_rfl) (by kernel_rfl) ?_
      refine walk_segn 2 ([]) facts0 (by kernel_rfl) (by kernel_rfl) ?_
      simp only [List.take_succ_cons, List.take_zero, List.drop_succ_cons, List.drop_zero, Nat.reduceAdd]
      repeat (go_big_quiet_step (fail))
      (first | refine wpQuiet_nil ?_ | (go_big_quiet_want; (try go_big_quiet_op); trace_state; fail))
      refine walk_mkop M2 ([]) facts0 (by kernel_rfl) (by kernel_rfl) (by kernel_rfl) (fun w' hb' hg' => ?_) (fun v _ hAt => ?_)
      · unfold madeAt
        go_simp
        ((exact row_box H2 (by have := hb'.size; omega)))
      obtain ⟨b2, hmb2, rfl, hnb2, hib2, rb⟩ := made_at H2 (by intro b b' h; simpa using h) 2 hAt
      clear hAt
      simp only [Act.put, List.setIfInBounds_toArray, List.set_cons_succ, List.set_cons_zero, Nat.reduceAdd]
      refine walk_segn 1 ([]) facts0 (by kernel_rfl) (by kernel_rfl) ?_
      simp only [List.take_succ_cons, List.take_zero, List.drop_succ_cons, List.drop_zero, Nat.reduceAdd]
      repeat (go_big_quiet_step (fail))
      (first | refine wpQuiet_nil ?_ | (go_big_quiet_want; (try go_big_quiet_op); trace_state; fail))
      refine walk_mkop M4 ([(2, M2.R (.slice (some ⟨b2, 0, none⟩) 2 2))]) (facts1 fun w h => h.1 rfl) (by kernel_rfl) (by kernel_rfl) (by kernel_rfl) (fun w' hb' hg' => ?_) (fun v hTA4 hAt => ?_)
      · unfold madeAt
        go_simp
        ((have kb := rb w' (hg' _ (List.mem_singleton.2 rfl)); refine (put_sl (some ⟨b2, 0, none⟩) [p.nx, 0] 2 W 2 2 rfl w' (Rd.of_bk (L := [p.nx, 0]) kb (bk_lt kb) (fun j h => by simp [List.getElem?_eq_getElem h])) (fun h => by cases h) (by simp) hW64 (by omega)).mono ?_; rintro e w4 ⟨g, rfl, hr, hb⟩; exact sl_end H4 hb hr))
      obtain ⟨A4, c4, rfl⟩ := sl_T H4 hTA4
      clear hTA4 hAt
      simp only [Act.put, List.setIfInBounds_toArray, List.set_cons_succ, List.set_cons_zero, Nat.reduceAdd]
      refine walk_segn 4 ([]) facts0 (by kernel_rfl) (by kernel_rfl) ?_
      simp only [List.take_succ_cons, List.take_zero, List.drop_succ_cons, List.drop_zero, Nat.reduceAdd]
      repeat (go_big_quiet_step (fail))
      (first | refine wpQuiet_nil ?_ | (go_big_quiet_want; (try go_big_quiet_op); trace_state; fail))
      refine walk_mkop M9 ([(4, M4.R (.slice A4 ([p.nx, 0] ++ nb 2 W).length c4))]) (facts1 fun w h => h.1 rfl) (by kernel_rfl) (by kernel_rfl) (by kernel_rfl) (fun w' hb' hg' => ?_) (fun v hTA9 hAt => ?_)
      · unfold madeAt
        go_simp
        ((have hr4 := (sl_R H4 (hg' _ (List.mem_singleton.2 rfl))).2; refine (put_sl A4 ([p.nx, 0] ++ nb 2 W) c4 p.fid 4 4 rfl w' hr4 (rd_nn hr4 (by simp)) (by simp [nb_length]) (by omega) (by omega)).mono ?_; rintro e w5 ⟨g, rfl, hr, hb⟩; exact sl_end H9 hb hr))
      obtain ⟨A9, c9, rfl⟩ := sl_T H9 hTA9
      clear hTA9 hAt
      simp only [Act.put, List.setIfInBounds_toArray, List.set_cons_succ, List.set_cons_zero, Nat.reduceAdd]
      refine walk_segn 1 ([]) facts0 (by kernel_rfl) (by kernel_rfl) ?_
      simp only [List.take_succ_cons, List.take_zero, List.drop_succ_cons, List.drop_zero, Nat.reduceAdd]
      repeat (go_big_quiet_step (fail))
      (first | refine wpQuiet_nil ?_ | (go_big_quiet_want; (try go_big_quiet_op); trace_state; fail))
      refine walk_nil ?_
      intro w2 hb2 hf
      have R9 := Lib.hid (sl_R H9 ((hf 9).1 rfl)).2
      rw [hm] at hb2
      replace K0 := Lib.hid (bk_keep hb2 (bk_lt K0.out) K0.out)
      replace HR := Lib.hid ((HR.out.below hb2 (Nat.le_refl _)).mono hb2.size)
      replace F := Lib.hid (F.out.trans (hb2.mono F.out.size))
      obtain ⟨mb, hmb⟩ : ∃ mb, mb = [p.nx, 0] ++ nb 2 W ++ nb 4 p.fid := ⟨_, rfl⟩
      rw [← hmb] at R9 ⊢
      have HMB : Hid (mb = fragB p) := Lib.hid (by unfold fragB; rw [HFI.out, if_pos rfl, ← HW.out]; exact hmb)
      have HML : Hid (mb.length ≤ 8) := Lib.hid (by rw [hmb]; simp [nb_length])
      have HMN := Lib.hid (rd_nn (c := c9) R9.out (by rw [hmb]; simp))
      have HF0 : Hid (first0 p = 44) := Lib.hid (by unfold first0; rw [HFI.out]; rfl)
      clear hb2 hf hmb rb c32 c33 c34 c35 c38 c39 hm f3 HW HY hW64
      have l0 := bk_lt K0.out
      have c32 := (bk_cell K0.out 32).trans (pkC_hops p A l.length c); have c33 := (bk_cell K0.out 33).trans (pkC_al p A l.length c); have c34 := (bk_cell K0.out 34).trans (pkC_fi p A l.length c); have c35 := (bk_cell K0.out 35).trans (pkC_fid p A l.length c)
      have c36 := (bk_cell K0.out 36).trans (pkC_fo p A l.length c); have c37 := (bk_cell K0.out 37).trans (pkC_fm p A l.length c); have c38 := (bk_cell K0.out 38).trans (pkC_nx p A l.length c); have c39 := (bk_cell K0.out 39).trans (pkC_body p A l.length c)
      cases hal : p.al with
      | true =>
        rw [hal] at c33
        have HAL := Lib.hid hal
        clear hal
        have a2 : Below (w2).heap.size (w2) (((w2).alloc (.cells (List.map B [44, 0, 5, 2, 0, 0, 1, 0]).toArray 5 (0, 0))).alloc (.cells #[.slice (some ⟨(w2).heap.size, 0, none⟩) 8 8, .slice A9 (mb).length c9] 28 (0, 0))) := by
          (repeat (first | exact Below.refl _ _ | assumption | refine Below.drew ?_ | refine bdrewN ?_ _ | refine Below.alloc ?_ (by first | omega | (simp <;> omega) | (simp only [World.size_alloc] <;> omega)) _ | refine below_setRow ?_ (by first | omega | (simp <;> omega)) _ | refine Below.setCell ?_ (by first | omega | (simp <;> omega)) _))
        have k2 : bk (((w2).alloc (.cells (List.map B [44, 0, 5, 2, 0, 0, 1, 0]).toArray 5 (0, 0))).alloc (.cells #[.slice (some ⟨(w2).heap.size, 0, none⟩) 8 8, .slice A9 (mb).length c9] 28 (0, 0))) (w2).heap.size = some (.cells (List.map B [44, 0, 5, 2, 0, 0, 1, 0]).toArray 5 (0, 0)) := (bk_alloc_past _ _ _ (by simp)).trans (bk_alloc_at _ _ _ rfl)
        have k3 : bk (((w2).alloc (.cells (List.map B [44, 0, 5, 2, 0, 0, 1, 0]).toArray 5 (0, 0))).alloc (.cells #[.slice (some ⟨(w2).heap.size, 0, none⟩) 8 8, .slice A9 (mb).length c9] 28 (0, 0))) ((w2).heap.size + 1) = some (.cells #[.slice (some ⟨(w2).heap.size, 0, none⟩) 8 8, .slice A9 (mb).length c9] 28 (0, 0)) := bk_alloc_at _ _ _ (by simp)
        obtain ⟨al8, hal8⟩ : ∃ a : List UInt8, a = [44, 0, 5, 2, 0, 0, 1, 0] := ⟨_, rfl⟩
        have h8l : al8.length = 8 := by rw [hal8]; rfl
        have CC := concat_any ((w2).heap.size + 1) [(some ⟨(w2).heap.size, 0, none⟩, al8, 8), (A9, mb, c9)] 28 (0, 0) _ (by rw [k3]; simp [Src.v, h8l]) (fun q hq => by
          simp only [List.mem_cons, List.not_mem_nil, or_false] at hq
          rcases hq with rfl | rfl
          · exact ⟨Rd.of_bk (L := al8) (by rw [hal8]; exact k2) (bk_lt k2) (fun j h => by rw [Nat.zero_add]; exact List.getElem?_eq_getElem h), fun h => by cases h⟩
          · exact ⟨(R9.out.below a2 (Nat.le_refl _)).mono a2.size, HMN.out⟩) (by have := HML.out; simp only [flat, List.map_cons, List.map_nil, List.flatten_cons, List.flatten_nil, List.length_append, List.length_nil, h8l] at this ⊢; omega) (by simp)
        have hfl : flat [(some ⟨(w2).heap.size, 0, none⟩, al8, 8), (A9, mb, c9)] = al8 ++ mb := by simp [flat]
        rw [hfl] at CC
        have HC := Lib.hid CC
        have HAA := Lib.hid (And.intro a2 hal8)
        clear CC a2 k2 k3 hfl hal8
        go_wp2_with fail
        refine HC.out.mono ?_
        rintro e w7 ⟨v7, rfl, ho7, b7⟩
        have b77 := HAA.out.1.trans (b7.mono HAA.out.1.size)
        obtain ⟨ms, hms⟩ : ∃ m, m = al8 ++ mb := ⟨_, rfl⟩
        rw [← hms] at ho7
        obtain ⟨A7, c7, rfl, hR7, hN7, _⟩ := Rd.of_own ho7 rfl
        have HMO : Hid (ms = moreB p) := Lib.hid (by rw [hms, HAA.out.2]; unfold moreB alertB; rw [HAL.out, if_pos rfl, HF0.out, HMB.out])
        have HMS : Hid (ms.length ≤ 16) := Lib.hid (by rw [hms, List.length_append, h8l]; have := HML.out; omega)
        have RM := Lib.hid hR7; have RN := Lib.hid hN7
        replace K0 := Lib.hid (bk_keep b77 (bk_lt K0.out) K0.out)
        replace HR := Lib.hid ((HR.out.below b77 (Nat.le_refl _)).mono b77.size)
        replace F := Lib.hid (F.out.trans (b77.mono F.out.size))
        have HFB : Hid (firstB p = 0) := Lib.hid (by unfold firstB; rw [HAL.out]; rfl)
        clear HC HAA ho7 b7 b77 hR7 hN7 hms h8l R9 HMN HMB HML HF0 HAL c32 c33 c34 c35 c36 c37 c38 c39 l0
        go_upto_region 12 with fail
        have c32 := (bk_cell K0.out 32).trans (pkC_hops p A l.length c); have c33 := (bk_cell K0.out 33).trans (pkC_al p A l.length c); have c34 := (bk_cell K0.out 34).trans (pkC_fi p A l.length c); have c35 := (bk_cell K0.out 35).trans (pkC_fid p A l.length c)
        have c36 := (bk_cell K0.out 36).trans (pkC_fo p A l.length c); have c37 := (bk_cell K0.out 37).trans (pkC_fm p A l.length c); have c38 := (bk_cell K0.out 38).trans (pkC_nx p A l.length c); have c39 := (bk_cell K0.out 39).trans (pkC_body p A l.length c)
        obtain ⟨S, hS⟩ : ∃ S, S = (ms).length + l.length := ⟨_, rfl⟩
        have e1 : IntKind.i64.wrap (((ms).length : Int) + (l.length : Int)) = (S : Int) := by rw [IntKind.wrap_i64]; have := HMS.out; omega
        have hSl : S < 2 ^ 40 := by have := HMS.out; omega
        have HSS : Hid (S = (moreB p).length + l.length) := Lib.hid (by rw [hS, HMO.out])
        have hS0 := Lib.hid hS
        clear hS
        by_cases hbig : 65535 < S
        · have d1 : decide ((65535 : Int) < (S : Int)) = true := by simp; omega
          have d2 : decide (65535 < S) = true := by simp; omega
          have hbd : Hid (pkBad p l = true) := Lib.hid (by unfold pkBad; rw [← HSS.out, d2]; rfl)
          go_upto_region 14 with fail
          go_wp2_with fail
          go_ret2
          exact ⟨by unfold PutGot; rw [if_pos hbd.out]; rfl, F.out⟩
        · have d1 : decide ((65535 : Int) < (S : Int)) = false := by simp; omega
          have d2 : decide (65535 < S) = false := by simp; omega
          rw [HFI.out] at c34
          by_cases hfo : 8191 < p.fo
          · have d3 : decide ((8191 : Int) < (p.fo : Int)) = true := by simp; omega
            have d4 : decide (8191 < p.fo) = true := by simp; omega
            have hbd : Hid (pkBad p l = true) := Lib.hid (by unfold pkBad; rw [HFI.out, d4]; simp)
            go_upto_region 14 with fail
            go_wp2_with fail
            go_ret2
            exact ⟨by unfold PutGot; rw [if_pos hbd.out]; rfl, F.out⟩
          · have d3 : decide ((8191 : Int) < (p.fo : Int)) = false := by simp; omega
            have d4 : decide (8191 < p.fo) = false := by simp; omega
            have hbd : Hid (pkBad p l = false) := Lib.hid (by unfold pkBad; rw [← HSS.out, d2, d4]; simp)
            go_upto_region 15 with fail
            clear e1 d1 d2 d3 d4 c33 c34 c35 c36 c37 c38
            have e3 : IntKind.u64.wrap (S : Int) = (S : Int) := by rw [IntKind.wrap_u64]; omega
            obtain ⟨m, hm⟩ : ∃ m, m = (w7).heap.size := ⟨_, rfl⟩
            have lx : x < m := by rw [hm]; exact bk_lt K0.out
            have HMM := Lib.hid hm
            have hmle : m ≤ (w7).heap.size := Nat.le_of_eq hm
            clear hm
            obtain ⟨hd, hhd⟩ : ∃ h, h = [96, 0, 0, 0] ++ nb 2 S ++ [0, p.hops] := ⟨_, rfl⟩
            obtain ⟨M0, hM0⟩ : ∃ M : MadeW m, M = MadeW.row _ (fun b => .slice (some ⟨b, 0, none⟩) 4 4) (List.map B [96, 0, 0, 0]).toArray 5 := ⟨_, rfl⟩
            obtain ⟨M3, hM3⟩ : ∃ M : MadeW m, M = MadeW.rdl _ ([96, 0, 0, 0] ++ nb 2 S) := ⟨_, rfl⟩
            obtain ⟨M7, hM7⟩ : ∃ M : MadeW m, M = MadeW.row _ (fun b => .slice (some ⟨b, 0, none⟩) 2 2) (List.map B [0, p.hops]).toArray 5 := ⟨_, rfl⟩
            obtain ⟨M8, hM8⟩ : ∃ M : MadeW m, M = MadeW.own _ [] hd := ⟨_, rfl⟩
            have H0 := Lib.hid hM0; have H3 := Lib.hid hM3; have H7 := Lib.hid hM7; have H8 := Lib.hid hM8; have HHD := Lib.hid hhd
            clear hM0 hM3 hM7 hM8 hhd
            refine wp_region_e (m) ([.row 0 H0, .rdl 3 H3, .row 7 H7, .own 8 H8]) (fun k => (([(3, [0]), (8, [3, 7])] : List (Nat × List Nat)).lookup k).getD []) (Fs.nil) (by first | omega | (simp <;> omega)) (by kernel_rfl) (by kernel_rfl) (by kernel_rfl) (by kernel_rfl) EnvW.Ini.nil ?_
            refine walkW_mk (fun _ => M0) [] M0 ([]) facts0 (by kernel_rfl) (by kernel_rfl) (by kernel_rfl) rfl rfl (fun w' hb' hg' => ?_) (fun v0 h0 => ?_)
            · unfold madeAtW
              go_simp
              ((refine row_mk (b := w'.heap.size) H0 ((Below.refl _ _).alloc (Nat.le_refl _) _) (show m ≤ w'.heap.size by have := hb'.size; omega) (show m ≤ w'.heap.size by have := hb'.size; omega) ?_; exact bk_alloc_at _ _ _ rfl))
            obtain ⟨b0, m0, rfl⟩ := row_T H0 h0
            simp only [Act.put, List.setIfInBounds_toArray, List.set_cons_succ, List.set_cons_zero, Nat.reduceAdd]
            refine walkW_segn 2 [] facts0 noneHx (by kernel_rfl) (by kernel_rfl) ?_
            simp only [List.take_succ_cons, List.take_zero, List.drop_succ_cons, List.drop_zero, Nat.reduceAdd]
            repeat (go_big_quiet_step (fail))
            (first | refine wpQuiet_nil ?_ | (go_big_quiet_want; (try go_big_quiet_op); trace_state; fail))
            refine walkW_mk (fun _ => M3) [] M3 ([(0, M0.R (.slice (some ⟨b0, 0, none⟩) 4 4))]) (facts1 fun w h => h.1 rfl) (by kernel_rfl) (by kernel_rfl) (by kernel_rfl) rfl rfl (fun w' hb' hg' => ?_) (fun v3 h3 => ?_)
            · unfold madeAtW
              go_simp
              ((have kb := row_R H0 (fun b b' h => by simpa using h) (hg' _ (.head _)); exact rdl_put H3 (l := [96, 0, 0, 0]) (some ⟨b0, 0, none⟩) 4 S 2 2 rfl rfl w' (Rd.of_bk (L := [96, 0, 0, 0]) kb (bk_lt kb) (fun j h => by simp [List.getElem?_eq_getElem h])) (fun h => by cases h) (by simp) (by omega) (by omega) (by have := hb'.size; omega)))
            obtain ⟨g3, rfl⟩ := rdl_T H3 h3
            simp only [Act.put, List.setIfInBounds_toArray, List.set_cons_succ, List.set_cons_zero, Nat.reduceAdd]
            refine walkW_segn 3 [] facts0 noneHx (by kernel_rfl) (by kernel_rfl) ?_
            simp only [List.take_succ_cons, List.take_zero, List.drop_succ_cons, List.drop_zero, Nat.reduceAdd]
            repeat (go_big_quiet_step (fail))
            (first | refine wpQuiet_nil ?_ | (go_big_quiet_want; (try go_big_quiet_op); trace_state; fail))
            refine walkW_mk (fun _ => M7) [] M7 ([]) facts0 (by kernel_rfl) (by kernel_rfl) (by kernel_rfl) rfl rfl (fun w' hb' hg' => ?_) (fun v7 h7 => ?_)
            · unfold madeAtW
              go_simp
              ((refine row_mk (b := w'.heap.size) H7 ((Below.refl _ _).alloc (Nat.le_refl _) _) (show m ≤ w'.heap.size by have := hb'.size; omega) (show m ≤ w'.heap.size by have := hb'.size; omega) ?_; exact bk_alloc_at _ _ _ rfl))
            obtain ⟨b7, m7, rfl⟩ := row_T H7 h7
            simp only [Act.put, List.setIfInBounds_toArray, List.set_cons_succ, List.set_cons_zero, Nat.reduceAdd]
            refine walkW_mk (fun _ => M8) [] M8 ([(3, M3.R (.slice (some ⟨g3, 0, none⟩) ([96, 0, 0, 0] ++ nb 2 S).length ([96, 0, 0, 0] ++ nb 2 S).length)), (7, M7.R (.slice (some ⟨b7, 0, none⟩) 2 2))]) (facts2 (fun w h => h.2.1 rfl) (fun w h => h.1 rfl)) (by kernel_rfl) (by kernel_rfl) (by kernel_rfl) rfl rfl (fun w' hb' hg' => ?_) (fun v8 h8 => ?_)
            · ((have kb := row_R H7 (fun b b' h => by simpa using h) (hg' _ (.tail _ (.head _))); exact grow_mk rfl H8 (l1 := [96, 0, 0, 0] ++ nb 2 S) (l2 := [0, p.hops]) HHD.out rfl (rdl_R H3 (hg' _ (.head _))) rfl (Rd.of_bk (L := [0, p.hops]) kb (bk_lt kb) (fun j h => by simp [List.getElem?_eq_getElem h])) (by simp) (by simp [nb_length]) (by have := hb'.size; omega)))
            obtain ⟨A8, c8, rfl, n8, le8⟩ := own_T H8 h8
            simp only [Act.put, List.setIfInBounds_toArray, List.set_cons_succ, List.set_cons_zero, Nat.reduceAdd]
            refine walkW_segn 1 [] facts0 noneHx (by kernel_rfl) (by kernel_rfl) ?_
            simp only [List.take_succ_cons, List.take_zero, List.drop_succ_cons, List.drop_zero, Nat.reduceAdd]
            repeat (go_big_quiet_step (fail))
            (first | refine wpQuiet_nil ?_ | (go_big_quiet_want; (try go_big_quiet_op); trace_state; fail))
            refine walkW_nil ?_
            intro w8 b8 hf
            have ho8 := own_R H8 ((hf 8 (by kernel_rfl)).1 rfl)
            obtain ⟨_, _, eq8, hR8, _, _⟩ := Rd.of_own ho8 rfl
            cases eq8
            rw [HMM.out] at b8
            replace K0 := Lib.hid (bk_keep b8 (bk_lt K0.out) K0.out)
            replace HR := Lib.hid ((HR.out.below b8 (Nat.le_refl _)).mono b8.size)
            replace RM := Lib.hid ((RM.out.below b8 (Nat.le_refl _)).mono b8.size)
            replace F := Lib.hid (F.out.trans (b8.mono F.out.size))
            have R8 := Lib.hid hR8; have N8 := Lib.hid n8
            clear b8 hf ho8 hR8 c32 c39 e3 lx hmle
            have c39 := (bk_cell K0.out 39).trans (pkC_body p A l.length c)
            have lx := bk_lt K0.out
            go_upto_region 16 with fail
            obtain ⟨m2, hm2⟩ : ∃ m, m = w8.heap.size := ⟨_, rfl⟩
            rw [← hm2] at lx
            obtain ⟨Mr, hMr⟩ : ∃ M : Made m2, M = Made.row m2 (fun b => .slice (some ⟨b, 0, none⟩) 5 5) (.cells #[.slice A8 hd.length c8, .slice (some ⟨x, 0, none⟩) 16 16, .slice (some ⟨x, 16, none⟩) 16 16, .slice A7 (ms).length c7, .slice A l.length c] 28 (0, 0)) := ⟨_, rfl⟩
            have hPL : (pkB p l).length < 2 ^ 40 := by unfold pkB; rw [List.length_append, List.length_append, List.length_append, List.length_append, List.length_append, List.length_append, nb_length, p.hs, p.hd, ← HMO.out]; have := HMS.out; simp only [List.length_cons, List.length_nil]; omega
            obtain ⟨Mg, hMg⟩ : ∃ M : Made m2, M = Made.ow m2 (pkB p l) hPL := ⟨_, rfl⟩
            have Hr := Lib.hid hMr; have Hg := Lib.hid hMg
            clear hMr hMg
            refine wp_region_made (m2) (fun k => ([(8, Mr), (9, Mg)] : List (Nat × Made m2)).lookup k) (by first | omega | (simp <;> omega)) (by kernel_rfl) (by kernel_rfl) ?_
            refine walk_segn 8 ([]) facts0 (by kernel_rfl) (by kernel_rfl) ?_
            simp only [List.take_succ_cons, List.take_zero, List.drop_succ_cons, List.drop_zero, Nat.reduceAdd]
            repeat (go_big_quiet_step (fail))
            (first | refine wpQuiet_nil ?_ | (go_big_quiet_want; (try go_big_quiet_op); trace_state; fail))
            refine walk_mkop Mr ([]) facts0 (by kernel_rfl) (by kernel_rfl) (by kernel_rfl) (fun w' hb' hg' => ?_) (fun v _ hAt => ?_)
            · unfold madeAt
              go_simp
              ((exact row_box Hr (by have := hb'.size; omega)))
            obtain ⟨br, hmbr, rfl, hnbr, hibr, rb⟩ := made_at Hr (by intro b b' h; simpa using h) 8 hAt
            clear hAt
            simp only [Act.put, List.setIfInBounds_toArray, List.set_cons_succ, List.set_cons_zero, Nat.reduceAdd]
            refine walk_mkop Mg [(8, Mr.R (.slice (some ⟨br, 0, none⟩) 5 5))] (facts1 fun w h => h.1 rfl) (by kernel_rfl) (by kernel_rfl) (by kernel_rfl) (fun w' hb' hg' => ?_) (fun v hT hAt => ?_)
            · unfold madeAt
              go_simp
              have kb := rb w' (hg' _ (List.mem_singleton.2 rfl))
              have k0' := bk_keep hb' lx K0.out
              have hsz := hb'.size
              have hs16 := p.hs; have hd16 := p.hd
              have hhl : hd.length = 8 := by rw [HHD.out]; simp [nb_length]
              have hfl : flat [(A8, hd, c8), (some ⟨x, 0, none⟩, p.src, 16), (some ⟨x, 16, none⟩, p.dst, 16), (A7, ms, c7), (A, l, c)] = pkB p l := by
                unfold pkB
                rw [HFB.out, ← HSS.out, ← HHD.out, ← HMO.out]
                simp [flat]
              have hln : (pkB p l).length = 40 + S := by rw [← hfl, hS0.out]; simp [flat, hhl, hs16, hd16]; omega
              have CC := concat_any br [(A8, hd, c8), (some ⟨x, 0, none⟩, p.src, 16), (some ⟨x, 16, none⟩, p.dst, 16), (A7, ms, c7), (A, l, c)] 28 (0, 0) w' (by rw [kb]; simp [Src.v, hs16, hd16]) (fun q hq => by
                simp only [List.mem_cons, List.not_mem_nil, or_false] at hq
                rcases hq with rfl | rfl | rfl | rfl | rfl
                · exact ⟨(R8.out.below (by rw [← hm2]; exact hb') (Nat.le_refl _)).mono (by omega), N8.out⟩
                · exact ⟨Rd.src k0' (bk_lt k0'), fun h => by cases h⟩
                · exact ⟨Rd.dst k0' (bk_lt k0'), fun h => by cases h⟩
                · exact ⟨(RM.out.below (by rw [← hm2]; exact hb') (Nat.le_refl _)).mono (by omega), RN.out⟩
                · exact ⟨(HR.out.below (by rw [← hm2]; exact hb') (Nat.le_refl _)).mono (by omega), HA.out⟩) (by rw [hfl, hln]; omega) (by simp)
              rw [hfl] at CC
              refine CC.mono ?_
              rintro e w9 ⟨v9, rfl, ho9, b9⟩
              obtain ⟨A9', c9', rfl, _, _, hle9⟩ := Rd.of_own ho9 rfl
              exact ow_end Hg b9 (World.ownsRow.mono ho9 (by omega))
            obtain ⟨A9', c9', rfl⟩ := ow_T Hg hT
            clear hT hAt
            simp only [Act.put, List.setIfInBounds_toArray, List.set_cons_succ, List.set_cons_zero, Nat.reduceAdd]
            refine walk_segn 2 ([]) facts0 (by kernel_rfl) (by kernel_rfl) ?_
            simp only [List.take_succ_cons, List.take_zero, List.drop_succ_cons, List.drop_zero, Nat.reduceAdd]
            repeat (go_big_quiet_step (fail))
            (first | refine wpQuiet_nil ?_ | (go_big_quiet_want; (try go_big_quiet_op); trace_state; fail))
            refine walk_nil ?_
            intro w9 hb9 hf
            have G9 := ow_R Hg ((hf 9).1 rfl)
            rw [hm2] at hb9
            have F9 := Lib.hid (F.out.trans (hb9.mono F.out.size))
            have GG := Lib.hid (World.ownsRow.mono G9 (show w.heap.size ≤ m2 by rw [hm2]; exact F.out.size))
            clear hb9 hf G9 c39
            go_wp2_with fail
            go_ret2
            exact ⟨by unfold PutGot; rw [hbd.out]; exact ⟨A9', c9', rfl, GG.out⟩, F9.out⟩
      | false =>
        rw [hal] at c33
        have HAL := Lib.hid hal
        clear hal
        have HMO : Hid (mb = moreB p) := Lib.hid (by unfold moreB alertB; rw [HAL.out, if_neg (by decide), List.nil_append, HMB.out])
        have HMS : Hid ((mb).length ≤ 16) := Lib.hid (by have := HML.out; omega)
        have RM := R9; have RN := HMN
        have HFB : Hid (firstB p = 44) := Lib.hid (by unfold firstB; rw [HAL.out]; exact HF0.out)
        clear R9 HMN HMB HML HF0 HAL
        go_upto_region 12 with fail
        clear c32 c33 c34 c35 c36 c37 c38 c39
        have c32 := (bk_cell K0.out 32).trans (pkC_hops p A l.length c); have c33 := (bk_cell K0.out 33).trans (pkC_al p A l.length c); have c34 := (bk_cell K0.out 34).trans (pkC_fi p A l.length c); have c35 := (bk_cell K0.out 35).trans (pkC_fid p A l.length c)
        have c36 := (bk_cell K0.out 36).trans (pkC_fo p A l.length c); have c37 := (bk_cell K0.out 37).trans (pkC_fm p A l.length c); have c38 := (bk_cell K0.out 38).trans (pkC_nx p A l.length c); have c39 := (bk_cell K0.out 39).trans (pkC_body p A l.length c)
        obtain ⟨S, hS⟩ : ∃ S, S = (mb).length + l.length := ⟨_, rfl⟩
        have e1 : IntKind.i64.wrap (((mb).length : Int) + (l.length : Int)) = (S : Int) := by rw [IntKind.wrap_i64]; have := HMS.out; omega
        have hSl : S < 2 ^ 40 := by have := HMS.out; omega
        have HSS : Hid (S = (moreB p).length + l.length) := Lib.hid (by rw [hS, HMO.out])
        have hS0 := Lib.hid hS
        clear hS
        by_cases hbig : 65535 < S
        · have d1 : decide ((65535 : Int) < (S : Int)) = true := by simp; omega
          have d2 : decide (65535 < S) = true := by simp; omega
          have hbd : Hid (pkBad p l = true) := Lib.hid (by unfold pkBad; rw [← HSS.out, d2]; rfl)
          go_upto_region 14 with fail
          go_wp2_with fail
          go_ret2
          exact ⟨by unfold PutGot; rw [if_pos hbd.out]; rfl, F.out⟩
        · have d1 : decide ((65535 : Int) < (S : Int)) = false := by simp; omega
          have d2 : decide (65535 < S) = false := by simp; omega
          rw [HFI.out] at c34
          by_cases hfo : 8191 < p.fo
          · have d3 : decide ((8191 : Int) < (p.fo : Int)) = true := by simp; omega
            have d4 : decide (8191 < p.fo) = true := by simp; omega
            have hbd : Hid (pkBad p l = true) := Lib.hid (by unfold pkBad; rw [HFI.out, d4]; simp)
            go_upto_region 14 with fail
            go_wp2_with fail
            go_ret2
            exact ⟨by unfold PutGot; rw [if_pos hbd.out]; rfl, F.out⟩
          · have d3 : decide ((8191 : Int) < (p.fo : Int)) = false := by simp; omega
            have d4 : decide (8191 < p.fo) = false := by simp; omega
            have hbd : Hid (pkBad p l = false) := Lib.hid (by unfold pkBad; rw [← HSS.out, d2, d4]; simp)
            go_upto_region 15 with fail
            clear e1 d1 d2 d3 d4 c33 c34 c35 c36 c37 c38
            have e3 : IntKind.u64.wrap (S : Int) = (S : Int) := by rw [IntKind.wrap_u64]; omega
            obtain ⟨m, hm⟩ : ∃ m, m = (w2).heap.size := ⟨_, rfl⟩
            have lx : x < m := by rw [hm]; exact bk_lt K0.out
            have HMM := Lib.hid hm
            have hmle : m ≤ (w2).heap.size := Nat.le_of_eq hm
            clear hm
            obtain ⟨hd, hhd⟩ : ∃ h, h = [96, 0, 0, 0] ++ nb 2 S ++ [44, p.hops] := ⟨_, rfl⟩
            obtain ⟨M0, hM0⟩ : ∃ M : MadeW m, M = MadeW.row _ (fun b => .slice (some ⟨b, 0, none⟩) 4 4) (List.map B [96, 0, 0, 0]).toArray 5 := ⟨_, rfl⟩
            obtain ⟨M3, hM3⟩ : ∃ M : MadeW m, M = MadeW.rdl _ ([96, 0, 0, 0] ++ nb 2 S) := ⟨_, rfl⟩
            obtain ⟨M7, hM7⟩ : ∃ M : MadeW m, M = MadeW.row _ (fun b => .slice (some ⟨b, 0, none⟩) 2 2) (List.map B [44, p.hops]).toArray 5 := ⟨_, rfl⟩
            obtain ⟨M8, hM8⟩ : ∃ M : MadeW m, M = MadeW.own _ [] hd := ⟨_, rfl⟩
            have H0 := Lib.hid hM0; have H3 := Lib.hid hM3; have H7 := Lib.hid hM7; have H8 := Lib.hid hM8; have HHD := Lib.hid hhd
            clear hM0 hM3 hM7 hM8 hhd
            refine wp_region_e (m) ([.row 0 H0, .rdl 3 H3, .row 7 H7, .own 8 H8]) (fun k => (([(3, [0]), (8, [3, 7])] : List (Nat × List Nat)).lookup k).getD []) (Fs.nil) (by first | omega | (simp <;> omega)) (by kernel_rfl) (by kernel_rfl) (by kernel_rfl) (by kernel_rfl) EnvW.Ini.nil ?_
            refine walkW_mk (fun _ => M0) [] M0 ([]) facts0 (by kernel_rfl) (by kernel_rfl) (by kernel_rfl) rfl rfl (fun w' hb' hg' => ?_) (fun v0 h0 => ?_)
            · unfold madeAtW
              go_simp
              ((refine row_mk (b := w'.heap.size) H0 ((Below.refl _ _).alloc (Nat.le_refl _) _) (show m ≤ w'.heap.size by have := hb'.size; omega) (show m ≤ w'.heap.size by have := hb'.size; omega) ?_; exact bk_alloc_at _ _ _ rfl))
            obtain ⟨b0, m0, rfl⟩ := row_T H0 h0
            simp only [Act.put, List.setIfInBounds_toArray, List.set_cons_succ, List.set_cons_zero, Nat.reduceAdd]
            refine walkW_segn 2 [] facts0 noneHx (by kernel_rfl) (by kernel_rfl) ?_
            simp only [List.take_succ_cons, List.take_zero, List.drop_succ_cons, List.drop_zero, Nat.reduceAdd]
            repeat (go_big_quiet_step (fail))
            (first | refine wpQuiet_nil ?_ | (go_big_quiet_want; (try go_big_quiet_op); trace_state; fail))
            refine walkW_mk (fun _ => M3) [] M3 ([(0, M0.R (.slice (some ⟨b0, 0, none⟩) 4 4))]) (facts1 fun w h => h.1 rfl) (by kernel_rfl) (by kernel_rfl) (by kernel_rfl) rfl rfl (fun w' hb' hg' => ?_) (fun v3 h3 => ?_)
            · unfold madeAtW
              go_simp
              ((have kb := row_R H0 (fun b b' h => by simpa using h) (hg' _ (.head _)); exact rdl_put H3 (l := [96, 0, 0, 0]) (some ⟨b0, 0, none⟩) 4 S 2 2 rfl rfl w' (Rd.of_bk (L := [96, 0, 0, 0]) kb (bk_lt kb) (fun j h => by simp [List.getElem?_eq_getElem h])) (fun h => by cases h) (by simp) (by omega) (by omega) (by have := hb'.size; omega)))
            obtain ⟨g3, rfl⟩ := rdl_T H3 h3
            simp only [Act.put, List.setIfInBounds_toArray, List.set_cons_succ, List.set_cons_zero, Nat.reduceAdd]
            refine walkW_segn 3 [] facts0 noneHx (by kernel_rfl) (by kernel_rfl) ?_
            simp only [List.take_succ_cons, List.take_zero, List.drop_succ_cons, List.drop_zero, Nat.reduceAdd]
            repeat (go_big_quiet_step (fail))
            (first | refine wpQuiet_nil ?_ | (go_big_quiet_want; (try go_big_quiet_op); trace_state; fail))
            refine walkW_mk (fun _ => M7) [] M7 ([]) facts0 (by kernel_rfl) (by kernel_rfl) (by kernel_rfl) rfl rfl (fun w' hb' hg' => ?_) (fun v7 h7 => ?_)
            · unfold madeAtW
              go_simp
              ((refine row_mk (b := w'.heap.size) H7 ((Below.refl _ _).alloc (Nat.le_refl _) _) (show m ≤ w'.heap.size by have := hb'.size; omega) (show m ≤ w'.heap.size by have := hb'.size; omega) ?_; exact bk_alloc_at _ _ _ rfl))
            obtain ⟨b7, m7, rfl⟩ := row_T H7 h7
            simp only [Act.put, List.setIfInBounds_toArray, List.set_cons_succ, List.set_cons_zero, Nat.reduceAdd]
            refine walkW_mk (fun _ => M8) [] M8 ([(3, M3.R (.slice (some ⟨g3, 0, none⟩) ([96, 0, 0, 0] ++ nb 2 S).length ([96, 0, 0, 0] ++ nb 2 S).length)), (7, M7.R (.slice (some ⟨b7, 0, none⟩) 2 2))]) (facts2 (fun w h => h.2.1 rfl) (fun w h => h.1 rfl)) (by kernel_rfl) (by kernel_rfl) (by kernel_rfl) rfl rfl (fun w' hb' hg' => ?_) (fun v8 h8 => ?_)
            · ((have kb := row_R H7 (fun b b' h => by simpa using h) (hg' _ (.tail _ (.head _))); exact grow_mk rfl H8 (l1 := [96, 0, 0, 0] ++ nb 2 S) (l2 := [44, p.hops]) HHD.out rfl (rdl_R H3 (hg' _ (.head _))) rfl (Rd.of_bk (L := [44, p.hops]) kb (bk_lt kb) (fun j h => by simp [List.getElem?_eq_getElem h])) (by simp) (by simp [nb_length]) (by have := hb'.size; omega)))
            obtain ⟨A8, c8, rfl, n8, le8⟩ := own_T H8 h8
            simp only [Act.put, List.setIfInBounds_toArray, List.set_cons_succ, List.set_cons_zero, Nat.reduceAdd]
            refine walkW_segn 1 [] facts0 noneHx (by kernel_rfl) (by kernel_rfl) ?_
            simp only [List.take_succ_cons, List.take_zero, List.drop_succ_cons, List.drop_zero, Nat.reduceAdd]
            repeat (go_big_quiet_step (fail))
            (first | refine wpQuiet_nil ?_ | (go_big_quiet_want; (try go_big_quiet_op); trace_state; fail))
            refine walkW_nil ?_
            intro w8 b8 hf
            have ho8 := own_R H8 ((hf 8 (by kernel_rfl)).1 rfl)
            obtain ⟨_, _, eq8, hR8, _, _⟩ := Rd.of_own ho8 rfl
            cases eq8
            rw [HMM.out] at b8
            replace K0 := Lib.hid (bk_keep b8 (bk_lt K0.out) K0.out)
            replace HR := Lib.hid ((HR.out.below b8 (Nat.le_refl _)).mono b8.size)
            replace RM := Lib.hid ((RM.out.below b8 (Nat.le_refl _)).mono b8.size)
            replace F := Lib.hid (F.out.trans (b8.mono F.out.size))
            have R8 := Lib.hid hR8; have N8 := Lib.hid n8
            clear b8 hf ho8 hR8 c32 c39 e3 lx hmle
            have c39 := (bk_cell K0.out 39).trans (pkC_body p A l.length c)
            have lx := bk_lt K0.out
            go_upto_region 16 with fail
            obtain ⟨m2, hm2⟩ : ∃ m, m = w8.heap.size := ⟨_, rfl⟩
            rw [← hm2] at lx
            obtain ⟨Mr, hMr⟩ : ∃ M : Made m2, M = Made.row m2 (fun b => .slice (some ⟨b, 0, none⟩) 5 5) (.cells #[.slice A8 hd.length c8, .slice (some ⟨x, 0, none⟩) 16 16, .slice (some ⟨x, 16, none⟩) 16 16, .slice A9 (mb).length c9, .slice A l.length c] 28 (0, 0)) := ⟨_, rfl⟩
            have hPL : (pkB p l).length < 2 ^ 40 := by unfold pkB; rw [List.length_append, List.length_append, List.length_append, List.length_append, List.length_append, List.length_append, nb_length, p.hs, p.hd, ← HMO.out]; have := HMS.out; simp only [List.length_cons, List.length_nil]; omega
            obtain ⟨Mg, hMg⟩ : ∃ M : Made m2, M = Made.ow m2 (pkB p l) hPL := ⟨_, rfl⟩
            have Hr := Lib.hid hMr; have Hg := Lib.hid hMg
            clear hMr hMg
            refine wp_region_made (m2) (fun k => ([(8, Mr), (9, Mg)] : List (Nat × Made m2)).lookup k) (by first | omega | (simp <;> omega)) (by kernel_rfl) (by kernel_rfl) ?_
            refine walk_segn 8 ([]) facts0 (by kernel_rfl) (by kernel_rfl) ?_
            simp only [List.take_succ_cons, List.take_zero, List.drop_succ_cons, List.drop_zero, Nat.reduceAdd]
            repeat (go_big_quiet_step (fail))
            (first | refine wpQuiet_nil ?_ | (go_big_quiet_want; (try go_big_quiet_op); trace_state; fail))
            refine walk_mkop Mr ([]) facts0 (by kernel_rfl) (by kernel_rfl) (by kernel_rfl) (fun w' hb' hg' => ?_) (fun v _ hAt => ?_)
            · unfold madeAt
              go_simp
              ((exact row_box Hr (by have := hb'.size; omega)))
            obtain ⟨br, hmbr, rfl, hnbr, hibr, rb⟩ := made_at Hr (by intro b b' h; simpa using h) 8 hAt
            clear hAt
            simp only [Act.put, List.setIfInBounds_toArray, List.set_cons_succ, List.set_cons_zero, Nat.reduceAdd]
            refine walk_mkop Mg [(8, Mr.R (.slice (some ⟨br, 0, none⟩) 5 5))] (facts1 fun w h => h.1 rfl) (by kernel_rfl) (by kernel_rfl) (by kernel_rfl) (fun w' hb' hg' => ?_) (fun v hT hAt => ?_)
            · unfold madeAt
              go_simp
              have kb := rb w' (hg' _ (List.mem_singleton.2 rfl))
              have k0' := bk_keep hb' lx K0.out
              have hsz := hb'.size
              have hs16 := p.hs; have hd16 := p.hd
              have hhl : hd.length = 8 := by rw [HHD.out]; simp [nb_length]
              have hfl : flat [(A8, hd, c8), (some ⟨x, 0, none⟩, p.src, 16), (some ⟨x, 16, none⟩, p.dst, 16), (A9, mb, c9), (A, l, c)] = pkB p l := by
                unfold pkB
                rw [HFB.out, ← HSS.out, ← HHD.out, ← HMO.out]
                simp [flat]
              have hln : (pkB p l).length = 40 + S := by rw [← hfl, hS0.out]; simp [flat, hhl, hs16, hd16]; omega
              have CC := concat_any br [(A8, hd, c8), (some ⟨x, 0, none⟩, p.src, 16), (some ⟨x, 16, none⟩, p.dst, 16), (A9, mb, c9), (A, l, c)] 28 (0, 0) w' (by rw [kb]; simp [Src.v, hs16, hd16]) (fun q hq => by
                simp only [List.mem_cons, List.not_mem_nil, or_false] at hq
                rcases hq with rfl | rfl | rfl | rfl | rfl
                · exact ⟨(R8.out.below (by rw [← hm2]; exact hb') (Nat.le_refl _)).mono (by omega), N8.out⟩
                · exact ⟨Rd.src k0' (bk_lt k0'), fun h => by cases h⟩
                · exact ⟨Rd.dst k0' (bk_lt k0'), fun h => by cases h⟩
                · exact ⟨(RM.out.below (by rw [← hm2]; exact hb') (Nat.le_refl _)).mono (by omega), RN.out⟩
                · exact ⟨(HR.out.below (by rw [← hm2]; exact hb') (Nat.le_refl _)).mono (by omega), HA.out⟩) (by rw [hfl, hln]; omega) (by simp)
              rw [hfl] at CC
              refine CC.mono ?_
              rintro e w9 ⟨v9, rfl, ho9, b9⟩
              obtain ⟨A9', c9', rfl, _, _, hle9⟩ := Rd.of_own ho9 rfl
              exact ow_end Hg b9 (World.ownsRow.mono ho9 (by omega))
            obtain ⟨A9', c9', rfl⟩ := ow_T Hg hT
            clear hT hAt
            simp only [Act.put, List.setIfInBounds_toArray, List.set_cons_succ, List.set_cons_zero, Nat.reduceAdd]
            refine walk_segn 2 ([]) facts0 (by kernel_rfl) (by kernel_rfl) ?_
            simp only [List.take_succ_cons, List.take_zero, List.drop_succ_cons, List.drop_zero, Nat.reduceAdd]
            repeat (go_big_quiet_step (fail))
            (first | refine wpQuiet_nil ?_ | (go_big_quiet_want; (try go_big_quiet_op); trace_state; fail))
            refine walk_nil ?_
            intro w9 hb9 hf
            have G9 := ow_R Hg ((hf 9).1 rfl)
            rw [hm2] at hb9
            have F9 := Lib.hid (F.out.trans (hb9.mono F.out.size))
            have GG := Lib.hid (World.ownsRow.mono G9 (show w.heap.size ≤ m2 by rw [hm2]; exact F.out.size))
            clear hb9 hf G9 c39
            go_wp2_with fail
            go_ret2
            exact ⟨by unfold PutGot; rw [hbd.out]; exact ⟨A9', c9', rfl, GG.out⟩, F9.out⟩
    | false =>
      rw [hfm] at c37
      obtain ⟨W, hW⟩ : ∃ W, W = y := ⟨_, rfl⟩
      have HW : Hid (W = pword p) := Lib.hid (by unfold pword; rw [hfm, hW, HY.out]; rfl)
      have hW64 : W < 2 ^ 64 := by omega
      rw [← hW] at f2 f2' hy20 HY
      clear hfm hW y
      go_upto_region 8 with fail
      clear f1 f2 f2' c36 c37
      obtain ⟨m, hm⟩ : ∃ m, m = w1.heap.size := ⟨_, rfl⟩
      rw [← hm] at l0
      obtain ⟨M2, hM2⟩ : ∃ M : Made m, M = Made.row m (fun b => .slice (some ⟨b, 0, none⟩) 2 2) (.cells (List.map B [p.nx, 0]).toArray 5 (0, 0)) := ⟨_, rfl⟩
      obtain ⟨M4, hM4⟩ : ∃ M : Made m, M = Made.sl m ([p.nx, 0] ++ nb 2 W) := ⟨_, rfl⟩
      obtain ⟨M9, hM9⟩ : ∃ M : Made m, M = Made.sl m ([p.nx, 0] ++ nb 2 W ++ nb 4 p.fid) := ⟨_, rfl⟩
      have H2 := Lib.hid hM2; have H4 := Lib.hid hM4; have H9 := Lib.hid hM9
      clear hM2 hM4 hM9
      refine wp_region_made (m) (fun k => ([(2, M2), (4, M4), (9, M9)] : List (Nat × Made m)).lookup k) (by first | omega | (simp <;> omega)) (by kernel_rfl) (by kernel_rfl) ?_
      refine walk_segn 2 ([]) facts0 (by kernel_rfl) (by kernel_rfl) ?_
      simp only [List.take_succ_cons, List.take_zero, List.drop_succ_cons, List.drop_zero, Nat.reduceAdd]
      repeat (go_big_quiet_step (fail))
      (first | refine wpQuiet_nil ?_ | (go_big_quiet_want; (try go_big_quiet_op); trace_state; fail))
      refine walk_mkop M2 ([]) facts0 (by kernel_rfl) (by kernel_rfl) (by kernel_rfl) (fun w' hb' hg' => ?_) (fun v _ hAt => ?_)
      · unfold madeAt
        go_simp
        ((exact row_box H2 (by have := hb'.size; omega)))
      obtain ⟨b2, hmb2, rfl, hnb2, hib2, rb⟩ := made_at H2 (by intro b b' h; simpa using h) 2 hAt
      clear hAt
      simp only [Act.put, List.setIfInBounds_toArray, List.set_cons_succ, List.set_cons_zero, Nat.reduceAdd]
      refine walk_segn 1 ([]) facts0 (by kernel_rfl) (by kernel_rfl) ?_
      simp only [List.take_succ_cons, List.take_zero, List.drop_succ_cons, List.drop_zero, Nat.reduceAdd]
      repeat (go_big_quiet_step (fail))
      (first | refine wpQuiet_nil ?_ | (go_big_quiet_want; (try go_big_quiet_op); trace_state; fail))
      refine walk_mkop M4 ([(2, M2.R (.slice (some ⟨b2, 0, none⟩) 2 2))]) (facts1 fun w h => h.1 rfl) (by kernel_rfl) (by kernel_rfl) (by kernel_rfl) (fun w' hb' hg' => ?_) (fun v hTA4 hAt => ?_)
      · unfold madeAt
        go_simp
        ((have kb := rb w' (hg' _ (List.mem_singleton.2 rfl)); refine (put_sl (some ⟨b2, 0, none⟩) [p.nx, 0] 2 W 2 2 rfl w' (Rd.of_bk (L := [p.nx, 0]) kb (bk_lt kb) (fun j h => by simp [List.getElem?_eq_getElem h])) (fun h => by cases h) (by simp) hW64 (by omega)).mono ?_; rintro e w4 ⟨g, rfl, hr, hb⟩; exact sl_end H4 hb hr))
      obtain ⟨A4, c4, rfl⟩ := sl_T H4 hTA4
      clear hTA4 hAt
      simp only [Act.put, List.setIfInBounds_toArray, List.set_cons_succ, List.set_cons_zero, Nat.reduceAdd]
      refine walk_segn 4 ([]) facts0 (by kernel_rfl) (by kernel_rfl) ?_
      simp only [List.take_succ_cons, List.take_zero, List.drop_succ_cons, List.drop_zero, Nat.reduceAdd]
      repeat (go_big_quiet_step (fail))
      (first | refine wpQuiet_nil ?_ | (go_big_quiet_want; (try go_big_quiet_op); trace_state; fail))
      refine walk_mkop M9 ([(4, M4.R (.slice A4 ([p.nx, 0] ++ nb 2 W).length c4))]) (facts1 fun w h => h.1 rfl) (by kernel_rfl) (by kernel_rfl) (by kernel_rfl) (fun w' hb' hg' => ?_) (fun v hTA9 hAt => ?_)
      · unfold madeAt
        go_simp
        ((have hr4 := (sl_R H4 (hg' _ (List.mem_singleton.2 rfl))).2; refine (put_sl A4 ([p.nx, 0] ++ nb 2 W) c4 p.fid 4 4 rfl w' hr4 (rd_nn hr4 (by simp)) (by simp [nb_length]) (by omega) (by omega)).mono ?_; rintro e w5 ⟨g, rfl, hr, hb⟩; exact sl_end H9 hb hr))
      obtain ⟨A9, c9, rfl⟩ := sl_T H9 hTA9
      clear hTA9 hAt
      simp only [Act.put, List.setIfInBounds_toArray, List.set_cons_succ, List.set_cons_zero, Nat.reduceAdd]
      refine walk_segn 1 ([]) facts0 (by kernel_rfl) (by kernel_rfl) ?_
      simp only [List.take_succ_cons, List.take_zero, List.drop_succ_cons, List.drop_zero, Nat.reduceAdd]
      repeat (go_big_quiet_step (fail))
      (first | refine wpQuiet_nil ?_ | (go_big_quiet_want; (try go_big_quiet_op); trace_state; fail))
      refine walk_nil ?_
      intro w2 hb2 hf
      have R9 := Lib.hid (sl_R H9 ((hf 9).1 rfl)).2
      rw [hm] at hb2
      replace K0 := Lib.hid (bk_keep hb2 (bk_lt K0.out) K0.out)
      replace HR := Lib.hid ((HR.out.below hb2 (Nat.le_refl _)).mono hb2.size)
      replace F := Lib.hid (F.out.trans (hb2.mono F.out.size))
      obtain ⟨mb, hmb⟩ : ∃ mb, mb = [p.nx, 0] ++ nb 2 W ++ nb 4 p.fid := ⟨_, rfl⟩
      rw [← hmb] at R9 ⊢
      have HMB : Hid (mb = fragB p) := Lib.hid (by unfold fragB; rw [HFI.out, if_pos rfl, ← HW.out]; exact hmb)
      have HML : Hid (mb.length ≤ 8) := Lib.hid (by rw [hmb]; simp [nb_length])
      have HMN := Lib.hid (rd_nn (c := c9) R9.out (by rw [hmb]; simp))
      have HF0 : Hid (first0 p = 44) := Lib.hid (by unfold first0; rw [HFI.out]; rfl)
      clear hb2 hf hmb rb c32 c33 c34 c35 c38 c39 hm f3 HW HY hW64
      have l0 := bk_lt K0.out
      have c32 := (bk_cell K0.out 32).trans (pkC_hops p A l.length c); have c33 := (bk_cell K0.out 33).trans (pkC_al p A l.length c); have c34 := (bk_cell K0.out 34).trans (pkC_fi p A l.length c); have c35 := (bk_cell K0.out 35).trans (pkC_fid p A l.length c)
      have c36 := (bk_cell K0.out 36).trans (pkC_fo p A l.length c); have c37 := (bk_cell K0.out 37).trans (pkC_fm p A l.length c); have c38 := (bk_cell K0.out 38).trans (pkC_nx p A l.length c); have c39 := (bk_cell K0.out 39).trans (pkC_body p A l.length c)
      cases hal : p.al with
      | true =>
        rw [hal] at c33
        have HAL := Lib.hid hal
        clear hal
        have a2 : Below (w2).heap.size (w2) (((w2).alloc (.cells (List.map B [44, 0, 5, 2, 0, 0, 1, 0]).toArray 5 (0, 0))).alloc (.cells #[.slice (some ⟨(w2).heap.size, 0, none⟩) 8 8, .slice A9 (mb).length c9] 28 (0, 0))) := by
          (repeat (first | exact Below.refl _ _ | assumption | refine Below.drew ?_ | refine bdrewN ?_ _ | refine Below.alloc ?_ (by first | omega | (simp <;> omega) | (simp only [World.size_alloc] <;> omega)) _ | refine below_setRow ?_ (by first | omega | (simp <;> omega)) _ | refine Below.setCell ?_ (by first | omega | (simp <;> omega)) _))
        have k2 : bk (((w2).alloc (.cells (List.map B [44, 0, 5, 2, 0, 0, 1, 0]).toArray 5 (0, 0))).alloc (.cells #[.slice (some ⟨(w2).heap.size, 0, none⟩) 8 8, .slice A9 (mb).length c9] 28 (0, 0))) (w2).heap.size = some (.cells (List.map B [44, 0, 5, 2, 0, 0, 1, 0]).toArray 5 (0, 0)) := (bk_alloc_past _ _ _ (by simp)).trans (bk_alloc_at _ _ _ rfl)
        have k3 : bk (((w2).alloc (.cells (List.map B [44, 0, 5, 2, 0, 0, 1, 0]).toArray 5 (0, 0))).alloc (.cells #[.slice (some ⟨(w2).heap.size, 0, none⟩) 8 8, .slice A9 (mb).length c9] 28 (0, 0))) ((w2).heap.size + 1) = some (.cells #[.slice (some ⟨(w2).heap.size, 0, none⟩) 8 8, .slice A9 (mb).length c9] 28 (0, 0)) := bk_alloc_at _ _ _ (by simp)
        obtain ⟨al8, hal8⟩ : ∃ a : List UInt8, a = [44, 0, 5, 2, 0, 0, 1, 0] := ⟨_, rfl⟩
        have h8l : al8.length = 8 := by rw [hal8]; rfl
        have CC := concat_any ((w2).heap.size + 1) [(some ⟨(w2).heap.size, 0, none⟩, al8, 8), (A9, mb, c9)] 28 (0, 0) _ (by rw [k3]; simp [Src.v, h8l]) (fun q hq => by
          simp only [List.mem_cons, List.not_mem_nil, or_false] at hq
          rcases hq with rfl | rfl
          · exact ⟨Rd.of_bk (L := al8) (by rw [hal8]; exact k2) (bk_lt k2) (fun j h => by rw [Nat.zero_add]; exact List.getElem?_eq_getElem h), fun h => by cases h⟩
          · exact ⟨(R9.out.below a2 (Nat.le_refl _)).mono a2.size, HMN.out⟩) (by have := HML.out; simp only [flat, List.map_cons, List.map_nil, List.flatten_cons, List.flatten_nil, List.length_append, List.length_nil, h8l] at this ⊢; omega) (by simp)
        have hfl : flat [(some ⟨(w2).heap.size, 0, none⟩, al8, 8), (A9, mb, c9)] = al8 ++ mb := by simp [flat]
        rw [hfl] at CC
        have HC := Lib.hid CC
        have HAA := Lib.hid (And.intro a2 hal8)
        clear CC a2 k2 k3 hfl hal8
        go_wp2_with fail
        refine HC.out.mono ?_
        rintro e w7 ⟨v7, rfl, ho7, b7⟩
        have b77 := HAA.out.1.trans (b7.mono HAA.out.1.size)
        obtain ⟨ms, hms⟩ : ∃ m, m = al8 ++ mb := ⟨_, rfl⟩
        rw [← hms] at ho7
        obtain ⟨A7, c7, rfl, hR7, hN7, _⟩ := Rd.of_own ho7 rfl
        have HMO : Hid (ms = moreB p) := Lib.hid (by rw [hms, HAA.out.2]; unfold moreB alertB; rw [HAL.out, if_pos rfl, HF0.out, HMB.out])
        have HMS : Hid (ms.length ≤ 16) := Lib.hid (by rw [hms, List.length_append, h8l]; have := HML.out; omega)
        have RM := Lib.hid hR7; have RN := Lib.hid hN7
        replace K0 := Lib.hid (bk_keep b77 (bk_lt K0.out) K0.out)
        replace HR := Lib.hid ((HR.out.below b77 (Nat.le_refl _)).mono b77.size)
        replace F := Lib.hid (F.out.trans (b77.mono F.out.size))
        have HFB : Hid (firstB p = 0) := Lib.hid (by unfold firstB; rw [HAL.out]; rfl)
        clear HC HAA ho7 b7 b77 hR7 hN7 hms h8l R9 HMN HMB HML HF0 HAL c32 c33 c34 c35 c36 c37 c38 c39 l0
        go_upto_region 12 with fail
        have c32 := (bk_cell K0.out 32).trans (pkC_hops p A l.length c); have c33 := (bk_cell K0.out 33).trans (pkC_al p A l.length c); have c34 := (bk_cell K0.out 34).trans (pkC_fi p A l.length c); have c35 := (bk_cell K0.out 35).trans (pkC_fid p A l.length c)
        have c36 := (bk_cell K0.out 36).trans (pkC_fo p A l.length c); have c37 := (bk_cell K0.out 37).trans (pkC_fm p A l.length c); have c38 := (bk_cell K0.out 38).trans (pkC_nx p A l.length c); have c39 := (bk_cell K0.out 39).trans (pkC_body p A l.length c)
        obtain ⟨S, hS⟩ : ∃ S, S = (ms).length + l.length := ⟨_, rfl⟩
        have e1 : IntKind.i64.wrap (((ms).length : Int) + (l.length : Int)) = (S : Int) := by rw [IntKind.wrap_i64]; have := HMS.out; omega
        have hSl : S < 2 ^ 40 := by have := HMS.out; omega
        have HSS : Hid (S = (moreB p).length + l.length) := Lib.hid (by rw [hS, HMO.out])
        have hS0 := Lib.hid hS
        clear hS
        by_cases hbig : 65535 < S
        · have d1 : decide ((65535 : Int) < (S : Int)) = true := by simp; omega
          have d2 : decide (65535 < S) = true := by simp; omega
          have hbd : Hid (pkBad p l = true) := Lib.hid (by unfold pkBad; rw [← HSS.out, d2]; rfl)
          go_upto_region 14 with fail
          go_wp2_with fail
          go_ret2
          exact ⟨by unfold PutGot; rw [if_pos hbd.out]; rfl, F.out⟩
        · have d1 : decide ((65535 : Int) < (S : Int)) = false := by simp; omega
          have d2 : decide (65535 < S) = false := by simp; omega
          rw [HFI.out] at c34
          by_cases hfo : 8191 < p.fo
          · have d3 : decide ((8191 : Int) < (p.fo : Int)) = true := by simp; omega
            have d4 : decide (8191 < p.fo) = true := by simp; omega
            have hbd : Hid (pkBad p l = true) := Lib.hid (by unfold pkBad; rw [HFI.out, d4]; simp)
            go_upto_region 14 with fail
            go_wp2_with fail
            go_ret2
            exact ⟨by unfold PutGot; rw [if_pos hbd.out]; rfl, F.out⟩
          · have d3 : decide ((8191 : Int) < (p.fo : Int)) = false := by simp; omega
            have d4 : decide (8191 < p.fo) = false := by simp; omega
            have hbd : Hid (pkBad p l = false) := Lib.hid (by unfold pkBad; rw [← HSS.out, d2, d4]; simp)
            go_upto_region 15 with fail
            clear e1 d1 d2 d3 d4 c33 c34 c35 c36 c37 c38
            have e3 : IntKind.u64.wrap (S : Int) = (S : Int) := by rw [IntKind.wrap_u64]; omega
            obtain ⟨m, hm⟩ : ∃ m, m = (w7).heap.size := ⟨_, rfl⟩
            have lx : x < m := by rw [hm]; exact bk_lt K0.out
            have HMM := Lib.hid hm
            have hmle : m ≤ (w7).heap.size := Nat.le_of_eq hm
            clear hm
            obtain ⟨hd, hhd⟩ : ∃ h, h = [96, 0, 0, 0] ++ nb 2 S ++ [0, p.hops] := ⟨_, rfl⟩
            obtain ⟨M0, hM0⟩ : ∃ M : MadeW m, M = MadeW.row _ (fun b => .slice (some ⟨b, 0, none⟩) 4 4) (List.map B [96, 0, 0, 0]).toArray 5 := ⟨_, rfl⟩
            obtain ⟨M3, hM3⟩ : ∃ M : MadeW m, M = MadeW.rdl _ ([96, 0, 0, 0] ++ nb 2 S) := ⟨_, rfl⟩
            obtain ⟨M7, hM7⟩ : ∃ M : MadeW m, M = MadeW.row _ (fun b => .slice (some ⟨b, 0, none⟩) 2 2) (List.map B [0, p.hops]).toArray 5 := ⟨_, rfl⟩
            obtain ⟨M8, hM8⟩ : ∃ M : MadeW m, M = MadeW.own _ [] hd := ⟨_, rfl⟩
            have H0 := Lib.hid hM0; have H3 := Lib.hid hM3; have H7 := Lib.hid hM7; have H8 := Lib.hid hM8; have HHD := Lib.hid hhd
            clear hM0 hM3 hM7 hM8 hhd
            refine wp_region_e (m) ([.row 0 H0, .rdl 3 H3, .row 7 H7, .own 8 H8]) (fun k => (([(3, [0]), (8, [3, 7])] : List (Nat × List Nat)).lookup k).getD []) (Fs.nil) (by first | omega | (simp <;> omega)) (by kernel_rfl) (by kernel_rfl) (by kernel_rfl) (by kernel_rfl) EnvW.Ini.nil ?_
            refine walkW_mk (fun _ => M0) [] M0 ([]) facts0 (by kernel_rfl) (by kernel_rfl) (by kernel_rfl) rfl rfl (fun w' hb' hg' => ?_) (fun v0 h0 => ?_)
            · unfold madeAtW
              go_simp
              ((refine row_mk (b := w'.heap.size) H0 ((Below.refl _ _).alloc (Nat.le_refl _) _) (show m ≤ w'.heap.size by have := hb'.size; omega) (show m ≤ w'.heap.size by have := hb'.size; omega) ?_; exact bk_alloc_at _ _ _ rfl))
            obtain ⟨b0, m0, rfl⟩ := row_T H0 h0
            simp only [Act.put, List.setIfInBounds_toArray, List.set_cons_succ, List.set_cons_zero, Nat.reduceAdd]
            refine walkW_segn 2 [] facts0 noneHx (by kernel_rfl) (by kernel_rfl) ?_
            simp only [List.take_succ_cons, List.take_zero, List.drop_succ_cons, List.drop_zero, Nat.reduceAdd]
            repeat (go_big_quiet_step (fail))
            (first | refine wpQuiet_nil ?_ | (go_big_quiet_want; (try go_big_quiet_op); trace_state; fail))
            refine walkW_mk (fun _ => M3) [] M3 ([(0, M0.R (.slice (some ⟨b0, 0, none⟩) 4 4))]) (facts1 fun w h => h.1 rfl) (by kernel_rfl) (by kernel_rfl) (by kernel_rfl) rfl rfl (fun w' hb' hg' => ?_) (fun v3 h3 => ?_)
            · unfold madeAtW
              go_simp
              ((have kb := row_R H0 (fun b b' h => by simpa using h) (hg' _ (.head _)); exact rdl_put H3 (l := [96, 0, 0, 0]) (some ⟨b0, 0, none⟩) 4 S 2 2 rfl rfl w' (Rd.of_bk (L := [96, 0, 0, 0]) kb (bk_lt kb) (fun j h => by simp [List.getElem?_eq_getElem h])) (fun h => by cases h) (by simp) (by omega) (by omega) (by have := hb'.size; omega)))
            obtain ⟨g3, rfl⟩ := rdl_T H3 h3
            simp only [Act.put, List.setIfInBounds_toArray, List.set_cons_succ, List.set_cons_zero, Nat.reduceAdd]
            refine walkW_segn 3 [] facts0 noneHx (by kernel_rfl) (by kernel_rfl) ?_
            simp only [List.take_succ_cons, List.take_zero, List.drop_succ_cons, List.drop_zero, Nat.reduceAdd]
            repeat (go_big_quiet_step (fail))
            (first | refine wpQuiet_nil ?_ | (go_big_quiet_want; (try go_big_quiet_op); trace_state; fail))
            refine walkW_mk (fun _ => M7) [] M7 ([]) facts0 (by kernel_rfl) (by kernel_rfl) (by kernel_rfl) rfl rfl (fun w' hb' hg' => ?_) (fun v7 h7 => ?_)
            · unfold madeAtW
              go_simp
              ((refine row_mk (b := w'.heap.size) H7 ((Below.refl _ _).alloc (Nat.le_refl _) _) (show m ≤ w'.heap.size by have := hb'.size; omega) (show m ≤ w'.heap.size by have := hb'.size; omega) ?_; exact bk_alloc_at _ _ _ rfl))
            obtain ⟨b7, m7, rfl⟩ := row_T H7 h7
            simp only [Act.put, List.setIfInBounds_toArray, List.set_cons_succ, List.set_cons_zero, Nat.reduceAdd]
            refine walkW_mk (fun _ => M8) [] M8 ([(3, M3.R (.slice (some ⟨g3, 0, none⟩) ([96, 0, 0, 0] ++ nb 2 S).length ([96, 0, 0, 0] ++ nb 2 S).length)), (7, M7.R (.slice (some ⟨b7, 0, none⟩) 2 2))]) (facts2 (fun w h => h.2.1 rfl) (fun w h => h.1 rfl)) (by kernel_rfl) (by kernel_rfl) (by kernel_rfl) rfl rfl (fun w' hb' hg' => ?_) (fun v8 h8 => ?_)
            · ((have kb := row_R H7 (fun b b' h => by simpa using h) (hg' _ (.tail _ (.head _))); exact grow_mk rfl H8 (l1 := [96, 0, 0, 0] ++ nb 2 S) (l2 := [0, p.hops]) HHD.out rfl (rdl_R H3 (hg' _ (.head _))) rfl (Rd.of_bk (L := [0, p.hops]) kb (bk_lt kb) (fun j h => by simp [List.getElem?_eq_getElem h])) (by simp) (by simp [nb_length]) (by have := hb'.size; omega)))
            obtain ⟨A8, c8, rfl, n8, le8⟩ := own_T H8 h8
            simp only [Act.put, List.setIfInBounds_toArray, List.set_cons_succ, List.set_cons_zero, Nat.reduceAdd]
            refine walkW_segn 1 [] facts0 noneHx (by kernel_rfl) (by kernel_rfl) ?_
            simp only [List.take_succ_cons, List.take_zero, List.drop_succ_cons, List.drop_zero, Nat.reduceAdd]
            repeat (go_big_quiet_step (fail))
            (first | refine wpQuiet_nil ?_ | (go_big_quiet_want; (try go_big_quiet_op); trace_state; fail))
            refine walkW_nil ?_
            intro w8 b8 hf
            have ho8 := own_R H8 ((hf 8 (by kernel_rfl)).1 rfl)
            obtain ⟨_, _, eq8, hR8, _, _⟩ := Rd.of_own ho8 rfl
            cases eq8
            rw [HMM.out] at b8
            replace K0 := Lib.hid (bk_keep b8 (bk_lt K0.out) K0.out)
            replace HR := Lib.hid ((HR.out.below b8 (Nat.le_refl _)).mono b8.size)
            replace RM := Lib.hid ((RM.out.below b8 (Nat.le_refl _)).mono b8.size)
            replace F := Lib.hid (F.out.trans (b8.mono F.out.size))
            have R8 := Lib.hid hR8; have N8 := Lib.hid n8
            clear b8 hf ho8 hR8 c32 c39 e3 lx hmle
            have c39 := (bk_cell K0.out 39).trans (pkC_body p A l.length c)
            have lx := bk_lt K0.out
            go_upto_region 16 with fail
            obtain ⟨m2, hm2⟩ : ∃ m, m = w8.heap.size := ⟨_, rfl⟩
            rw [← hm2] at lx
            obtain ⟨Mr, hMr⟩ : ∃ M : Made m2, M = Made.row m2 (fun b => .slice (some ⟨b, 0, none⟩) 5 5) (.cells #[.slice A8 hd.length c8, .slice (some ⟨x, 0, none⟩) 16 16, .slice (some ⟨x, 16, none⟩) 16 16, .slice A7 (ms).length c7, .slice A l.length c] 28 (0, 0)) := ⟨_, rfl⟩
            have hPL : (pkB p l).length < 2 ^ 40 := by unfold pkB; rw [List.length_append, List.length_append, List.length_append, List.length_append, List.length_append, List.length_append, nb_length, p.hs, p.hd, ← HMO.out]; have := HMS.out; simp only [List.length_cons, List.length_nil]; omega
            obtain ⟨Mg, hMg⟩ : ∃ M : Made m2, M = Made.ow m2 (pkB p l) hPL := ⟨_, rfl⟩
            have Hr := Lib.hid hMr; have Hg := Lib.hid hMg
            clear hMr hMg
            refine wp_region_made (m2) (fun k => ([(8, Mr), (9, Mg)] : List (Nat × Made m2)).lookup k) (by first | omega | (simp <;> omega)) (by kernel_rfl) (by kernel_rfl) ?_
            refine walk_segn 8 ([]) facts0 (by kernel_rfl) (by kernel_rfl) ?_
            simp only [List.take_succ_cons, List.take_zero, List.drop_succ_cons, List.drop_zero, Nat.reduceAdd]
            repeat (go_big_quiet_step (fail))
            (first | refine wpQuiet_nil ?_ | (go_big_quiet_want; (try go_big_quiet_op); trace_state; fail))
            refine walk_mkop Mr ([]) facts0 (by kernel_rfl) (by kernel_rfl) (by kernel_rfl) (fun w' hb' hg' => ?_) (fun v _ hAt => ?_)
            · unfold madeAt
              go_simp
              ((exact row_box Hr (by have := hb'.size; omega)))
            obtain ⟨br, hmbr, rfl, hnbr, hibr, rb⟩ := made_at Hr (by intro b b' h; simpa using h) 8 hAt
            clear hAt
            simp only [Act.put, List.setIfInBounds_toArray, List.set_cons_succ, List.set_cons_zero, Nat.reduceAdd]
            refine walk_mkop Mg [(8, Mr.R (.slice (some ⟨br, 0, none⟩) 5 5))] (facts1 fun w h => h.1 rfl) (by kernel_rfl) (by kernel_rfl) (by kernel_rfl) (fun w' hb' hg' => ?_) (fun v hT hAt => ?_)
            · unfold madeAt
              go_simp
              have kb := rb w' (hg' _ (List.mem_singleton.2 rfl))
              have k0' := bk_keep hb' lx K0.out
              have hsz := hb'.size
              have hs16 := p.hs; have hd16 := p.hd
              have hhl : hd.length = 8 := by rw [HHD.out]; simp [nb_length]
              have hfl : flat [(A8, hd, c8), (some ⟨x, 0, none⟩, p.src, 16), (some ⟨x, 16, none⟩, p.dst, 16), (A7, ms, c7), (A, l, c)] = pkB p l := by
                unfold pkB
                rw [HFB.out, ← HSS.out, ← HHD.out, ← HMO.out]
                simp [flat]
              have hln : (pkB p l).length = 40 + S := by rw [← hfl, hS0.out]; simp [flat, hhl, hs16, hd16]; omega
              have CC := concat_any br [(A8, hd, c8), (some ⟨x, 0, none⟩, p.src, 16), (some ⟨x, 16, none⟩, p.dst, 16), (A7, ms, c7), (A, l, c)] 28 (0, 0) w' (by rw [kb]; simp [Src.v, hs16, hd16]) (fun q hq => by
                simp only [List.mem_cons, List.not_mem_nil, or_false] at hq
                rcases hq with rfl | rfl | rfl | rfl | rfl
                · exact ⟨(R8.out.below (by rw [← hm2]; exact hb') (Nat.le_refl _)).mono (by omega), N8.out⟩
                · exact ⟨Rd.src k0' (bk_lt k0'), fun h => by cases h⟩
                · exact ⟨Rd.dst k0' (bk_lt k0'), fun h => by cases h⟩
                · exact ⟨(RM.out.below (by rw [← hm2]; exact hb') (Nat.le_refl _)).mono (by omega), RN.out⟩
                · exact ⟨(HR.out.below (by rw [← hm2]; exact hb') (Nat.le_refl _)).mono (by omega), HA.out⟩) (by rw [hfl, hln]; omega) (by simp)
              rw [hfl] at CC
              refine CC.mono ?_
              rintro e w9 ⟨v9, rfl, ho9, b9⟩
              obtain ⟨A9', c9', rfl, _, _, hle9⟩ := Rd.of_own ho9 rfl
              exact ow_end Hg b9 (World.ownsRow.mono ho9 (by omega))
            obtain ⟨A9', c9', rfl⟩ := ow_T Hg hT
            clear hT hAt
            simp only [Act.put, List.setIfInBounds_toArray, List.set_cons_succ, List.set_cons_zero, Nat.reduceAdd]
            refine walk_segn 2 ([]) facts0 (by kernel_rfl) (by kernel_rfl) ?_
            simp only [List.take_succ_cons, List.take_zero, List.drop_succ_cons, List.drop_zero, Nat.reduceAdd]
            repeat (go_big_quiet_step (fail))
            (first | refine wpQuiet_nil ?_ | (go_big_quiet_want; (try go_big_quiet_op); trace_state; fail))
            refine walk_nil ?_
            intro w9 hb9 hf
            have G9 := ow_R Hg ((hf 9).1 rfl)
            rw [hm2] at hb9
            have F9 := Lib.hid (F.out.trans (hb9.mono F.out.size))
            have GG := Lib.hid (World.ownsRow.mono G9 (show w.heap.size ≤ m2 by rw [hm2]; exact F.out.size))
            clear hb9 hf G9 c39
            go_wp2_with fail
            go_ret2
            exact ⟨by unfold PutGot; rw [hbd.out]; exact ⟨A9', c9', rfl, GG.out⟩, F9.out⟩
      | false =>
        rw [hal] at c33
        have HAL := Lib.hid hal
        clear hal
        have HMO : Hid (mb = moreB p) := Lib.hid (by unfold moreB alertB; rw [HAL.out, if_neg (by decide), List.nil_append, HMB.out])
        have HMS : Hid ((mb).length ≤ 16) := Lib.hid (by have := HML.out; omega)
        have RM := R9; have RN := HMN
        have HFB : Hid (firstB p = 44) := Lib.hid (by unfold firstB; rw [HAL.out]; exact HF0.out)
        clear R9 HMN HMB HML HF0 HAL
        go_upto_region 12 with fail
        clear c32 c33 c34 c35 c36 c37 c38 c39
        have c32 := (bk_cell K0.out 32).trans (pkC_hops p A l.length c); have c33 := (bk_cell K0.out 33).trans (pkC_al p A l.length c); have c34 := (bk_cell K0.out 34).trans (pkC_fi p A l.length c); have c35 := (bk_cell K0.out 35).trans (pkC_fid p A l.length c)
        have c36 := (bk_cell K0.out 36).trans (pkC_fo p A l.length c); have c37 := (bk_cell K0.out 37).trans (pkC_fm p A l.length c); have c38 := (bk_cell K0.out 38).trans (pkC_nx p A l.length c); have c39 := (bk_cell K0.out 39).trans (pkC_body p A l.length c)
        obtain ⟨S, hS⟩ : ∃ S, S = (mb).length + l.length := ⟨_, rfl⟩
        have e1 : IntKind.i64.wrap (((mb).length : Int) + (l.length : Int)) = (S : Int) := by rw [IntKind.wrap_i64]; have := HMS.out; omega
        have hSl : S < 2 ^ 40 := by have := HMS.out; omega
        have HSS : Hid (S = (moreB p).length + l.length) := Lib.hid (by rw [hS, HMO.out])
        have hS0 := Lib.hid hS
        clear hS
        by_cases hbig : 65535 < S
        · have d1 : decide ((65535 : Int) < (S : Int)) = true := by simp; omega
          have d2 : decide (65535 < S) = true := by simp; omega
          have hbd : Hid (pkBad p l = true) := Lib.hid (by unfold pkBad; rw [← HSS.out, d2]; rfl)
          go_upto_region 14 with fail
          go_wp2_with fail
          go_ret2
          exact ⟨by unfold PutGot; rw [if_pos hbd.out]; rfl, F.out⟩
        · have d1 : decide ((65535 : Int) < (S : Int)) = false := by simp; omega
          have d2 : decide (65535 < S) = false := by simp; omega
          rw [HFI.out] at c34
          by_cases hfo : 8191 < p.fo
          · have d3 : decide ((8191 : Int) < (p.fo : Int)) = true := by simp; omega
            have d4 : decide (8191 < p.fo) = true := by simp; omega
            have hbd : Hid (pkBad p l = true) := Lib.hid (by unfold pkBad; rw [HFI.out, d4]; simp)
            go_upto_region 14 with fail
            go_wp2_with fail
            go_ret2
            exact ⟨by unfold PutGot; rw [if_pos hbd.out]; rfl, F.out⟩
          · have d3 : decide ((8191 : Int) < (p.fo : Int)) = false := by simp; omega
            have d4 : decide (8191 < p.fo) = false := by simp; omega
            have hbd : Hid (pkBad p l = false) := Lib.hid (by unfold pkBad; rw [← HSS.out, d2, d4]; simp)
            go_upto_region 15 with fail
            clear e1 d1 d2 d3 d4 c33 c34 c35 c36 c37 c38
            have e3 : IntKind.u64.wrap (S : Int) = (S : Int) := by rw [IntKind.wrap_u64]; omega
            obtain ⟨m, hm⟩ : ∃ m, m = (w2).heap.size := ⟨_, rfl⟩
            have lx : x < m := by rw [hm]; exact bk_lt K0.out
            have HMM := Lib.hid hm
            have hmle : m ≤ (w2).heap.size := Nat.le_of_eq hm
            clear hm
            obtain ⟨hd, hhd⟩ : ∃ h, h = [96, 0, 0, 0] ++ nb 2 S ++ [44, p.hops] := ⟨_, rfl⟩
            obtain ⟨M0, hM0⟩ : ∃ M : MadeW m, M = MadeW.row _ (fun b => .slice (some ⟨b, 0, none⟩) 4 4) (List.map B [96, 0, 0, 0]).toArray 5 := ⟨_, rfl⟩
            obtain ⟨M3, hM3⟩ : ∃ M : MadeW m, M = MadeW.rdl _ ([96, 0, 0, 0] ++ nb 2 S) := ⟨_, rfl⟩
            obtain ⟨M7, hM7⟩ : ∃ M : MadeW m, M = MadeW.row _ (fun b => .slice (some ⟨b, 0, none⟩) 2 2) (List.map B [44, p.hops]).toArray 5 := ⟨_, rfl⟩
            obtain ⟨M8, hM8⟩ : ∃ M : MadeW m, M = MadeW.own _ [] hd := ⟨_, rfl⟩
            have H0 := Lib.hid hM0; have H3 := Lib.hid hM3; have H7 := Lib.hid hM7; have H8 := Lib.hid hM8; have HHD := Lib.hid hhd
            clear hM0 hM3 hM7 hM8 hhd
            refine wp_region_e (m) ([.row 0 H0, .rdl 3 H3, .row 7 H7, .own 8 H8]) (fun k => (([(3, [0]), (8, [3, 7])] : List (Nat × List Nat)).lookup k).getD []) (Fs.nil) (by first | omega | (simp <;> omega)) (by kernel_rfl) (by kernel_rfl) (by kernel_rfl) (by kernel_rfl) EnvW.Ini.nil ?_
            refine walkW_mk (fun _ => M0) [] M0 ([]) facts0 (by kernel_rfl) (by kernel_rfl) (by kernel_rfl) rfl rfl (fun w' hb' hg' => ?_) (fun v0 h0 => ?_)
            · unfold madeAtW
              go_simp
              ((refine row_mk (b := w'.heap.size) H0 ((Below.refl _ _).alloc (Nat.le_refl _) _) (show m ≤ w'.heap.size by have := hb'.size; omega) (show m ≤ w'.heap.size by have := hb'.size; omega) ?_; exact bk_alloc_at _ _ _ rfl))
            obtain ⟨b0, m0, rfl⟩ := row_T H0 h0
            simp only [Act.put, List.setIfInBounds_toArray, List.set_cons_succ, List.set_cons_zero, Nat.reduceAdd]
            refine walkW_segn 2 [] facts0 noneHx (by kernel_rfl) (by kernel_rfl) ?_
            simp only [List.take_succ_cons, List.take_zero, List.drop_succ_cons, List.drop_zero, Nat.reduceAdd]
            repeat (go_big_quiet_step (fail))
            (first | refine wpQuiet_nil ?_ | (go_big_quiet_want; (try go_big_quiet_op); trace_state; fail))
            refine walkW_mk (fun _ => M3) [] M3 ([(0, M0.R (.slice (some ⟨b0, 0, none⟩) 4 4))]) (facts1 fun w h => h.1 rfl) (by kernel_rfl) (by kernel_rfl) (by kernel_rfl) rfl rfl (fun w' hb' hg' => ?_) (fun v3 h3 => ?_)
            · unfold madeAtW
              go_simp
              ((have kb := row_R H0 (fun b b' h => by simpa using h) (hg' _ (.head _)); exact rdl_put H3 (l := [96, 0, 0, 0]) (some ⟨b0, 0, none⟩) 4 S 2 2 rfl rfl w' (Rd.of_bk (L := [96, 0, 0, 0]) kb (bk_lt kb) (fun j h => by simp [List.getElem?_eq_getElem h])) (fun h => by cases h) (by simp) (by omega) (by omega) (by have := hb'.size; omega)))
            obtain ⟨g3, rfl⟩ := rdl_T H3 h3
            simp only [Act.put, List.setIfInBounds_toArray, List.set_cons_succ, List.set_cons_zero, Nat.reduceAdd]
            refine walkW_segn 3 [] facts0 noneHx (by kernel_rfl) (by kernel_rfl) ?_
            simp only [List.take_succ_cons, List.take_zero, List.drop_succ_cons, List.drop_zero, Nat.reduceAdd]
            repeat (go_big_quiet_step (fail))
            (first | refine wpQuiet_nil ?_ | (go_big_quiet_want; (try go_big_quiet_op); trace_state; fail))
            refine walkW_mk (fun _ => M7) [] M7 ([]) facts0 (by kernel_rfl) (by kernel_rfl) (by kernel_rfl) rfl rfl (fun w' hb' hg' => ?_) (fun v7 h7 => ?_)
            · unfold madeAtW
              go_simp
              ((refine row_mk (b := w'.heap.size) H7 ((Below.refl _ _).alloc (Nat.le_refl _) _) (show m ≤ w'.heap.size by have := hb'.size; omega) (show m ≤ w'.heap.size by have := hb'.size; omega) ?_; exact bk_alloc_at _ _ _ rfl))
            obtain ⟨b7, m7, rfl⟩ := row_T H7 h7
            simp only [Act.put, List.setIfInBounds_toArray, List.set_cons_succ, List.set_cons_zero, Nat.reduceAdd]
            refine walkW_mk (fun _ => M8) [] M8 ([(3, M3.R (.slice (some ⟨g3, 0, none⟩) ([96, 0, 0, 0] ++ nb 2 S).length ([96, 0, 0, 0] ++ nb 2 S).length)), (7, M7.R (.slice (some ⟨b7, 0, none⟩) 2 2))]) (facts2 (fun w h => h.2.1 rfl) (fun w h => h.1 rfl)) (by kernel_rfl) (by kernel_rfl) (by kernel_rfl) rfl rfl (fun w' hb' hg' => ?_) (fun v8 h8 => ?_)
            · ((have kb := row_R H7 (fun b b' h => by simpa using h) (hg' _ (.tail _ (.head _))); exact grow_mk rfl H8 (l1 := [96, 0, 0, 0] ++ nb 2 S) (l2 := [44, p.hops]) HHD.out rfl (rdl_R H3 (hg' _ (.head _))) rfl (Rd.of_bk (L := [44, p.hops]) kb (bk_lt kb) (fun j h => by simp [List.getElem?_eq_getElem h])) (by simp) (by simp [nb_length]) (by have := hb'.size; omega)))
            obtain ⟨A8, c8, rfl, n8, le8⟩ := own_T H8 h8
            simp only [Act.put, List.setIfInBounds_toArray, List.set_cons_succ, List.set_cons_zero, Nat.reduceAdd]
            refine walkW_segn 1 [] facts0 noneHx (by kernel_rfl) (by kernel_rfl) ?_
            simp only [List.take_succ_cons, List.take_zero, List.drop_succ_cons, List.drop_zero, Nat.reduceAdd]
            repeat (go_big_quiet_step (fail))
            (first | refine wpQuiet_nil ?_ | (go_big_quiet_want; (try go_big_quiet_op); trace_state; fail))
            refine walkW_nil ?_
            intro w8 b8 hf
            have ho8 := own_R H8 ((hf 8 (by kernel_rfl)).1 rfl)
            obtain ⟨_, _, eq8, hR8, _, _⟩ := Rd.of_own ho8 rfl
            cases eq8
            rw [HMM.out] at b8
            replace K0 := Lib.hid (bk_keep b8 (bk_lt K0.out) K0.out)
            replace HR := Lib.hid ((HR.out.below b8 (Nat.le_refl _)).mono b8.size)
            replace RM := Lib.hid ((RM.out.below b8 (Nat.le_refl _)).mono b8.size)
            replace F := Lib.hid (F.out.trans (b8.mono F.out.size))
            have R8 := Lib.hid hR8; have N8 := Lib.hid n8
            clear b8 hf ho8 hR8 c32 c39 e3 lx hmle
            have c39 := (bk_cell K0.out 39).trans (pkC_body p A l.length c)
            have lx := bk_lt K0.out
            go_upto_region 16 with fail
            obtain ⟨m2, hm2⟩ : ∃ m, m = w8.heap.size := ⟨_, rfl⟩
            rw [← hm2] at lx
            obtain ⟨Mr, hMr⟩ : ∃ M : Made m2, M = Made.row m2 (fun b => .slice (some ⟨b, 0, none⟩) 5 5) (.cells #[.slice A8 hd.length c8, .slice (some ⟨x, 0, none⟩) 16 16, .slice (some ⟨x, 16, none⟩) 16 16, .slice A9 (mb).length c9, .slice A l.length c] 28 (0, 0)) := ⟨_, rfl⟩
            have hPL : (pkB p l).length < 2 ^ 40 := by unfold pkB; rw [List.length_append, List.length_append, List.length_append, List.length_append, List.length_append, List.length_append, nb_length, p.hs, p.hd, ← HMO.out]; have := HMS.out; simp only [List.length_cons, List.length_nil]; omega
            obtain ⟨Mg, hMg⟩ : ∃ M : Made m2, M = Made.ow m2 (pkB p l) hPL := ⟨_, rfl⟩
            have Hr := Lib.hid hMr; have Hg := Lib.hid hMg
            clear hMr hMg
            refine wp_region_made (m2) (fun k => ([(8, Mr), (9, Mg)] : List (Nat × Made m2)).lookup k) (by first | omega | (simp <;> omega)) (by kernel_rfl) (by kernel_rfl) ?_
            refine walk_segn 8 ([]) facts0 (by kernel_rfl) (by kernel_rfl) ?_
            simp only [List.take_succ_cons, List.take_zero, List.drop_succ_cons, List.drop_zero, Nat.reduceAdd]
            repeat (go_big_quiet_step (fail))
            (first | refine wpQuiet_nil ?_ | (go_big_quiet_want; (try go_big_quiet_op); trace_state; fail))
            refine walk_mkop Mr ([]) facts0 (by kernel_rfl) (by kernel_rfl) (by kernel_rfl) (fun w' hb' hg' => ?_) (fun v _ hAt => ?_)
            · unfold madeAt
              go_simp
              ((exact row_box Hr (by have := hb'.size; omega)))
            obtain ⟨br, hmbr, rfl, hnbr, hibr, rb⟩ := made_at Hr (by intro b b' h; simpa using h) 8 hAt
            clear hAt
            simp only [Act.put, List.setIfInBounds_toArray, List.set_cons_succ, List.set_cons_zero, Nat.reduceAdd]
            refine walk_mkop Mg [(8, Mr.R (.slice (some ⟨br, 0, none⟩) 5 5))] (facts1 fun w h => h.1 rfl) (by kernel_rfl) (by kernel_rfl) (by kernel_rfl) (fun w' hb' hg' => ?_) (fun v hT hAt => ?_)
            · unfold madeAt
              go_simp
              have kb := rb w' (hg' _ (List.mem_singleton.2 rfl))
              have k0' := bk_keep hb' lx K0.out
              have hsz := hb'.size
              have hs16 := p.hs; have hd16 := p.hd
              have hhl : hd.length = 8 := by rw [HHD.out]; simp [nb_length]
              have hfl : flat [(A8, hd, c8), (some ⟨x, 0, none⟩, p.src, 16), (some ⟨x, 16, none⟩, p.dst, 16), (A9, mb, c9), (A, l, c)] = pkB p l := by
                unfold pkB
                rw [HFB.out, ← HSS.out, ← HHD.out, ← HMO.out]
                simp [flat]
              have hln : (pkB p l).length = 40 + S := by rw [← hfl, hS0.out]; simp [flat, hhl, hs16, hd16]; omega
              have CC := concat_any br [(A8, hd, c8), (some ⟨x, 0, none⟩, p.src, 16), (some ⟨x, 16, none⟩, p.dst, 16), (A9, mb, c9), (A, l, c)] 28 (0, 0) w' (by rw [kb]; simp [Src.v, hs16, hd16]) (fun q hq => by
                simp only [List.mem_cons, List.not_mem_nil, or_false] at hq
                rcases hq with rfl | rfl | rfl | rfl | rfl
                · exact ⟨(R8.out.below (by rw [← hm2]; exact hb') (Nat.le_refl _)).mono (by omega), N8.out⟩
                · exact ⟨Rd.src k0' (bk_lt k0'), fun h => by cases h⟩
                · exact ⟨Rd.dst k0' (bk_lt k0'), fun h => by cases h⟩
                · exact ⟨(RM.out.below (by rw [← hm2]; exact hb') (Nat.le_refl _)).mono (by omega), RN.out⟩
                · exact ⟨(HR.out.below (by rw [← hm2]; exact hb') (Nat.le_refl _)).mono (by omega), HA.out⟩) (by rw [hfl, hln]; omega) (by simp)
              rw [hfl] at CC
              refine CC.mono ?_
              rintro e w9 ⟨v9, rfl, ho9, b9⟩
              obtain ⟨A9', c9', rfl, _, _, hle9⟩ := Rd.of_own ho9 rfl
              exact ow_end Hg b9 (World.ownsRow.mono ho9 (by omega))
            obtain ⟨A9', c9', rfl⟩ := ow_T Hg hT
            clear hT hAt
            simp only [Act.put, List.setIfInBounds_toArray, List.set_cons_succ, List.set_cons_zero, Nat.reduceAdd]
            refine walk_segn 2 ([]) facts0 (by kernel_rfl) (by kernel_rfl) ?_
            simp only [List.take_succ_cons, List.take_zero, List.drop_succ_cons, List.drop_zero, Nat.reduceAdd]
            repeat (go_big_quiet_step (fail))
            (first | refine wpQuiet_nil ?_ | (go_big_quiet_want; (try go_big_quiet_op); trace_state; fail))
            refine walk_nil ?_
            intro w9 hb9 hf
            have G9 := ow_R Hg ((hf 9).1 rfl)
            rw [hm2] at hb9
            have F9 := Lib.hid (F.out.trans (hb9.mono F.out.size))
            have GG := Lib.hid (World.ownsRow.mono G9 (show w.heap.size ≤ m2 by rw [hm2]; exact F.out.size))
            clear hb9 hf G9 c39
            go_wp2_with fail
            go_ret2
            exact ⟨by unfold PutGot; rw [hbd.out]; exact ⟨A9', c9', rfl, GG.out⟩, F9.out⟩
  | false =>
    have HFI := Lib.hid hfi
    rw [hfi] at c34
    clear hfi
    have R9 : Hid (Rd w1 w1.heap.size none []) := Lib.hid Rd.nil
    have HMN : Hid ((none : Option Addr) = none → ([] : List UInt8) = [] ∧ (0 : Nat) = 0) := Lib.hid fun _ => ⟨rfl, rfl⟩
    have HMB : Hid (([] : List UInt8) = fragB p) := Lib.hid (by unfold fragB; rw [HFI.out]; rfl)
    have HML : Hid (([] : List UInt8).length ≤ 8) := Lib.hid (by simp)
    have HF0 : Hid (first0 p = p.nx) := Lib.hid (by unfold first0; rw [HFI.out]; rfl)
    go_upto_region 9 with fail
    clear c32 c33 c34 c35 c36 c37 c38 c39
    have c32 := (bk_cell K0.out 32).trans (pkC_hops p A l.length c); have c33 := (bk_cell K0.out 33).trans (pkC_al p A l.length c); have c34 := (bk_cell K0.out 34).trans (pkC_fi p A l.length c); have c35 := (bk_cell K0.out 35).trans (pkC_fid p A l.length c)
    have c36 := (bk_cell K0.out 36).trans (pkC_fo p A l.length c); have c37 := (bk_cell K0.out 37).trans (pkC_fm p A l.length c); have c38 := (bk_cell K0.out 38).trans (pkC_nx p A l.length c); have c39 := (bk_cell K0.out 39).trans (pkC_body p A l.length c)
    cases hal : p.al with
    | true =>
      rw [hal] at c33
      have HAL := Lib.hid hal
      clear hal
      have a2 : Below (w1).heap.size (w1) (((w1).alloc (.cells (List.map B [p.nx, 0, 5, 2, 0, 0, 1, 0]).toArray 5 (0, 0))).alloc (.cells #[.slice (some ⟨(w1).heap.size, 0, none⟩) 8 8, .slice (none : Option Addr) (([] : List UInt8)).length 0] 28 (0, 0))) := by
        (repeat (first | exact Below.refl _ _ | assumption | refine Below.drew ?_ | refine bdrewN ?_ _ | refine Below.alloc ?_ (by first | omega | (simp <;> omega) | (simp only [World.size_alloc] <;> omega)) _ | refine below_setRow ?_ (by first | omega | (simp <;> omega)) _ | refine Below.setCell ?_ (by first | omega | (simp <;> omega)) _))
      have k2 : bk (((w1).alloc (.cells (List.map B [p.nx, 0, 5, 2, 0, 0, 1, 0]).toArray 5 (0, 0))).alloc (.cells #[.slice (some ⟨(w1).heap.size, 0, none⟩) 8 8, .slice (none : Option Addr) (([] : List UInt8)).length 0] 28 (0, 0))) (w1).heap.size = some (.cells (List.map B [p.nx, 0, 5, 2, 0, 0, 1, 0]).toArray 5 (0, 0)) := (bk_alloc_past _ _ _ (by simp)).trans (bk_alloc_at _ _ _ rfl)
      have k3 : bk (((w1).alloc (.cells (List.map B [p.nx, 0, 5, 2, 0, 0, 1, 0]).toArray 5 (0, 0))).alloc (.cells #[.slice (some ⟨(w1).heap.size, 0, none⟩) 8 8, .slice (none : Option Addr) (([] : List UInt8)).length 0] 28 (0, 0))) ((w1).heap.size + 1) = some (.cells #[.slice (some ⟨(w1).heap.size, 0, none⟩) 8 8, .slice (none : Option Addr) (([] : List UInt8)).length 0] 28 (0, 0)) := bk_alloc_at _ _ _ (by simp)
      obtain ⟨al8, hal8⟩ : ∃ a : List UInt8, a = [p.nx, 0, 5, 2, 0, 0, 1, 0] := ⟨_, rfl⟩
      have h8l : al8.length = 8 := by rw [hal8]; rfl
      have CC := concat_any ((w1).heap.size + 1) [(some ⟨(w1).heap.size, 0, none⟩, al8, 8), ((none : Option Addr), ([] : List UInt8), 0)] 28 (0, 0) _ (by rw [k3]; simp [Src.v, h8l]) (fun q hq => by
        simp only [List.mem_cons, List.not_mem_nil, or_false] at hq
        rcases hq with rfl | rfl
        · exact ⟨Rd.of_bk (L := al8) (by rw [hal8]; exact k2) (bk_lt k2) (fun j h => by rw [Nat.zero_add]; exact List.getElem?_eq_getElem h), fun h => by cases h⟩
        · exact ⟨(R9.out.below a2 (Nat.le_refl _)).mono a2.size, HMN.out⟩) (by have := HML.out; simp only [flat, List.map_cons, List.map_nil, List.flatten_cons, List.flatten_nil, List.length_append, List.length_nil, h8l] at this ⊢; omega) (by simp)
      have hfl : flat [(some ⟨(w1).heap.size, 0, none⟩, al8, 8), ((none : Option Addr), ([] : List UInt8), 0)] = al8 ++ ([] : List UInt8) := by simp [flat]
      rw [hfl] at CC
      have HC := Lib.hid CC
      have HAA := Lib.hid (And.intro a2 hal8)
      clear CC a2 k2 k3 hfl hal8
      go_wp2_with fail
      refine HC.out.mono ?_
      rintro e w7 ⟨v7, rfl, ho7, b7⟩
      have b77 := HAA.out.1.trans (b7.mono HAA.out.1.size)
      obtain ⟨ms, hms⟩ : ∃ m, m = al8 ++ ([] : List UInt8) := ⟨_, rfl⟩
      rw [← hms] at ho7
      obtain ⟨A7, c7, rfl, hR7, hN7, _⟩ := Rd.of_own ho7 rfl
      have HMO : Hid (ms = moreB p) := Lib.hid (by rw [hms, HAA.out.2]; unfold moreB alertB; rw [HAL.out, if_pos rfl, HF0.out, HMB.out])
      have HMS : Hid (ms.length ≤ 16) := Lib.hid (by rw [hms, List.length_append, h8l]; have := HML.out; omega)
      have RM := Lib.hid hR7; have RN := Lib.hid hN7
      replace K0 := Lib.hid (bk_keep b77 (bk_lt K0.out) K0.out)
      replace HR := Lib.hid ((HR.out.below b77 (Nat.le_refl _)).mono b77.size)
      replace F := Lib.hid (F.out.trans (b77.mono F.out.size))
      have HFB : Hid (firstB p = 0) := Lib.hid (by unfold firstB; rw [HAL.out]; rfl)
      clear HC HAA ho7 b7 b77 hR7 hN7 hms h8l R9 HMN HMB HML HF0 HAL c32 c33 c34 c35 c36 c37 c38 c39 l0
      go_upto_region 12 with fail
      have c32 := (bk_cell K0.out 32).trans (pkC_hops p A l.length c); have c33 := (bk_cell K0.out 33).trans (pkC_al p A l.length c); have c34 := (bk_cell K0.out 34).trans (pkC_fi p A l.length c); have c35 := (bk_cell K0.out 35).trans (pkC_fid p A l.length c)
      have c36 := (bk_cell K0.out 36).trans (pkC_fo p A l.length c); have c37 := (bk_cell K0.out 37).trans (pkC_fm p A l.length c); have c38 := (bk_cell K0.out 38).trans (pkC_nx p A l.length c); have c39 := (bk_cell K0.out 39).trans (pkC_body p A l.length c)
      obtain ⟨S, hS⟩ : ∃ S, S = (ms).length + l.length := ⟨_, rfl⟩
      have e1 : IntKind.i64.wrap (((ms).length : Int) + (l.length : Int)) = (S : Int) := by rw [IntKind.wrap_i64]; have := HMS.out; omega
      have hSl : S < 2 ^ 40 := by have := HMS.out; omega
      have HSS : Hid (S = (moreB p).length + l.length) := Lib.hid (by rw [hS, HMO.out])
      have hS0 := Lib.hid hS
      clear hS
      by_cases hbig : 65535 < S
      · have d1 : decide ((65535 : Int) < (S : Int)) = true := by simp; omega
        have d2 : decide (65535 < S) = true := by simp; omega
        have hbd : Hid (pkBad p l = true) := Lib.hid (by unfold pkBad; rw [← HSS.out, d2]; rfl)
        go_upto_region 14 with fail
        go_wp2_with fail
        go_ret2
        exact ⟨by unfold PutGot; rw [if_pos hbd.out]; rfl, F.out⟩
      · have d1 : decide ((65535 : Int) < (S : Int)) = false := by simp; omega
        have d2 : decide (65535 < S) = false := by simp; omega
        rw [HFI.out] at c34
        have d3 : True := trivial
        have d4 : True := trivial
        have hbd : Hid (pkBad p l = false) := Lib.hid (by unfold pkBad; rw [← HSS.out, d2, HFI.out]; rfl)
        go_upto_region 15 with fail
        clear e1 d1 d2 d3 d4 c33 c34 c35 c36 c37 c38
        have e3 : IntKind.u64.wrap (S : Int) = (S : Int) := by rw [IntKind.wrap_u64]; omega
        obtain ⟨m, hm⟩ : ∃ m, m = (w7).heap.size := ⟨_, rfl⟩
        have lx : x < m := by rw [hm]; exact bk_lt K0.out
        have HMM := Lib.hid hm
        have hmle : m ≤ (w7).heap.size := Nat.le_of_eq hm
        clear hm
        obtain ⟨hd, hhd⟩ : ∃ h, h = [96, 0, 0, 0] ++ nb 2 S ++ [0, p.hops] := ⟨_, rfl⟩
        obtain ⟨M0, hM0⟩ : ∃ M : MadeW m, M = MadeW.row _ (fun b => .slice (some ⟨b, 0, none⟩) 4 4) (List.map B [96, 0, 0, 0]).toArray 5 := ⟨_, rfl⟩
        obtain ⟨M3, hM3⟩ : ∃ M : MadeW m, M = MadeW.rdl _ ([96, 0, 0, 0] ++ nb 2 S) := ⟨_, rfl⟩
        obtain ⟨M7, hM7⟩ : ∃ M : MadeW m, M = MadeW.row _ (fun b => .slice (some ⟨b, 0, none⟩) 2 2) (List.map B [0, p.hops]).toArray 5 := ⟨_, rfl⟩
        obtain ⟨M8, hM8⟩ : ∃ M : MadeW m, M = MadeW.own _ [] hd := ⟨_, rfl⟩
        have H0 := Lib.hid hM0; have H3 := Lib.hid hM3; have H7 := Lib.hid hM7; have H8 := Lib.hid hM8; have HHD := Lib.hid hhd
        clear hM0 hM3 hM7 hM8 hhd
        refine wp_region_e (m) ([.row 0 H0, .rdl 3 H3, .row 7 H7, .own 8 H8]) (fun k => (([(3, [0]), (8, [3, 7])] : List (Nat × List Nat)).lookup k).getD []) (Fs.nil) (by first | omega | (simp <;> omega)) (by kernel_rfl) (by kernel_rfl) (by kernel_rfl) (by kernel_rfl) EnvW.Ini.nil ?_
        refine walkW_mk (fun _ => M0) [] M0 ([]) facts0 (by kernel_rfl) (by kernel_rfl) (by kernel_rfl) rfl rfl (fun w' hb' hg' => ?_) (fun v0 h0 => ?_)
        · unfold madeAtW
          go_simp
          ((refine row_mk (b := w'.heap.size) H0 ((Below.refl _ _).alloc (Nat.le_refl _) _) (show m ≤ w'.heap.size by have := hb'.size; omega) (show m ≤ w'.heap.size by have := hb'.size; omega) ?_; exact bk_alloc_at _ _ _ rfl))
        obtain ⟨b0, m0, rfl⟩ := row_T H0 h0
        simp only [Act.put, List.setIfInBounds_toArray, List.set_cons_succ, List.set_cons_zero, Nat.reduceAdd]
        refine walkW_segn 2 [] facts0 noneHx (by kernel_rfl) (by kernel_rfl) ?_
        simp only [List.take_succ_cons, List.take_zero, List.drop_succ_cons, List.drop_zero, Nat.reduceAdd]
        repeat (go_big_quiet_step (fail))
        (first | refine wpQuiet_nil ?_ | (go_big_quiet_want; (try go_big_quiet_op); trace_state; fail))
        refine walkW_mk (fun _ => M3) [] M3 ([(0, M0.R (.slice (some ⟨b0, 0, none⟩) 4 4))]) (facts1 fun w h => h.1 rfl) (by kernel_rfl) (by kernel_rfl) (by kernel_rfl) rfl rfl (fun w' hb' hg' => ?_) (fun v3 h3 => ?_)
        · unfold madeAtW
          go_simp
          ((have kb := row_R H0 (fun b b' h => by simpa using h) (hg' _ (.head _)); exact rdl_put H3 (l := [96, 0, 0, 0]) (some ⟨b0, 0, none⟩) 4 S 2 2 rfl rfl w' (Rd.of_bk (L := [96, 0, 0, 0]) kb (bk_lt kb) (fun j h => by simp [List.getElem?_eq_getElem h])) (fun h => by cases h) (by simp) (by omega) (by omega) (by have := hb'.size; omega)))
        obtain ⟨g3, rfl⟩ := rdl_T H3 h3
        simp only [Act.put, List.setIfInBounds_toArray, List.set_cons_succ, List.set_cons_zero, Nat.reduceAdd]
        refine walkW_segn 3 [] facts0 noneHx (by kernel_rfl) (by kernel_rfl) ?_
        simp only [List.take_succ_cons, List.take_zero, List.drop_succ_cons, List.drop_zero, Nat.reduceAdd]
        repeat (go_big_quiet_step (fail))
        (first | refine wpQuiet_nil ?_ | (go_big_quiet_want; (try go_big_quiet_op); trace_state; fail))
        refine walkW_mk (fun _ => M7) [] M7 ([]) facts0 (by kernel_rfl) (by kernel_rfl) (by kernel_rfl) rfl rfl (fun w' hb' hg' => ?_) (fun v7 h7 => ?_)
        · unfold madeAtW
          go_simp
          ((refine row_mk (b := w'.heap.size) H7 ((Below.refl _ _).alloc (Nat.le_refl _) _) (show m ≤ w'.heap.size by have := hb'.size; omega) (show m ≤ w'.heap.size by have := hb'.size; omega) ?_; exact bk_alloc_at _ _ _ rfl))
        obtain ⟨b7, m7, rfl⟩ := row_T H7 h7
        simp only [Act.put, List.setIfInBounds_toArray, List.set_cons_succ, List.set_cons_zero, Nat.reduceAdd]
        refine walkW_mk (fun _ => M8) [] M8 ([(3, M3.R (.slice (some ⟨g3, 0, none⟩) ([96, 0, 0, 0] ++ nb 2 S).length ([96, 0, 0, 0] ++ nb 2 S).length)), (7, M7.R (.slice (some ⟨b7, 0, none⟩) 2 2))]) (facts2 (fun w h => h.2.1 rfl) (fun w h => h.1 rfl)) (by kernel_rfl) (by kernel_rfl) (by kernel_rfl) rfl rfl (fun w' hb' hg' => ?_) (fun v8 h8 => ?_)
        · ((have kb := row_R H7 (fun b b' h => by simpa using h) (hg' _ (.tail _ (.head _))); exact grow_mk rfl H8 (l1 := [96, 0, 0, 0] ++ nb 2 S) (l2 := [0, p.hops]) HHD.out rfl (rdl_R H3 (hg' _ (.head _))) rfl (Rd.of_bk (L := [0, p.hops]) kb (bk_lt kb) (fun j h => by simp [List.getElem?_eq_getElem h])) (by simp) (by simp [nb_length]) (by have := hb'.size; omega)))
        obtain ⟨A8, c8, rfl, n8, le8⟩ := own_T H8 h8
        simp only [Act.put, List.setIfInBounds_toArray, List.set_cons_succ, List.set_cons_zero, Nat.reduceAdd]
        refine walkW_segn 1 [] facts0 noneHx (by kernel_rfl) (by kernel_rfl) ?_
        simp only [List.take_succ_cons, List.take_zero, List.drop_succ_cons, List.drop_zero, Nat.reduceAdd]
        repeat (go_big_quiet_step (fail))
        (first | refine wpQuiet_nil ?_ | (go_big_quiet_want; (try go_big_quiet_op); trace_state; fail))
        refine walkW_nil ?_
        intro w8 b8 hf
        have ho8 := own_R H8 ((hf 8 (by kernel_rfl)).1 rfl)
        obtain ⟨_, _, eq8, hR8, _, _⟩ := Rd.of_own ho8 rfl
        cases eq8
        rw [HMM.out] at b8
        replace K0 := Lib.hid (bk_keep b8 (bk_lt K0.out) K0.out)
        replace HR := Lib.hid ((HR.out.below b8 (Nat.le_refl _)).mono b8.size)
        replace RM := Lib.hid ((RM.out.below b8 (Nat.le_refl _)).mono b8.size)
        replace F := Lib.hid (F.out.trans (b8.mono F.out.size))
        have R8 := Lib.hid hR8; have N8 := Lib.hid n8
        clear b8 hf ho8 hR8 c32 c39 e3 lx hmle
        have c39 := (bk_cell K0.out 39).trans (pkC_body p A l.length c)
        have lx := bk_lt K0.out
        go_upto_region 16 with fail
        obtain ⟨m2, hm2⟩ : ∃ m, m = w8.heap.size := ⟨_, rfl⟩
        rw [← hm2] at lx
        obtain ⟨Mr, hMr⟩ : ∃ M : Made m2, M = Made.row m2 (fun b => .slice (some ⟨b, 0, none⟩) 5 5) (.cells #[.slice A8 hd.length c8, .slice (some ⟨x, 0, none⟩) 16 16, .slice (some ⟨x, 16, none⟩) 16 16, .slice A7 (ms).length c7, .slice A l.length c] 28 (0, 0)) := ⟨_, rfl⟩
        have hPL : (pkB p l).length < 2 ^ 40 := by unfold pkB; rw [List.length_append, List.length_append, List.length_append, List.length_append, List.length_append, List.length_append, nb_length, p.hs, p.hd, ← HMO.out]; have := HMS.out; simp only [List.length_cons, List.length_nil]; omega
        obtain ⟨Mg, hMg⟩ : ∃ M : Made m2, M = Made.ow m2 (pkB p l) hPL := ⟨_, rfl⟩
        have Hr := Lib.hid hMr; have Hg := Lib.hid hMg
        clear hMr hMg
        refine wp_region_made (m2) (fun k => ([(8, Mr), (9, Mg)] : List (Nat × Made m2)).lookup k) (by first | omega | (simp <;> omega)) (by kernel_rfl) (by kernel_rfl) ?_
        refine walk_segn 8 ([]) facts0 (by kernel_rfl) (by kernel_rfl) ?_
        simp only [List.take_succ_cons, List.take_zero, List.drop_succ_cons, List.drop_zero, Nat.reduceAdd]
        repeat (go_big_quiet_step (fail))
        (first | refine wpQuiet_nil ?_ | (go_big_quiet_want; (try go_big_quiet_op); trace_state; fail))
        refine walk_mkop Mr ([]) facts0 (by kernel_rfl) (by kernel_rfl) (by kernel_rfl) (fun w' hb' hg' => ?_) (fun v _ hAt => ?_)
        · unfold madeAt
          go_simp
          ((exact row_box Hr (by have := hb'.size; omega)))
        obtain ⟨br, hmbr, rfl, hnbr, hibr, rb⟩ := made_at Hr (by intro b b' h; simpa using h) 8 hAt
        clear hAt
        simp only [Act.put, List.setIfInBounds_toArray, List.set_cons_succ, List.set_cons_zero, Nat.reduceAdd]
        refine walk_mkop Mg [(8, Mr.R (.slice (some ⟨br, 0, none⟩) 5 5))] (facts1 fun w h => h.1 rfl) (by kernel_rfl) (by kernel_rfl) (by kernel_rfl) (fun w' hb' hg' => ?_) (fun v hT hAt => ?_)
        · unfold madeAt
          go_simp
          have kb := rb w' (hg' _ (List.mem_singleton.2 rfl))
          have k0' := bk_keep hb' lx K0.out
          have hsz := hb'.size
          have hs16 := p.hs; have hd16 := p.hd
          have hhl : hd.length = 8 := by rw [HHD.out]; simp [nb_length]
          have hfl : flat [(A8, hd, c8), (some ⟨x, 0, none⟩, p.src, 16), (some ⟨x, 16, none⟩, p.dst, 16), (A7, ms, c7), (A, l, c)] = pkB p l := by
            unfold pkB
            rw [HFB.out, ← HSS.out, ← HHD.out, ← HMO.out]
            simp [flat]
          have hln : (pkB p l).length = 40 + S := by rw [← hfl, hS0.out]; simp [flat, hhl, hs16, hd16]; omega
          have CC := concat_any br [(A8, hd, c8), (some ⟨x, 0, none⟩, p.src, 16), (some ⟨x, 16, none⟩, p.dst, 16), (A7, ms, c7), (A, l, c)] 28 (0, 0) w' (by rw [kb]; simp [Src.v, hs16, hd16]) (fun q hq => by
            simp only [List.mem_cons, List.not_mem_nil, or_false] at hq
            rcases hq with rfl | rfl | rfl | rfl | rfl
            · exact ⟨(R8.out.below (by rw [← hm2]; exact hb') (Nat.le_refl _)).mono (by omega), N8.out⟩
            · exact ⟨Rd.src k0' (bk_lt k0'), fun h => by cases h⟩
            · exact ⟨Rd.dst k0' (bk_lt k0'), fun h => by cases h⟩
            · exact ⟨(RM.out.below (by rw [← hm2]; exact hb') (Nat.le_refl _)).mono (by omega), RN.out⟩
            · exact ⟨(HR.out.below (by rw [← hm2]; exact hb') (Nat.le_refl _)).mono (by omega), HA.out⟩) (by rw [hfl, hln]; omega) (by simp)
          rw [hfl] at CC
          refine CC.mono ?_
          rintro e w9 ⟨v9, rfl, ho9, b9⟩
          obtain ⟨A9', c9', rfl, _, _, hle9⟩ := Rd.of_own ho9 rfl
          exact ow_end Hg b9 (World.ownsRow.mono ho9 (by omega))
        obtain ⟨A9', c9', rfl⟩ := ow_T Hg hT
        clear hT hAt
        simp only [Act.put, List.setIfInBounds_toArray, List.set_cons_succ, List.set_cons_zero, Nat.reduceAdd]
        refine walk_segn 2 ([]) facts0 (by kernel_rfl) (by kernel_rfl) ?_
        simp only [List.take_succ_cons, List.take_zero, List.drop_succ_cons, List.drop_zero, Nat.reduceAdd]
        repeat (go_big_quiet_step (fail))
        (first | refine wpQuiet_nil ?_ | (go_big_quiet_want; (try go_big_quiet_op); trace_state; fail))
        refine walk_nil ?_
        intro w9 hb9 hf
        have G9 := ow_R Hg ((hf 9).1 rfl)
        rw [hm2] at hb9
        have F9 := Lib.hid (F.out.trans (hb9.mono F.out.size))
        have GG := Lib.hid (World.ownsRow.mono G9 (show w.heap.size ≤ m2 by rw [hm2]; exact F.out.size))
        clear hb9 hf G9 c39
        go_wp2_with fail
        go_ret2
        exact ⟨by unfold PutGot; rw [hbd.out]; exact ⟨A9', c9', rfl, GG.out⟩, F9.out⟩
    | false =>
      rw [hal] at c33
      have HAL := Lib.hid hal
      clear hal
      have HMO : Hid (([] : List UInt8) = moreB p) := Lib.hid (by unfold moreB alertB; rw [HAL.out, if_neg (by decide), List.nil_append, HMB.out])
      have HMS : Hid ((([] : List UInt8)).length ≤ 16) := Lib.hid (by have := HML.out; omega)
      have RM := R9; have RN := HMN
      have HFB : Hid (firstB p = p.nx) := Lib.hid (by unfold firstB; rw [HAL.out]; exact HF0.out)
      clear R9 HMN HMB HML HF0 HAL
      go_upto_region 12 with fail
      clear c32 c33 c34 c35 c36 c37 c38 c39
      have c32 := (bk_cell K0.out 32).trans (pkC_hops p A l.length c); have c33 := (bk_cell K0.out 33).trans (pkC_al p A l.length c); have c34 := (bk_cell K0.out 34).trans (pkC_fi p A l.length c); have c35 := (bk_cell K0.out 35).trans (pkC_fid p A l.length c)
      have c36 := (bk_cell K0.out 36).trans (pkC_fo p A l.length c); have c37 := (bk_cell K0.out 37).trans (pkC_fm p A l.length c); have c38 := (bk_cell K0.out 38).trans (pkC_nx p A l.length c); have c39 := (bk_cell K0.out 39).trans (pkC_body p A l.length c)
      have e1 : IntKind.i64.wrap (l.length : Int) = (l.length : Int) := by rw [IntKind.wrap_i64]; omega
      have hSl : l.length < 2 ^ 40 := by omega
      have HSS : Hid (l.length = (moreB p).length + l.length) := Lib.hid (by rw [← HMO.out]; simp)
      have hS0 : Hid (l.length = ([] : List UInt8).length + l.length) := Lib.hid (by simp)
      by_cases hbig : 65535 < l.length
      · have d1 : decide ((65535 : Int) < (l.length : Int)) = true := by simp; omega
        have d2 : decide (65535 < l.length) = true := by simp; omega
        have hbd : Hid (pkBad p l = true) := Lib.hid (by unfold pkBad; rw [← HSS.out, d2]; rfl)
        go_upto_region 14 with fail
        go_wp2_with fail
        go_ret2
        exact ⟨by unfold PutGot; rw [if_pos hbd.out]; rfl, F.out⟩
      · have d1 : decide ((65535 : Int) < (l.length : Int)) = false := by simp; omega
        have d2 : decide (65535 < l.length) = false := by simp; omega
        rw [HFI.out] at c34
        have d3 : True := trivial
        have d4 : True := trivial
        have hbd : Hid (pkBad p l = false) := Lib.hid (by unfold pkBad; rw [← HSS.out, d2, HFI.out]; rfl)
        go_upto_region 15 with fail
        clear e1 d1 d2 d3 d4 c33 c34 c35 c36 c37 c38
        have e3 : IntKind.u64.wrap (l.length : Int) = (l.length : Int) := by rw [IntKind.wrap_u64]; omega
        obtain ⟨m, hm⟩ : ∃ m, m = (w1).heap.size := ⟨_, rfl⟩
        have lx : x < m := by rw [hm]; exact bk_lt K0.out
        have HMM := Lib.hid hm
        have hmle : m ≤ (w1).heap.size := Nat.le_of_eq hm
        clear hm
        obtain ⟨hd, hhd⟩ : ∃ h, h = [96, 0, 0, 0] ++ nb 2 l.length ++ [p.nx, p.hops] := ⟨_, rfl⟩
        obtain ⟨M0, hM0⟩ : ∃ M : MadeW m, M = MadeW.row _ (fun b => .slice (some ⟨b, 0, none⟩) 4 4) (List.map B [96, 0, 0, 0]).toArray 5 := ⟨_, rfl⟩
        obtain ⟨M3, hM3⟩ : ∃ M : MadeW m, M = MadeW.rdl _ ([96, 0, 0, 0] ++ nb 2 l.length) := ⟨_, rfl⟩
        obtain ⟨M7, hM7⟩ : ∃ M : MadeW m, M = MadeW.row _ (fun b => .slice (some ⟨b, 0, none⟩) 2 2) (List.map B [p.nx, p.hops]).toArray 5 := ⟨_, rfl⟩
        obtain ⟨M8, hM8⟩ : ∃ M : MadeW m, M = MadeW.own _ [] hd := ⟨_, rfl⟩
        have H0 := Lib.hid hM0; have H3 := Lib.hid hM3; have H7 := Lib.hid hM7; have H8 := Lib.hid hM8; have HHD := Lib.hid hhd
        clear hM0 hM3 hM7 hM8 hhd
        refine wp_region_e (m) ([.row 0 H0, .rdl 3 H3, .row 7 H7, .own 8 H8]) (fun k => (([(3, [0]), (8, [3, 7])] : List (Nat × List Nat)).lookup k).getD []) (Fs.nil) (by first | omega | (simp <;> omega)) (by kernel_rfl) (by kernel_rfl) (by kernel_rfl) (by kernel_rfl) EnvW.Ini.nil ?_
        refine walkW_mk (fun _ => M0) [] M0 ([]) facts0 (by kernel_rfl) (by kernel_rfl) (by kernel_rfl) rfl rfl (fun w' hb' hg' => ?_) (fun v0 h0 => ?_)
        · unfold madeAtW
          go_simp
          ((refine row_mk (b := w'.heap.size) H0 ((Below.refl _ _).alloc (Nat.le_refl _) _) (show m ≤ w'.heap.size by have := hb'.size; omega) (show m ≤ w'.heap.size by have := hb'.size; omega) ?_; exact bk_alloc_at _ _ _ rfl))
        obtain ⟨b0, m0, rfl⟩ := row_T H0 h0
        simp only [Act.put, List.setIfInBounds_toArray, List.set_cons_succ, List.set_cons_zero, Nat.reduceAdd]
        refine walkW_segn 2 [] facts0 noneHx (by kernel_rfl) (by kernel_rfl) ?_
        simp only [List.take_succ_cons, List.take_zero, List.drop_succ_cons, List.drop_zero, Nat.reduceAdd]
        repeat (go_big_quiet_step (fail))
        (first | refine wpQuiet_nil ?_ | (go_big_quiet_want; (try go_big_quiet_op); trace_state; fail))
        refine walkW_mk (fun _ => M3) [] M3 ([(0, M0.R (.slice (some ⟨b0, 0, none⟩) 4 4))]) (facts1 fun w h => h.1 rfl) (by kernel_rfl) (by kernel_rfl) (by kernel_rfl) rfl rfl (fun w' hb' hg' => ?_) (fun v3 h3 => ?_)
        · unfold madeAtW
          go_simp
          ((have kb := row_R H0 (fun b b' h => by simpa using h) (hg' _ (.head _)); exact rdl_put H3 (l := [96, 0, 0, 0]) (some ⟨b0, 0, none⟩) 4 l.length 2 2 rfl rfl w' (Rd.of_bk (L := [96, 0, 0, 0]) kb (bk_lt kb) (fun j h => by simp [List.getElem?_eq_getElem h])) (fun h => by cases h) (by simp) (by omega) (by omega) (by have := hb'.size; omega)))
        obtain ⟨g3, rfl⟩ := rdl_T H3 h3
        simp only [Act.put, List.setIfInBounds_toArray, List.set_cons_succ, List.set_cons_zero, Nat.reduceAdd]
        refine walkW_segn 3 [] facts0 noneHx (by kernel_rfl) (by kernel_rfl) ?_
        simp only [List.take_succ_cons, List.take_zero, List.drop_succ_cons, List.drop_zero, Nat.reduceAdd]
        repeat (go_big_quiet_step (fail))
        (first | refine wpQuiet_nil ?_ | (go_big_quiet_want; (try go_big_quiet_op); trace_state; fail))
        refine walkW_mk (fun _ => M7) [] M7 ([]) facts0 (by kernel_rfl) (by kernel_rfl) (by kernel_rfl) rfl rfl (fun w' hb' hg' => ?_) (fun v7 h7 => ?_)
        · unfold madeAtW
          go_simp
          ((refine row_mk (b := w'.heap.size) H7 ((Below.refl _ _).alloc (Nat.le_refl _) _) (show m ≤ w'.heap.size by have := hb'.size; omega) (show m ≤ w'.heap.size by have := hb'.size; omega) ?_; exact bk_alloc_at _ _ _ rfl))
        obtain ⟨b7, m7, rfl⟩ := row_T H7 h7
        simp only [Act.put, List.setIfInBounds_toArray, List.set_cons_succ, List.set_cons_zero, Nat.reduceAdd]
        refine walkW_mk (fun _ => M8) [] M8 ([(3, M3.R (.slice (some ⟨g3, 0, none⟩) ([96, 0, 0, 0] ++ nb 2 l.length).length ([96, 0, 0, 0] ++ nb 2 l.length).length)), (7, M7.R (.slice (some ⟨b7, 0, none⟩) 2 2))]) (facts2 (fun w h => h.2.1 rfl) (fun w h => h.1 rfl)) (by kernel_rfl) (by kernel_rfl) (by kernel_rfl) rfl rfl (fun w' hb' hg' => ?_) (fun v8 h8 => ?_)
        · ((have kb := row_R H7 (fun b b' h => by simpa using h) (hg' _ (.tail _ (.head _))); exact grow_mk rfl H8 (l1 := [96, 0, 0, 0] ++ nb 2 l.length) (l2 := [p.nx, p.hops]) HHD.out rfl (rdl_R H3 (hg' _ (.head _))) rfl (Rd.of_bk (L := [p.nx, p.hops]) kb (bk_lt kb) (fun j h => by simp [List.getElem?_eq_getElem h])) (by simp) (by simp [nb_length]) (by have := hb'.size; omega)))
        obtain ⟨A8, c8, rfl, n8, le8⟩ := own_T H8 h8
        simp only [Act.put, List.setIfInBounds_toArray, List.set_cons_succ, List.set_cons_zero, Nat.reduceAdd]
        refine walkW_segn 1 [] facts0 noneHx (by kernel_rfl) (by kernel_rfl) ?_
        simp only [List.take_succ_cons, List.take_zero, List.drop_succ_cons, List.drop_zero, Nat.reduceAdd]
        repeat (go_big_quiet_step (fail))
        (first | refine wpQuiet_nil ?_ | (go_big_quiet_want; (try go_big_quiet_op); trace_state; fail))
        refine walkW_nil ?_
        intro w8 b8 hf
        have ho8 := own_R H8 ((hf 8 (by kernel_rfl)).1 rfl)
        obtain ⟨_, _, eq8, hR8, _, _⟩ := Rd.of_own ho8 rfl
        cases eq8
        rw [HMM.out] at b8
        replace K0 := Lib.hid (bk_keep b8 (bk_lt K0.out) K0.out)
        replace HR := Lib.hid ((HR.out.below b8 (Nat.le_refl _)).mono b8.size)
        replace RM := Lib.hid ((RM.out.below b8 (Nat.le_refl _)).mono b8.size)
        replace F := Lib.hid (F.out.trans (b8.mono F.out.size))
        have R8 := Lib.hid hR8; have N8 := Lib.hid n8
        clear b8 hf ho8 hR8 c32 c39 e3 lx hmle
        have c39 := (bk_cell K0.out 39).trans (pkC_body p A l.length c)
        have lx := bk_lt K0.out
        go_upto_region 16 with fail
        obtain ⟨m2, hm2⟩ : ∃ m, m = w8.heap.size := ⟨_, rfl⟩
        rw [← hm2] at lx
        obtain ⟨Mr, hMr⟩ : ∃ M : Made m2, M = Made.row m2 (fun b => .slice (some ⟨b, 0, none⟩) 5 5) (.cells #[.slice A8 hd.length c8, .slice (some ⟨x, 0, none⟩) 16 16, .slice (some ⟨x, 16, none⟩) 16 16, .slice (none : Option Addr) (([] : List UInt8)).length 0, .slice A l.length c] 28 (0, 0)) := ⟨_, rfl⟩
        have hPL : (pkB p l).length < 2 ^ 40 := by unfold pkB; rw [List.length_append, List.length_append, List.length_append, List.length_append, List.length_append, List.length_append, nb_length, p.hs, p.hd, ← HMO.out]; have := HMS.out; simp only [List.length_cons, List.length_nil]; omega
        obtain ⟨Mg, hMg⟩ : ∃ M : Made m2, M = Made.ow m2 (pkB p l) hPL := ⟨_, rfl⟩
        have Hr := Lib.hid hMr; have Hg := Lib.hid hMg
        clear hMr hMg
        refine wp_region_made (m2) (fun k => ([(8, Mr), (9, Mg)] : List (Nat × Made m2)).lookup k) (by first | omega | (simp <;> omega)) (by kernel_rfl) (by kernel_rfl) ?_
        refine walk_segn 8 ([]) facts0 (by kernel_rfl) (by kernel_rfl) ?_
        simp only [List.take_succ_cons, List.take_zero, List.drop_succ_cons, List.drop_zero, Nat.reduceAdd]
        repeat (go_big_quiet_step (fail))
        (first | refine wpQuiet_nil ?_ | (go_big_quiet_want; (try go_big_quiet_op); trace_state; fail))
        refine walk_mkop Mr ([]) facts0 (by kernel_rfl) (by kernel_rfl) (by kernel_rfl) (fun w' hb' hg' => ?_) (fun v _ hAt => ?_)
        · unfold madeAt
          go_simp
          ((exact row_box Hr (by have := hb'.size; omega)))
        obtain ⟨br, hmbr, rfl, hnbr, hibr, rb⟩ := made_at Hr (by intro b b' h; simpa using h) 8 hAt
        clear hAt
        simp only [Act.put, List.setIfInBounds_toArray, List.set_cons_succ, List.set_cons_zero, Nat.reduceAdd]
        refine walk_mkop Mg [(8, Mr.R (.slice (some ⟨br, 0, none⟩) 5 5))] (facts1 fun w h => h.1 rfl) (by kernel_rfl) (by kernel_rfl) (by kernel_rfl) (fun w' hb' hg' => ?_) (fun v hT hAt => ?_)
        · unfold madeAt
          go_simp
          have kb := rb w' (hg' _ (List.mem_singleton.2 rfl))
          have k0' := bk_keep hb' lx K0.out
          have hsz := hb'.size
          have hs16 := p.hs; have hd16 := p.hd
          have hhl : hd.length = 8 := by rw [HHD.out]; simp [nb_length]
          have hfl : flat [(A8, hd, c8), (some ⟨x, 0, none⟩, p.src, 16), (some ⟨x, 16, none⟩, p.dst, 16), ((none : Option Addr), ([] : List UInt8), 0), (A, l, c)] = pkB p l := by
            unfold pkB
            rw [HFB.out, ← HSS.out, ← HHD.out, ← HMO.out]
            simp [flat]
          have hln : (pkB p l).length = 40 + l.length := by rw [← hfl, hS0.out]; simp [flat, hhl, hs16, hd16]; omega
          have CC := concat_any br [(A8, hd, c8), (some ⟨x, 0, none⟩, p.src, 16), (some ⟨x, 16, none⟩, p.dst, 16), ((none : Option Addr), ([] : List UInt8), 0), (A, l, c)] 28 (0, 0) w' (by rw [kb]; simp [Src.v, hs16, hd16]) (fun q hq => by
            simp only [List.mem_cons, List.not_mem_nil, or_false] at hq
            rcases hq with rfl | rfl | rfl | rfl | rfl
            · exact ⟨(R8.out.below (by rw [← hm2]; exact hb') (Nat.le_refl _)).mono (by omega), N8.out⟩
            · exact ⟨Rd.src k0' (bk_lt k0'), fun h => by cases h⟩
            · exact ⟨Rd.dst k0' (bk_lt k0'), fun h => by cases h⟩
            · exact ⟨(RM.out.below (by rw [← hm2]; exact hb') (Nat.le_refl _)).mono (by omega), RN.out⟩
            · exact ⟨(HR.out.below (by rw [← hm2]; exact hb') (Nat.le_refl _)).mono (by omega), HA.out⟩) (by rw [hfl, hln]; omega) (by simp)
          rw [hfl] at CC
          refine CC.mono ?_
          rintro e w9 ⟨v9, rfl, ho9, b9⟩
          obtain ⟨A9', c9', rfl, _, _, hle9⟩ := Rd.of_own ho9 rfl
          exact ow_end Hg b9 (World.ownsRow.mono ho9 (by omega))
        obtain ⟨A9', c9', rfl⟩ := ow_T Hg hT
        clear hT hAt
        simp only [Act.put, List.setIfInBounds_toArray, List.set_cons_succ, List.set_cons_zero, Nat.reduceAdd]
        refine walk_segn 2 ([]) facts0 (by kernel_rfl) (by kernel_rfl) ?_
        simp only [List.take_succ_cons, List.take_zero, List.drop_succ_cons, List.drop_zero, Nat.reduceAdd]
        repeat (go_big_quiet_step (fail))
        (first | refine wpQuiet_nil ?_ | (go_big_quiet_want; (try go_big_quiet_op); trace_state; fail))
        refine walk_nil ?_
        intro w9 hb9 hf
        have G9 := ow_R Hg ((hf 9).1 rfl)
        rw [hm2] at hb9
        have F9 := Lib.hid (F.out.trans (hb9.mono F.out.size))
        have GG := Lib.hid (World.ownsRow.mono G9 (show w.heap.size ≤ m2 by rw [hm2]; exact F.out.size))
        clear hb9 hf G9 c39
        go_wp2_with fail
        go_ret2
        exact ⟨by unfold PutGot; rw [hbd.out]; exact ⟨A9', c9', rfl, GG.out⟩, F9.out⟩
end Go.Proofs.Ytbfiakikhkiefaa

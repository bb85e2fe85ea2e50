import Derived.Test.YtfldoihindbdmaaF7
import Derived.Maps.OwnSet
import Derived.Maps.OwnOps
import Derived.Maps.Views
import Derived.ScopeJumps
import Derived.WalkMore
import Derived.RangeFuncNested
import Derived.RangeFuncBound
import Derived.RangeFuncCalls
import Derived.RangeFuncLeaves
import Derived.RangeFuncFrom
import Derived.Shelf.Abstract
import Derived.Shelf.RegionOpen
import Derived.Sort.QuietIn
import Derived.OwnWalkIn
import Derived.TacticsInMore
import Derived.LoopNIn
import Derived.LoopIn
import Derived.ControlIn
import Derived.Deep.RegionHeld3
/- Infos: options of bytes, as a map. -/
namespace Go.Proofs.Ytfldoihindbdmaa
open Go.RowKit
set_option maxRecDepth 100000
set_option maxHeartbeats 1000000
theorem law64 : Maps.Keyed Try.prog 29 := Maps.int_keyed Try.underlying29
theorem wf64 {q : Nat} (h : q < 18446744073709551616) : (Lit.int .u64 (q : Int)).wf = true := by
  unfold Lit.wf; rw [Bool.and_eq_true, decide_eq_true_eq, decide_eq_true_eq]; exact ⟨by show (0 : Int) ≤ _; omega, by show _ ≤ (18446744073709551615 : Int); omega⟩
theorem key64 {q : Nat} (h : q < 18446744073709551616) : keyOf Try.prog 29 (.int .u64 (q : Int)) = some (.int .u64 (q : Int)) := Maps.keyOf_int_mk Try.underlying29 (wf64 h)
theorem zeroS (w : World) : (zeroValue 22).run Try.prog w = .ok (.slice none 0 0) w := by rfl
def RV (v : Value) : Option (DataW Value × List MemPlace) := some (.held v, [])
/-- The map at g holds these values. -/
def MapIs (w : World) (g n : Nat) (M : Nat → Option Value) : Prop :=
  ∃ D : DataW Value, w.ownsMap Try.prog 29 RV g n D ∧ Maps.IsMap D ∧ ∀ k : Nat, k < 18446744073709551616 → Maps.has D (.int .u64 (k : Int)) = (M k).isSome ∧ ∀ z, D.atKey (.int .u64 (k : Int)) z = match M k with | some v => .held v | none => z
theorem MapIs.made (w : World) : MapIs (w.alloc (.map #[] 0)) w.heap.size 0 (fun _ => none) :=
  ⟨.map [], World.ownsMap_made w Try.prog 29 RV, Maps.isMap_empty, fun k hk => ⟨rfl, fun z => rfl⟩⟩
theorem MapIs.turn {F : Nat → Prop} {w w' : World} {g n : Nat} {M : Nat → Option Value} (h : MapIs w g n M) (ht : Tn F w w') (hF : ¬ F g) : MapIs w' g n M := by
  obtain ⟨D, ⟨es, clock, h1, h2⟩, h3⟩ := h
  have hlt : g < w.heap.size := (Array.getElem?_eq_some_iff.1 h1).1
  exact ⟨D, ⟨es, clock, (show bk w' g = _ from (ht.old g hlt hF).trans h1), h2⟩, h3⟩
theorem MapIs.lt {w : World} {g n : Nat} {M : Nat → Option Value} (h : MapIs w g n M) : g < w.heap.size := by
  obtain ⟨D, h1, _⟩ := h
  exact h1.lt
theorem keyLit (k : Nat) (hk : k < 18446744073709551616) : WideAt.IsKeyLit (.int .u64 (k : Int)) := trivial
theorem MapIs.put {w' : World} {g n k : Nat} {M : Nat → Option Value} {D : DataW Value} {v : Value} (hI : Maps.IsMap D) (hA : ∀ k : Nat, k < 18446744073709551616 → Maps.has D (.int .u64 (k : Int)) = (M k).isSome ∧ ∀ z, D.atKey (.int .u64 (k : Int)) z = match M k with | some v => .held v | none => z)
    (hk : k < 18446744073709551616) (ho : w'.ownsMap Try.prog 29 RV g n (D.put (.int .u64 (k : Int)) (.held v))) : MapIs w' g n (fun j => if j = k then some v else M j) := by
  refine ⟨_, ho, hI.put _ _, fun j hj => ?_⟩
  by_cases h : j = k
  · subst h
    simp only [if_pos]
    exact ⟨Maps.has_put_same hI (keyLit j hj) _, fun z => Maps.atKey_put_same hI (keyLit j hj) _ z⟩
  · simp only [if_neg h]
    have hne : (Lit.int .u64 (j : Int)) ≠ Lit.int .u64 (k : Int) := fun e => h (by injection e with _ e; omega)
    obtain ⟨h1, h2⟩ := hA j hj
    exact ⟨(Maps.has_put_other hne _).trans h1, fun z => (Maps.atKey_put_other hne _ z).trans (h2 z)⟩
theorem MapIs.look {w : World} {g n k : Nat} {M : Nat → Option Value} (h : MapIs w g n M) (hk : k < 18446744073709551616) :
    (Instr.lookup 70 (.map (some g)) (.int .u64 (k : Int)) false).run Try.prog w = .ok ((M k).getD (.slice none 0 0)) w := by
  obtain ⟨D, h1, h2, h3⟩ := h
  obtain ⟨v, ps, hr, hv⟩ := h1.lookup law64 Try.underlying70 (zeroS w) (z := .slice none 0 0) (zd := .held (.slice none 0 0)) (zp := []) rfl (key64 hk)
  rw [hr]
  have e := (h3 k hk).2 (.held (.slice none 0 0))
  rw [e] at hv
  cases hm : M k with
  | none => rw [hm] at hv; simp [RV] at hv; rw [hv.1]; rfl
  | some u => rw [hm] at hv; simp [RV] at hv; rw [hv.1]; rfl
theorem MapIs.look_ok {w : World} {g n k : Nat} {M : Nat → Option Value} (h : MapIs w g n M) (hk : k < 18446744073709551616) :
    (Instr.lookup 70 (.map (some g)) (.int .u64 (k : Int)) true).run Try.prog w = .ok (.tuple #[(M k).getD (.slice none 0 0), .bool (M k).isSome]) w := by
  obtain ⟨D, h1, h2, h3⟩ := h
  obtain ⟨v, ps, hr, hv⟩ := h1.look_ok law64 Try.underlying70 (zeroS w) (z := .slice none 0 0) (zd := .held (.slice none 0 0)) (zp := []) rfl (key64 hk)
  rw [hr, (h3 k hk).1]
  have e := (h3 k hk).2 (.held (.slice none 0 0))
  rw [e] at hv
  cases hm : M k with
  | none => rw [hm] at hv; simp [RV] at hv; rw [hv.1]; rfl
  | some u => rw [hm] at hv; simp [RV] at hv; rw [hv.1]; rfl
/-- Whole options, one behind the other. -/
inductive Opts : List UInt8 → List (Nat × List UInt8) → Prop
  | nil : Opts [] []
  | cons (b : List UInt8) (n : Nat) (ol : List (Nat × List UInt8)) (h4 : 4 ≤ b.length) (hn : val ((b.drop 2).take 2) = n) (hl : 4 + n ≤ b.length) (hr : Opts (b.drop (4 + n)) ol) : Opts b ((val (b.take 2), (b.drop 4).take n) :: ol)
/-- Each code's first one lies there. -/
def DoneM (w : World) (lo : Nat) (ol : List (Nat × List UInt8)) (M : Nat → Option Value) : Prop :=
  ∀ k, match ol.lookup k with | none => M k = none | some d => ∃ b o c, M k = some (.slice (some ⟨b, o, none⟩) d.length c) ∧ Rd w w.heap.size (some ⟨b, o, none⟩) d ∧ lo ≤ b ∧ d.length ≤ c ∧ c < 2 ^ 63
theorem DoneM.turn {F : Nat → Prop} {w w' : World} {lo : Nat} {ol : List (Nat × List UInt8)} {M : Nat → Option Value} (h : DoneM w lo ol M) (ht : Tn F w w') (hF : ∀ k, F k → k < lo) : DoneM w' lo ol M := fun k => by
  have := h k
  split at this
  · exact this
  · obtain ⟨b, o, c, e, hr, hlo⟩ := this
    exact ⟨b, o, c, e, rd_turn hr ht fun b' o' q hf => by cases q; have := hF _ hf; omega, hlo⟩
theorem own_empty (w : World) (n : Nat) (hn : n ≤ w.heap.size) : (w.alloc (.cells #[] 5 (0, 0))).ownsRow n 5 1 (.slice (some ⟨w.heap.size, 0, none⟩) 0 0) 0 [] :=
  ⟨rfl, .inr ⟨w.heap.size, 0, #[], rfl, hn, bk_alloc_at _ _ _ rfl, Nat.le_refl _, Nat.zero_le _, rfl, rfl⟩⟩
theorem run_copy {w : World} (n h : Nat) (m : List UInt8) (hown : w.ownsRow n 5 1 (.slice (some ⟨h, 0, none⟩) 0 0) 0 []) (A : Option Addr) (c : Nat) (hr : Rd w w.heap.size A m) (hA : A = none → m = [] ∧ c = 0) (hn : n ≤ w.heap.size) (hl : m.length < 2 ^ 46) (ty : TypeId) :
    ∃ b c' w', (Builtin.append_ #[22, 22] ty #[.slice (some ⟨h, 0, none⟩) 0 0, .slice A m.length c]).run Try.prog w = .ok (.slice (some ⟨b, 0, none⟩) m.length c') w' ∧ w'.ownsRow n 5 1 (.slice (some ⟨b, 0, none⟩) m.length c') m.length (m.map B) ∧ w.grownBy w' (some h) := by
  obtain ⟨i0, hi, hz0, hz1, hz2⟩ := info_parts infoB
  cases A with
  | none =>
    obtain ⟨rfl, rfl⟩ := hA rfl
    refine ⟨h, 0, w, ?_, hown, ⟨rfl, rfl, rfl, Nat.le_refl _, fun _ _ _ => rfl⟩⟩
    simp [Builtin.append_, run_underlying (P := Try.prog) Try.underlying22, sizeOf, typeInfo, hi, Builtin.lenOf, Builtin.firstCells, loadCells, loadCellsFrom, storeCells]
  | some ad =>
    obtain ⟨v', w', h1, h2, h3, h4, h5⟩ := run_append_own_at (P := Try.prog) w n 22 ty 5 i0 (.int .u8 0) 1 1 Try.underlying22 hi hz0 hz1 hz2 rfl (by decide) _ 0 [] hown ad m.length c (m.map B) (by simp) hr.news (B_one m) (by unfold maxLen; omega) (by omega) hn
    rw [Nat.zero_add, List.nil_append] at h2
    rcases h2.2 with ⟨q, q1⟩ | ⟨g, cap, cur, q, q1⟩
    · have := (h4.1 q).1
      cases this
    · exact ⟨g, cap, w', by rw [h1, q], ⟨h2.1, .inr ⟨g, cap, cur, rfl, q1⟩⟩, h3⟩
theorem wpList_copy {w : World} {ops : Array Oper} {rest : List Oper} {o : Oper} {a : Act} {Q : Exit → Act → World → Prop} (hgd : o.guard = none) (s x : Operand)
    (ho : o.op = .call { callee := .builtin .append, args := #[s, x], argTypes := #[22, 22] })
    (n h : Nat) (m : List UInt8) (k : Nat) (hs : a.eval s = .slice (some ⟨h, 0, none⟩) 0 0) (hown : w.ownsRow n 5 1 (.slice (some ⟨h, 0, none⟩) 0 0) 0 []) (A : Option Addr) (c : Nat) (hx : a.eval x = .slice A k c) (hk : k = m.length) (hr : Rd w w.heap.size A m) (hA : A = none → m = [] ∧ c = 0) (hn : n ≤ w.heap.size) (hl : m.length < 2 ^ 46)
    (hh : ∀ b c' w', w'.ownsRow n 5 1 (.slice (some ⟨b, 0, none⟩) m.length c') m.length (m.map B) → w.grownBy w' (some h) → wpList Try.prog ops Q rest (a.put o.dst (.slice (some ⟨b, 0, none⟩) m.length c')) w') :
    wpList Try.prog ops Q (o :: rest) a w := by
  subst hk
  obtain ⟨b, c', w', h1, h2, h3⟩ := run_copy n h m hown A c hr hA hn hl o.type
  refine wpList_plain hgd fun K hK => ?_
  unfold Oper.wp execOp
  simp only [ho, resolve, invoke, builtin, Sem.run_bind, Sem.run_pure, Result.andThen_ok, List.map_toArray, List.map_cons, List.map_nil, hs, hx, h1]
  exact hK _ _ (hh _ _ w' h2 h3)
/-- How many bytes a cutter holds. -/
def mCut (a : Act) (w : World) : Nat :=
  match a.tmps.getD 5 undef with
  | .pointer (some p) => (match w.cell? p with | some (.slice _ n _) => n | _ => 0)
  | _ => 0
theorem mCut_eq {a : Act} {w : World} {gc : Nat} {l : List UInt8} (h : a.tmps.getD 5 undef = .pointer (some ⟨gc, 0, none⟩)) (hk : KC w gc l) : mCut a w = l.length := by
  obtain ⟨A, c, h1, _⟩ := hk
  unfold mCut
  rw [h]
  simp only
  rw [bk_cell h1]
  rfl
structure OptsAt (w0 w : World) (b : List UInt8) (ol : List (Nat × List UInt8)) (g gc n : Nat) (M : Nat → Option Value) (rest : List UInt8) (done todo : List (Nat × List UInt8)) : Prop where
  kc : KC w gc rest
  map : MapIs w g n M
  dn : DoneM w (gc + 1) done M
  op : Opts rest todo
  all : ol = done ++ todo
  ge : w0.heap.size ≤ g
  lt : g < gc
  bel : Below w0.heap.size w0 w
  sz : n + rest.length < 2 ^ 30
def OptJ (w0 : World) (A : Option Addr) (b : List UInt8) (c : Nat) (ol : List (Nat × List UInt8)) (a : Act) (w : World) : Prop :=
  ∃ (g gc n : Nat) (M : Nat → Option Value) (rest : List UInt8) (done todo : List (Nat × List UInt8)) (u1 u2 u3 u6 u7 u8 u9 u10 u11 u12 u13 u14 u15 u16 u17 u18 u19 u20 u21 u22 u23 u24 u25 u26 u27 u28 u29 u30 u31 u32 u33 u34 u35 : Value), a = { tmps := #[.slice A b.length c, u1, u2, u3, .map (some g), .pointer (some ⟨gc, 0, none⟩), u6, u7, u8, u9, u10, u11, u12, u13, u14, u15, u16, u17, u18, u19, u20, u21, u22, u23, u24, u25, u26, u27, u28, u29, u30, u31, u32, u33, u34, u35], defers := [] } ∧ OptsAt w0 w b ol g gc n M rest done todo
theorem OptJ.mk {w0 w : World} {A : Option Addr} {b : List UInt8} {c : Nat} {ol : List (Nat × List UInt8)} {g gc n : Nat} {M : Nat → Option Value} {rest : List UInt8} {done todo : List (Nat × List UInt8)} {u1 u2 u3 u6 u7 u8 u9 u10 u11 u12 u13 u14 u15 u16 u17 u18 u19 u20 u21 u22 u23 u24 u25 u26 u27 u28 u29 u30 u31 u32 u33 u34 u35 : Value} (h : OptsAt w0 w b ol g gc n M rest done todo) :
    OptJ w0 A b c ol { tmps := #[.slice A b.length c, u1, u2, u3, .map (some g), .pointer (some ⟨gc, 0, none⟩), u6, u7, u8, u9, u10, u11, u12, u13, u14, u15, u16, u17, u18, u19, u20, u21, u22, u23, u24, u25, u26, u27, u28, u29, u30, u31, u32, u33, u34, u35], defers := [] } w := ⟨g, gc, n, M, rest, done, todo, _, _, _, _, _, _, _, _, _, _, _, _, _, _, _, _, _, _, _, _, _, _, _, _, _, _, _, _, _, _, _, _, _, rfl, h⟩
theorem mCut_lt {a a' : Act} {w w' : World} {gc : Nat} {l l' : List UInt8} (h : KC w gc l) (h' : KC w' gc l') (hl : l'.length < l.length) (ha : a.tmps.getD 5 undef = .pointer (some ⟨gc, 0, none⟩)) (ha' : a'.tmps.getD 5 undef = .pointer (some ⟨gc, 0, none⟩)) : mCut a' w' < mCut a w := by
  rw [mCut_eq ha h, mCut_eq ha' h']; exact hl
theorem DoneM.skip {w : World} {lo cd : Nat} {done : List (Nat × List UInt8)} {d0 dt : List UInt8} {M : Nat → Option Value} (h : DoneM w lo done M) (hl : List.lookup cd done = some d0) : DoneM w lo (done ++ [(cd, dt)]) M := fun j => by
  have hj := h j
  rw [List.lookup_append]
  by_cases e : j = cd
  · subst e
    rw [hl] at hj ⊢
    exact hj
  · have e2 : List.lookup j [(cd, dt)] = none := by
      have : (j == cd) = false := beq_eq_false_iff_ne.2 e
      simp [List.lookup, this]
    rw [e2, Option.or_none]
    exact hj
theorem DoneM.add {w : World} {lo cd bb oo cc : Nat} {done : List (Nat × List UInt8)} {dt : List UInt8} {M : Nat → Option Value} (h : DoneM w lo done M) (hl : List.lookup cd done = none) (hr : Rd w w.heap.size (some ⟨bb, oo, none⟩) dt) (hlo : lo ≤ bb ∧ dt.length ≤ cc ∧ cc < 2 ^ 63) :
    DoneM w lo (done ++ [(cd, dt)]) (fun j => if j = cd then some (.slice (some ⟨bb, oo, none⟩) dt.length cc) else M j) := fun j => by
  have hj := h j
  rw [List.lookup_append]
  by_cases e : j = cd
  · subst e
    rw [hl] at hj ⊢
    have e2 : List.lookup j [(j, dt)] = some dt := by simp [List.lookup]
    rw [e2, Option.none_or]
    simp only [if_pos]
    exact ⟨bb, oo, cc, rfl, hr, hlo⟩
  · have e2 : List.lookup j [(cd, dt)] = none := by
      have : (j == cd) = false := beq_eq_false_iff_ne.2 e
      simp [List.lookup, this]
    rw [e2, Option.or_none]
    simp only [if_neg e]
    exact hj
theorem KC.map {w w' : World} {gc g : Nat} {l : List UInt8} {es : Array MapEntry} {ck : Nat} (h : KC w gc l) (hg : bk w g = some (.map es ck)) (ht : Tn (fun j => j = g) w w') (hne : gc ≠ g) : KC w' gc l := by
  obtain ⟨A, c, h1, h2, h3⟩ := h
  refine ⟨A, c, ht.keep (fun e => hne e) h1, fun h0 => ?_, h3⟩
  obtain ⟨b, o, e, hlt, hc⟩ := h2 h0
  have hbg : b ≠ g := fun q => by
    subst q
    have := hc 0 h0
    have hg' : w.heap[b]? = some (.map es ck) := hg
    simp [World.cell?, hg'] at this
  have hbl : b < w.heap.size := Nat.lt_trans hlt (bk_lt h1)
  refine ⟨b, o, e, hlt, fun j hj => ?_⟩
  rw [← hc j hj]
  have h' : w'.heap[b]? = w.heap[b]? := ht.old b hbl hbg
  simp only [World.cell?, h']
theorem Opts.inv {b : List UInt8} {ol : List (Nat × List UInt8)} (h : Opts b ol) : (b = [] ∧ ol = []) ∨ ∃ n ol2, 4 ≤ b.length ∧ val ((b.drop 2).take 2) = n ∧ 4 + n ≤ b.length ∧ ol = (val (b.take 2), (b.drop 4).take n) :: ol2 ∧ Opts (b.drop (4 + n)) ol2 := by
  cases h with
  | nil => exact .inl ⟨rfl, rfl⟩
  | cons _ n ol2 h4 hn hl hr => exact .inr ⟨_, _, h4, hn, hl, rfl, hr⟩
theorem options_any (A : Option Addr) (b : List UInt8) (c : Nat) (w : World) (h : Rd w w.heap.size A b) (hA : A = none → b = [] ∧ c = 0) (hl : b.length < 2 ^ 30) (ol : List (Nat × List UInt8)) (ho : Opts b ol) :
    Calls Try.prog 27 #[.slice A b.length c] w fun e w' => ∃ g n M lo, e = .returned (.tuple #[.map (some g), .bool true]) ∧ w.heap.size ≤ g ∧ g < lo ∧ MapIs w' g n M ∧ DoneM w' lo ol M ∧ Below w.heap.size w w' := by
  have HR := Lib.hid h
  have HA := Lib.hid hA
  have HOP := Lib.hid ho
  have HL := Lib.hid hl
  clear h hA ho hl
  go_enter Try.func27, Try.ntmps27
  go_wp2
  refine wp_scope_jumps 0 (OptJ w A b c ol) mCut rfl ?_ ?_
  · go_wp2_with fail
    rw [run_makeMap]
    have b1 : Below w.heap.size w (w.alloc (.map #[] 0)) := (Below.refl _ _).alloc (Nat.le_refl _) _
    have M1 := Lib.hid (MapIs.made w)
    have CO := Lib.hid (of_K A b c (w.alloc (.map #[] 0)) ((HR.out.below b1 (Nat.le_refl _)).mono b1.size) HA.out (by have := HL.out; omega))
    have B1 := Lib.hid b1
    clear b1
    go_wp2_with fail
    refine CO.out.mono ?_
    rintro e w1 ⟨gc, rfl, hgc, hkc, bc⟩
    have HO : Hid (OptsAt w w1 b ol w.heap.size gc 0 (fun _ => none) b [] ol) := Lib.hid ⟨hkc, M1.out.turn (Tn.of bc) (F := fun _ => False) (fun e => e), fun k => rfl, HOP.out, rfl, Nat.le_refl _, by rw [World.size_alloc] at hgc; omega, B1.out.trans (bc.mono B1.out.size), by have := HL.out; omega⟩
    clear hkc bc CO B1 M1 hgc
    go_wp2_with fail
    go_step3
    obtain ⟨M0, done0, n0, HO⟩ : ∃ M done n, Hid (OptsAt w w1 b ol w.heap.size gc n M b done ol) := ⟨_, _, _, HO⟩
    have CL := Lib.hid (left_K gc (b) w1 HO.out.kc)
    rcases HO.out.op.inv with ⟨hr, htd⟩ | ⟨k, ol2, h4, hkn, hkl, htd, hop⟩
    · have n1 : (((b).length : Int) == 0) = true := by rw [hr]; rfl
      have CB := Lib.hid (bad_K gc (b) w1 HO.out.kc)
      have HE : Hid (DoneM w1 (gc + 1) ol (M0)) := Lib.hid (by rw [HO.out.all, htd, List.append_nil]; exact HO.out.dn)
      clear hr htd
      go_wp2_with fail
      refine CL.out.mono ?_
      rintro e w1 ⟨rfl, rfl⟩
      go_wp2_with fail
      refine CB.out.mono ?_
      rintro e w1 ⟨rfl, rfl⟩
      clear CL CB
      go_wp2_with fail
      simp only [Exit.jump]
      go_ret2
      exact ⟨_, _, _, _, rfl, HO.out.ge, Nat.lt_succ_of_lt HO.out.lt, HO.out.map, HE.out, HO.out.bel⟩
    · have n1 : (((b).length : Int) == 0) = false := beq_eq_false_iff_ne.2 (by omega)
      have CN := Lib.hid (num_K gc (b) 2 w1 HO.out.kc (by decide) (by decide) (by omega))
      have hv1 := val_lt ((b).take 2)
      obtain ⟨cd, hcd⟩ : ∃ cd, cd = val ((b).take 2) := ⟨_, rfl⟩
      have hcd2 : cd < 65536 := by rw [hcd]; refine Nat.lt_of_lt_of_le hv1 (Nat.le_trans (Nat.pow_le_pow_right (by decide) (show _ ≤ 2 by rw [List.length_take]; omega)) (by decide))
      have hv2 := val_lt (List.take 2 (List.drop 2 (b)))
      have hk2 : k < 65536 := by rw [← hkn]; refine Nat.lt_of_lt_of_le hv2 (Nat.le_trans (Nat.pow_le_pow_right (by decide) (show _ ≤ 2 by rw [List.length_take]; omega)) (by decide))
      rw [← hcd] at CN htd
      have HKN := Lib.hid hkn
      have HTD := Lib.hid htd
      have HOP2 := Lib.hid hop
      have HKL := Lib.hid (And.intro h4 hkl)
      obtain ⟨dt, hdt⟩ : ∃ dt, dt = ((b).drop 4).take k := ⟨_, rfl⟩
      have hdl : dt.length = k := by rw [hdt, List.length_take, List.length_drop]; omega
      have HDT := Lib.hid (And.intro hdt hdl)
      clear hv1 hcd hv2 hkn htd hop h4 hkl hdt hdl
      go_wp2_with fail
      refine CL.out.mono ?_
      rintro e w1 ⟨rfl, rfl⟩
      go_wp2_with fail
      refine CN.out.mono ?_
      rintro e w2 ⟨rfl, hk2', ho2⟩
      have CN2 := Lib.hid (num_K gc (List.drop 2 (b)) 2 w2 hk2' (by decide) (by decide) (by rw [List.length_drop]; have := HKL.out.1; omega))
      rw [HKN.out, List.drop_drop] at CN2
      clear CL CN hk2'
      go_wp2_with fail
      refine CN2.out.mono ?_
      rintro e w3 ⟨rfl, hk3, ho3⟩
      have CY := Lib.hid (bytes_K gc (List.drop (2 + 2) (b)) k w3 hk3 (by rw [List.length_drop]; have := HKL.out; omega))
      rw [List.drop_drop] at CY
      clear CN2 hk3
      go_wp2_with fail
      refine CY.out.mono ?_
      rintro e w4 ⟨A4, rfl, hr4, hk4, ho4⟩
      have HO4 := Lib.hid ((ho2.trans ho3).trans ho4)
      have HK4 := Lib.hid hk4
      have HR4 := Lib.hid hr4
      have CB := Lib.hid (bad_K gc _ w4 hk4)
      clear ho2 ho3 ho4 hk4 hr4 CY
      go_wp2_with fail
      refine CB.out.mono ?_
      rintro e w5 ⟨rfl, rfl⟩
      have T4 : Tn (fun j => j = gc) w1 w4 := ⟨HO4.out.os, HO4.out.tape, HO4.out.output, Nat.le_of_eq HO4.out.size.symm, fun j _ hj => HO4.out.old j hj⟩
      have M4 := Lib.hid (HO.out.map.turn T4 (Nat.ne_of_lt HO.out.lt))
      have D4 := Lib.hid (HO.out.dn.turn T4 fun j hj => by rw [hj]; exact Nat.lt_succ_self _)
      have hlook := M4.out.look (k := cd) (by omega)
      have hd := D4.out cd
      have B14 : Below w.heap.size w w4 := HO.out.bel.trans (T4.below (n := w.heap.size) (fun j hj => by rw [hj]; have := HO.out.ge; have := HO.out.lt; omega) HO.out.bel.size)
      have HB4 := Lib.hid B14
      have e22 : 2 + 2 + k = 4 + k := rfl
      rw [e22] at HK4
      clear B14 CB e22
      cases hlk : List.lookup cd (done0) with
      | some d0 =>
        simp only [hlk] at hd
        obtain ⟨b0, o0, c0, e0, _, _⟩ := hd
        rw [e0] at hlook
        have hlook' : Sem.run Try.prog (Instr.lookup 70 (.map (some (w.heap.size))) (.int .u64 (cd : Int)) false) w4 = .ok (.slice (some ⟨b0, o0, none⟩) d0.length c0) w4 := hlook
        have HJ : Hid (OptsAt w w4 b ol (w.heap.size) gc (n0) (M0) (List.drop (4 + k) (b)) ((done0) ++ [(cd, dt)]) ol2) := Lib.hid ⟨HK4.out, M4.out, D4.out.skip hlk, HOP2.out, by rw [HO.out.all, HTD.out, HDT.out.1, List.append_assoc]; rfl, HO.out.ge, HO.out.lt, HB4.out, by have := HO.out.sz; rw [List.length_drop]; omega⟩
        have hm : (List.drop (4 + k) (b)).length < (b).length := by have := HKL.out; rw [List.length_drop]; omega
        clear hlook hlk T4
        go_wp2_with fail
        go_step3
        exact ⟨rfl, OptJ.mk HJ.out⟩
      | none =>
        simp only [hlk] at hd
        have hlook' : Sem.run Try.prog (Instr.lookup 70 (.map (some (w.heap.size))) (.int .u64 (cd : Int)) false) w4 = .ok (.slice none 0 0) w4 := by rw [hlook, hd]; rfl
        have HLK := Lib.hid hlk
        have HD := Lib.hid hd
        have lt4 := HK4.out.lt
        have E5 := Lib.hid (own_empty w4 w4.heap.size (Nat.le_refl _))
        have b45 : Below w4.heap.size w4 (w4.alloc (.cells #[] 5 (0, 0))) := (by (repeat (first | exact Below.refl _ _ | assumption | refine Below.drew ?_ | refine bdrewN ?_ _ | refine Below.alloc ?_ (by first | omega | (simp <;> omega) | (simp only [World.size_alloc] <;> omega)) _ | refine below_setRow ?_ (by first | omega | (simp <;> omega)) _ | refine Below.setCell ?_ (by first | omega | (simp <;> omega)) _)))
        have R5 : Hid (Rd (w4.alloc (.cells #[] 5 (0, 0))) (w4.alloc (.cells #[] 5 (0, 0))).heap.size A4 dt) := Lib.hid (by
          rw [HDT.out.1]; exact (HR4.out.below b45 (Nat.le_of_lt lt4)).mono (Nat.le_trans (Nat.le_of_lt lt4) b45.size))
        have N5 : Hid (A4 = none → dt = [] ∧ k = 0) := Lib.hid fun e => by
          have h1 := R5.out
          rw [e] at h1
          have h2 := Rd.none_nil h1
          have h3 := HDT.out.2
          rw [h2] at h3
          exact ⟨h2, h3.symm⟩
        have B45 := Lib.hid b45
        clear hlook hlk hd T4 b45
        go_wp2_with (at_builtin; refine wpList_copy rfl _ _ rfl w4.heap.size w4.heap.size dt k rfl E5.out A4 k rfl HDT.out.2.symm R5.out N5.out (by simp) (by rw [HDT.out.2]; omega) ?_)
        intro b6 c6 w6 ho6 hg6
        have b46 : Below w4.heap.size w4 w6 := B45.out.grown hg6 (by simp) (fun q hq => by cases hq; exact Nat.le_refl _)
        have t46 := Tn.of (F := fun _ => False) b46
        have M6 := M4.out.turn t46 (fun e => e)
        have D6 := D4.out.turn t46 (fun q hq => hq.elim)
        have K6 := HK4.out.keep b46 lt4
        have R6 : Rd w6 w6.heap.size (some ⟨b6, 0, none⟩) dt := by
          obtain ⟨A9, c9, e9, hR9, _, _⟩ := Rd.of_own ho6 rfl
          cases e9
          exact hR9
        have lo6 : gc + 1 ≤ b6 ∧ dt.length ≤ c6 ∧ c6 < 2 ^ 63 := by
          refine ⟨by have := (ho6.lt b6 rfl).1; omega, ?_⟩
          rcases ho6.2 with ⟨q, _⟩ | ⟨g9, cap9, cur9, q, _, _, hle9, hm9, _⟩
          · cases q
          · cases q
            exact ⟨hle9, by unfold maxLen at hm9; omega⟩
        have D7 := Lib.hid (D6.add (cc := c6) HLK.out R6 lo6)
        obtain ⟨D, hown, hI, hAt⟩ := M6
        obtain ⟨es, ck, hmap, _⟩ := id hown
        have K6' := Lib.hid K6
        have HMP := Lib.hid hmap
        have HAT := Lib.hid (And.intro hI hAt)
        have HB6 := Lib.hid (HB4.out.trans (b46.mono HB4.out.size))
        have hnm : (n0) < maxLen := by have := HO.out.sz; unfold maxLen; omega
        clear ho6 hg6 b46 t46 D6 K6 R6 lo6 hmap hI hAt E5 R5 N5 B45 hlook'
        go_wp2_with (at_mapUpdate; refine wpList_mapUpdate_in _ rfl _ _ _ 70 rfl 29 22 law64 Try.underlying70 RV (w.heap.size) _ _ rfl hown hnm _ _ _ rfl rfl (key64 (q := cd) (by omega)) _ [] rfl ?_; intro w7 hown7 hturn7)
        have t7 : Tn (fun j => j = (w.heap.size)) w6 w7 := by
          have hg := hturn7.grown
          exact ⟨hg.os, hg.tape, hg.output, hg.size, fun q hq hn => hg.block q hq (fun e => hn (by cases e; rfl))⟩
        have hglt := HO.out.lt
        have hgge := HO.out.ge
        have HJ : Hid (OptsAt w w7 b ol (w.heap.size) gc ((n0) + 1) (fun j => if j = cd then some (.slice (some ⟨b6, 0, none⟩) dt.length c6) else (M0) j) (List.drop (4 + k) (b)) ((done0) ++ [(cd, dt)]) ol2) := Lib.hid ⟨K6'.out.map HMP.out t7 (by omega), MapIs.put HAT.out.1 HAT.out.2 (by omega) hown7, D7.out.turn t7 (fun q hq => by rw [hq]; omega), HOP2.out, by rw [HO.out.all, HTD.out, HDT.out.1, List.append_assoc]; rfl, HO.out.ge, HO.out.lt, HB6.out.trans (t7.below (n := w.heap.size) (fun q hq => by rw [hq]; exact hgge) HB6.out.size), by have := HO.out.sz; have := HKL.out; rw [List.length_drop]; omega⟩
        have hm : (List.drop (4 + k) (b)).length < (b).length := by have := HKL.out; rw [List.length_drop]; omega
        clear hown7 hturn7 t7 hown D7 HAT K6' HMP
        go_wp2_with fail
        go_step3
        exact ⟨rfl, OptJ.mk HJ.out⟩
  · rintro a' w' ⟨g, gc, n, M, rest, done, todo, u1, u2, u3, u6, u7, u8, u9, u10, u11, u12, u13, u14, u15, u16, u17, u18, u19, u20, u21, u22, u23, u24, u25, u26, u27, u28, u29, u30, u31, u32, u33, u34, u35, rfl, HO⟩
    replace HO := Lib.hid HO
    have CL := Lib.hid (left_K gc (rest) w' HO.out.kc)
    rcases HO.out.op.inv with ⟨hr, htd⟩ | ⟨k, ol2, h4, hkn, hkl, htd, hop⟩
    · have n1 : (((rest).length : Int) == 0) = true := by rw [hr]; rfl
      have CB := Lib.hid (bad_K gc (rest) w' HO.out.kc)
      have HE : Hid (DoneM w' (gc + 1) ol (M)) := Lib.hid (by rw [HO.out.all, htd, List.append_nil]; exact HO.out.dn)
      clear hr htd
      go_wp2_with fail
      refine CL.out.mono ?_
      rintro e w1 ⟨rfl, rfl⟩
      go_wp2_with fail
      refine CB.out.mono ?_
      rintro e w1 ⟨rfl, rfl⟩
      clear CL CB
      go_wp2_with fail
      simp only [Exit.jump]
      go_ret2
      exact ⟨_, _, _, _, rfl, HO.out.ge, Nat.lt_succ_of_lt HO.out.lt, HO.out.map, HE.out, HO.out.bel⟩
    · have n1 : (((rest).length : Int) == 0) = false := beq_eq_false_iff_ne.2 (by omega)
      have CN := Lib.hid (num_K gc (rest) 2 w' HO.out.kc (by decide) (by decide) (by omega))
      have hv1 := val_lt ((rest).take 2)
      obtain ⟨cd, hcd⟩ : ∃ cd, cd = val ((rest).take 2) := ⟨_, rfl⟩
      have hcd2 : cd < 65536 := by rw [hcd]; refine Nat.lt_of_lt_of_le hv1 (Nat.le_trans (Nat.pow_le_pow_right (by decide) (show _ ≤ 2 by rw [List.length_take]; omega)) (by decide))
      have hv2 := val_lt (List.take 2 (List.drop 2 (rest)))
      have hk2 : k < 65536 := by rw [← hkn]; refine Nat.lt_of_lt_of_le hv2 (Nat.le_trans (Nat.pow_le_pow_right (by decide) (show _ ≤ 2 by rw [List.length_take]; omega)) (by decide))
      rw [← hcd] at CN htd
      have HKN := Lib.hid hkn
      have HTD := Lib.hid htd
      have HOP2 := Lib.hid hop
      have HKL := Lib.hid (And.intro h4 hkl)
      obtain ⟨dt, hdt⟩ : ∃ dt, dt = ((rest).drop 4).take k := ⟨_, rfl⟩
      have hdl : dt.length = k := by rw [hdt, List.length_take, List.length_drop]; omega
      have HDT := Lib.hid (And.intro hdt hdl)
      clear hv1 hcd hv2 hkn htd hop h4 hkl hdt hdl
      go_wp2_with fail
      refine CL.out.mono ?_
      rintro e w1 ⟨rfl, rfl⟩
      go_wp2_with fail
      refine CN.out.mono ?_
      rintro e w2 ⟨rfl, hk2', ho2⟩
      have CN2 := Lib.hid (num_K gc (List.drop 2 (rest)) 2 w2 hk2' (by decide) (by decide) (by rw [List.length_drop]; have := HKL.out.1; omega))
      rw [HKN.out, List.drop_drop] at CN2
      clear CL CN hk2'
      go_wp2_with fail
      refine CN2.out.mono ?_
      rintro e w3 ⟨rfl, hk3, ho3⟩
      have CY := Lib.hid (bytes_K gc (List.drop (2 + 2) (rest)) k w3 hk3 (by rw [List.length_drop]; have := HKL.out; omega))
      rw [List.drop_drop] at CY
      clear CN2 hk3
      go_wp2_with fail
      refine CY.out.mono ?_
      rintro e w4 ⟨A4, rfl, hr4, hk4, ho4⟩
      have HO4 := Lib.hid ((ho2.trans ho3).trans ho4)
      have HK4 := Lib.hid hk4
      have HR4 := Lib.hid hr4
      have CB := Lib.hid (bad_K gc _ w4 hk4)
      clear ho2 ho3 ho4 hk4 hr4 CY
      go_wp2_with fail
      refine CB.out.mono ?_
      rintro e w5 ⟨rfl, rfl⟩
      have T4 : Tn (fun j => j = gc) w' w4 := ⟨HO4.out.os, HO4.out.tape, HO4.out.output, Nat.le_of_eq HO4.out.size.symm, fun j _ hj => HO4.out.old j hj⟩
      have M4 := Lib.hid (HO.out.map.turn T4 (Nat.ne_of_lt HO.out.lt))
      have D4 := Lib.hid (HO.out.dn.turn T4 fun j hj => by rw [hj]; exact Nat.lt_succ_self _)
      have hlook := M4.out.look (k := cd) (by omega)
      have hd := D4.out cd
      have B14 : Below w.heap.size w w4 := HO.out.bel.trans (T4.below (n := w.heap.size) (fun j hj => by rw [hj]; have := HO.out.ge; have := HO.out.lt; omega) HO.out.bel.size)
      have HB4 := Lib.hid B14
      have e22 : 2 + 2 + k = 4 + k := rfl
      rw [e22] at HK4
      clear B14 CB e22
      cases hlk : List.lookup cd (done) with
      | some d0 =>
        simp only [hlk] at hd
        obtain ⟨b0, o0, c0, e0, _, _⟩ := hd
        rw [e0] at hlook
        have hlook' : Sem.run Try.prog (Instr.lookup 70 (.map (some (g))) (.int .u64 (cd : Int)) false) w4 = .ok (.slice (some ⟨b0, o0, none⟩) d0.length c0) w4 := hlook
        have HJ : Hid (OptsAt w w4 b ol (g) gc (n) (M) (List.drop (4 + k) (rest)) ((done) ++ [(cd, dt)]) ol2) := Lib.hid ⟨HK4.out, M4.out, D4.out.skip hlk, HOP2.out, by rw [HO.out.all, HTD.out, HDT.out.1, List.append_assoc]; rfl, HO.out.ge, HO.out.lt, HB4.out, by have := HO.out.sz; rw [List.length_drop]; omega⟩
        have hm : (List.drop (4 + k) (rest)).length < (rest).length := by have := HKL.out; rw [List.length_drop]; omega
        clear hlook hlk T4
        go_wp2_with fail
        go_step3
        exact ⟨rfl, OptJ.mk HJ.out, mCut_lt HO.out.kc HJ.out.kc hm rfl rfl⟩
      | none =>
        simp only [hlk] at hd
        have hlook' : Sem.run Try.prog (Instr.lookup 70 (.map (some (g))) (.int .u64 (cd : Int)) false) w4 = .ok (.slice none 0 0) w4 := by rw [hlook, hd]; rfl
        have HLK := Lib.hid hlk
        have HD := Lib.hid hd
        have lt4 := HK4.out.lt
        have E5 := Lib.hid (own_empty w4 w4.heap.size (Nat.le_refl _))
        have b45 : Below w4.heap.size w4 (w4.alloc (.cells #[] 5 (0, 0))) := (by (repeat (first | exact Below.refl _ _ | assumption | refine Below.drew ?_ | refine bdrewN ?_ _ | refine Below.alloc ?_ (by first | omega | (simp <;> omega) | (simp only [World.size_alloc] <;> omega)) _ | refine below_setRow ?_ (by first | omega | (simp <;> omega)) _ | refine Below.setCell ?_ (by first | omega | (simp <;> omega)) _)))
        have R5 : Hid (Rd (w4.alloc (.cells #[] 5 (0, 0))) (w4.alloc (.cells #[] 5 (0, 0))).heap.size A4 dt) := Lib.hid (by
          rw [HDT.out.1]; exact (HR4.out.below b45 (Nat.le_of_lt lt4)).mono (Nat.le_trans (Nat.le_of_lt lt4) b45.size))
        have N5 : Hid (A4 = none → dt = [] ∧ k = 0) := Lib.hid fun e => by
          have h1 := R5.out
          rw [e] at h1
          have h2 := Rd.none_nil h1
          have h3 := HDT.out.2
          rw [h2] at h3
          exact ⟨h2, h3.symm⟩
        have B45 := Lib.hid b45
        clear hlook hlk hd T4 b45
        go_wp2_with (at_builtin; refine wpList_copy rfl _ _ rfl w4.heap.size w4.heap.size dt k rfl E5.out A4 k rfl HDT.out.2.symm R5.out N5.out (by simp) (by rw [HDT.out.2]; omega) ?_)
        intro b6 c6 w6 ho6 hg6
        have b46 : Below w4.heap.size w4 w6 := B45.out.grown hg6 (by simp) (fun q hq => by cases hq; exact Nat.le_refl _)
        have t46 := Tn.of (F := fun _ => False) b46
        have M6 := M4.out.turn t46 (fun e => e)
        have D6 := D4.out.turn t46 (fun q hq => hq.elim)
        have K6 := HK4.out.keep b46 lt4
        have R6 : Rd w6 w6.heap.size (some ⟨b6, 0, none⟩) dt := by
          obtain ⟨A9, c9, e9, hR9, _, _⟩ := Rd.of_own ho6 rfl
          cases e9
          exact hR9
        have lo6 : gc + 1 ≤ b6 ∧ dt.length ≤ c6 ∧ c6 < 2 ^ 63 := by
          refine ⟨by have := (ho6.lt b6 rfl).1; omega, ?_⟩
          rcases ho6.2 with ⟨q, _⟩ | ⟨g9, cap9, cur9, q, _, _, hle9, hm9, _⟩
          · cases q
          · cases q
            exact ⟨hle9, by unfold maxLen at hm9; omega⟩
        have D7 := Lib.hid (D6.add (cc := c6) HLK.out R6 lo6)
        obtain ⟨D, hown, hI, hAt⟩ := M6
        obtain ⟨es, ck, hmap, _⟩ := id hown
        have K6' := Lib.hid K6
        have HMP := Lib.hid hmap
        have HAT := Lib.hid (And.intro hI hAt)
        have HB6 := Lib.hid (HB4.out.trans (b46.mono HB4.out.size))
        have hnm : (n) < maxLen := by have := HO.out.sz; unfold maxLen; omega
        clear ho6 hg6 b46 t46 D6 K6 R6 lo6 hmap hI hAt E5 R5 N5 B45 hlook'
        go_wp2_with (at_mapUpdate; refine wpList_mapUpdate_in _ rfl _ _ _ 70 rfl 29 22 law64 Try.underlying70 RV (g) _ _ rfl hown hnm _ _ _ rfl rfl (key64 (q := cd) (by omega)) _ [] rfl ?_; intro w7 hown7 hturn7)
        have t7 : Tn (fun j => j = (g)) w6 w7 := by
          have hg := hturn7.grown
          exact ⟨hg.os, hg.tape, hg.output, hg.size, fun q hq hn => hg.block q hq (fun e => hn (by cases e; rfl))⟩
        have hglt := HO.out.lt
        have hgge := HO.out.ge
        have HJ : Hid (OptsAt w w7 b ol (g) gc ((n) + 1) (fun j => if j = cd then some (.slice (some ⟨b6, 0, none⟩) dt.length c6) else (M) j) (List.drop (4 + k) (rest)) ((done) ++ [(cd, dt)]) ol2) := Lib.hid ⟨K6'.out.map HMP.out t7 (by omega), MapIs.put HAT.out.1 HAT.out.2 (by omega) hown7, D7.out.turn t7 (fun q hq => by rw [hq]; omega), HOP2.out, by rw [HO.out.all, HTD.out, HDT.out.1, List.append_assoc]; rfl, HO.out.ge, HO.out.lt, HB6.out.trans (t7.below (n := w.heap.size) (fun q hq => by rw [hq]; exact hgge) HB6.out.size), by have := HO.out.sz; have := HKL.out; rw [List.length_drop]; omega⟩
        have hm : (List.drop (4 + k) (rest)).length < (rest).length := by have := HKL.out; rw [List.length_drop]; omega
        clear hown7 hturn7 t7 hown D7 HAT K6' HMP
        go_wp2_with fail
        go_step3
        exact ⟨rfl, OptJ.mk HJ.out, mCut_lt HO.out.kc HJ.out.kc hm rfl rfl⟩
end Go.Proofs.Ytfldoihindbdmaa
/- Infos: an answer without names and servers. -/
namespace Go.Proofs.Ytfldoihindbdmaa
open Go.RowKit Go.Shelf
attribute [local go_sem] Oper.semAt_some
set_option maxRecDepth 100000
set_option maxHeartbeats 1000000
theorem names_nil (w : World) : Calls Try.prog 61 #[.slice none 0 0] w fun e w' => e = .returned (.slice none 0 0) ∧ w = w' := by
  go_enter Try.func61, Try.ntmps61
  go_wp2
  go_step3
  go_wp2
  go_step3
  go_wp2
  go_loopw [0, 2] (fun bv ov wr => bv = .slice none 0 0 ∧ ov = .slice none 0 0 ∧ w = wr) (fun _ _ _ => 0)
  case atStart => exact ⟨rfl, rfl, rfl⟩
  case round =>
    obtain ⟨rfl, rfl, rfl⟩ := hrel
    go_wp2
    rw [Exit.noGoto_ret]
    go_ret
    exact ⟨rfl, rfl⟩
theorem clipA_nil (w : World) : Calls Try.prog 59 #[.slice none 0 0] w fun e w' => e = .returned (.slice none 0 0) ∧ w = w' := by
  go_enter Try.func59, Try.ntmps59
  go_wp2
  go_ret
  exact ⟨rfl, rfl⟩
theorem clipT_nil (w : World) : Calls Try.prog 60 #[.slice none 0 0] w fun e w' => e = .returned (.slice none 0 0) ∧ w = w' := by
  go_enter Try.func60, Try.ntmps60
  go_wp2
  go_ret
  exact ⟨rfl, rfl⟩
theorem chunk_in (n : Nat) (w : World) :
    CallsIn Fence.wide n Try.prog 58 #[.slice none 0 0, .int .i64 16] w fun e w' => e = .returned (.func (.func 79) #[] #[.pointer (some ⟨w.heap.size, 0, none⟩), .pointer (some ⟨w.heap.size + 1, 0, none⟩)]) ∧ w' = (w.alloc (.cells #[.slice none 0 0] 22)).alloc (.cells #[.int .i64 16] 3) := by
  refine callsIn_of_wp Try.func58 rfl trivial ?_ rfl
  simp only [Try.ntmps58, List.size_toArray, List.length_cons, List.length_nil, Nat.reduceAdd, Nat.reduceSub, Array.replicate_succ, Array.replicate_zero, List.push_toArray, List.append_toArray, List.nil_append, List.cons_append]
  gi_wp2
  go_ret
  exact ⟨rfl, rfl⟩
theorem chunk0_in (n : Nat) (l b1 b2 : Nat) (J Jx : List Nat → World → Prop) (row : Nat → Array Value) (W : World) (h1 : W.cell? ⟨b1, 0, none⟩ = some (.slice none 0 0)) (h0 : J [] W) :
    CallsIn Fence.wide n Try.prog 79 #[.func (.yield l) #[] #[], .pointer (some ⟨b1, 0, none⟩), .pointer (some ⟨b2, 0, none⟩)] W fun e W' => (∃ v, e = .returned v) ∧
      ((∃ ys, ys = [] ∧ J ys W') ∨ (∃ pre : List Nat, False ∧ Jx pre W')) := by
  refine callsIn_of_wp Try.func79 rfl trivial ?_ rfl
  simp only [Try.ntmps79, List.size_toArray, List.length_cons, List.length_nil, Nat.reduceAdd, Nat.reduceSub, Array.replicate_succ, Array.replicate_zero, List.push_toArray, List.append_toArray, List.nil_append, List.cons_append]
  gi_wp2
  gi_loopw [4] (fun i wr => i = .int .i64 0 ∧ W = wr) (fun _ _ => 0)
  case atStart => exact ⟨rfl, rfl⟩
  case round =>
    obtain ⟨rfl, rfl⟩ := hrel
    gi_wp2
    go_end0
    exact ⟨⟨_, rfl⟩, .inl ⟨_, rfl, h0⟩⟩
end Go.Proofs.Ytfldoihindbdmaa
/- Infos: an answer without names and servers. -/
namespace Go.Proofs.Ytfldoihindbdmaa
open Go.RowKit Go.Shelf
attribute [local go_sem] Oper.semAt_some
set_option maxRecDepth 100000
set_option maxHeartbeats 1000000
@[go_sem ↓] theorem ldAn (dst : Option Tmp) (x : Operand) (t : TypeId) (pos : String) (af : Array Edge) (g : Option (Nat × Bool)) (a : Act) (w : World) (K : Act → World → Prop) (Q : Exit → Act → World → Prop) :
    Oper.wp Try.prog ⟨dst, .load 36 x, t, pos, af, g⟩ a w K Q = ldPtr (wpHid Try.prog ⟨dst, .load 36 x, t, pos, af, g⟩ a w K Q) 3 w (fun c => K (a.put dst (.agg c)) w) (a.eval x) :=
  wp_load_bk 36 3 _ Try.underlying36 rfl (by kernel_rfl) dst x t pos af g a w K Q
@[go_sem ↓] theorem stAn (dst : Option Tmp) (x y : Operand) (t : TypeId) (pos : String) (af : Array Edge) (g : Option (Nat × Bool)) (a : Act) (w : World) (K : Act → World → Prop) (Q : Exit → Act → World → Prop) :
    Oper.wp Try.prog ⟨dst, .store 36 x y, t, pos, af, g⟩ a w K Q = stPtr (wpHid Try.prog ⟨dst, .store 36 x y, t, pos, af, g⟩ a w K Q) 3 w (fun w' => K (a.put dst undef) w') (a.eval x) (a.eval y) :=
  wp_store_bk 36 3 (by kernel_rfl) dst x y t pos af g a w K Q
@[go_sem ↓] theorem qlAn (dst : Option Tmp) (x : Operand) (t : TypeId) (pos : String) (af : Array Edge) (g : Option (Nat × Bool)) (a : Act) (m : Nat) (W : World) (K : Act → Prop) :
    Oper.quiet Try.prog ⟨dst, .load 36 x, t, pos, af, g⟩ a (fun w' => ∃ x : Later m W, w' = x.w) K =
      ldLater (quietHid Try.prog ⟨dst, .load 36 x, t, pos, af, g⟩ a (fun w' => ∃ x : Later m W, w' = x.w) K) m 3 W (fun c => K (a.put dst (.agg c))) (a.eval x) :=
  quiet_load_bk 36 3 _ Try.underlying36 rfl (by kernel_rfl) dst x t pos af g a m W K
/-- How long an answer is fresh. -/
def frsh (d : Option (List UInt8)) : Nat :=
  match d with
  | some d => if d.length = 4 then max 600 (val d) else 86400
  | none => 86400
def ansC (f : Nat) : Array Value := #[.slice none 0 0, .slice none 0 0, .int .u32 (f : Int)]
def At32 (w : World) (M : Nat → Option Value) (d : Option (List UInt8)) : Prop :=
  match d with
  | none => M 32 = none
  | some d => ∃ b o c, M 32 = some (.slice (some ⟨b, o, none⟩) d.length c) ∧ Rd w w.heap.size (some ⟨b, o, none⟩) d ∧ d.length < 2 ^ 40
theorem At32.below {w w' : World} {M : Nat → Option Value} {d : Option (List UInt8)} (h : At32 w M d) (hb : Below w.heap.size w w') : At32 w' M d := by
  unfold At32 at h ⊢
  cases d with
  | none => exact h
  | some d =>
    obtain ⟨b, o, c, h1, h2, h3⟩ := h
    exact ⟨b, o, c, h1, (h2.below hb (Nat.le_refl _)).mono hb.size, h3⟩
theorem ansC_ones (f : Nat) : ones (ansC f).toList = true := rfl
theorem ansC_size (f : Nat) : (ansC f).size = 3 := rfl
theorem answer_in (n : Nat) (hn : 4 ≤ n) (g nn : Nat) (M : Nat → Option Value) (d : Option (List UInt8)) (w : World) (hM : MapIs w g nn M) (h23 : M 23 = none) (h24 : M 24 = none) (h32 : At32 w M d) :
    CallsIn Fence.wide n Try.prog 28 #[.map (some g)] w fun e w' => e = .returned (.agg (ansC (frsh d))) ∧ Below w.heap.size w w' := by
  have h1 : 1 ≤ n := by omega
  have HM := Lib.hid hM; have H23 := Lib.hid h23; have H24 := Lib.hid h24; have H32 := Lib.hid h32
  clear hM h23 h24 h32
  refine callsIn_of_wp_marks Try.func28 rfl trivial ?_ rfl
  simp only [Try.ntmps28, List.size_toArray, List.length_cons, List.length_nil, Nat.reduceAdd, Nat.reduceSub, Array.replicate_succ, Array.replicate_zero, List.push_toArray, List.append_toArray, List.nil_append, List.cons_append]
  refine wpIn_wide.2 ?_
  go_upto_region 1 with fail
  have b1 : Below w.heap.size w (w.alloc (.cells (ansC 0) 36 (0, 0))) := (Below.refl _ _).alloc (Nat.le_refl _) _
  have K1 := Lib.hid (bk_alloc_at w (.cells (ansC 0) 36 (0, 0)) _ rfl)
  have M1 := Lib.hid (HM.out.turn (Tn.of b1) (F := fun _ => False) (fun e => e))
  have A1 := Lib.hid (H32.out.below b1)
  have B1 := Lib.hid b1
  change Code.wp _ _ _ _ (w.alloc (.cells (ansC 0) 36 (0, 0)))
  clear b1
  generalize w.alloc (.cells (ansC 0) 36 (0, 0)) = w1 at *
  have hl : Sem.run Try.prog (Instr.lookup 70 (.map (some g)) (.int .u64 23) false) w1 = .ok (.slice none 0 0) w1 := by
    have h := M1.out.look (k := 23) (by decide)
    rw [H23.out] at h
    exact h
  have CK := Lib.hid ((callsIn_wide (n := 1)).1 (chunk_in 1 w1))
  go_wp2_with fail
  refine CK.out.mono ?_
  rintro e w2 ⟨rfl, rfl⟩
  clear hl CK
  have b2 : Below w1.heap.size w1 ((w1.alloc (.cells #[.slice none 0 0] 22)).alloc (.cells #[.int .i64 16] 3)) := (by (repeat (first | exact Below.refl _ _ | assumption | refine Below.drew ?_ | refine bdrewN ?_ _ | refine Below.alloc ?_ (by first | omega | (simp <;> omega) | (simp only [World.size_alloc] <;> omega)) _ | refine below_setRow ?_ (by first | omega | (simp <;> omega)) _ | refine Below.setCell ?_ (by first | omega | (simp <;> omega)) _)))
  have L2 : (w1.alloc (.cells #[.slice none 0 0] 22)).heap.size = w1.heap.size + 1 := World.size_alloc _ _
  have kb : bk ((w1.alloc (.cells #[.slice none 0 0] 22)).alloc (.cells #[.int .i64 16] 3)) w1.heap.size = some (.cells #[.slice none 0 0] 22 (0, 0)) := (bk_alloc_past _ _ _ (by omega)).trans (bk_alloc_at _ _ _ rfl)
  have hlt : w1.heap.size < ((w1.alloc (.cells #[.slice none 0 0] 22)).alloc (.cells #[.int .i64 16] 3)).heap.size := by simp <;> omega
  have K2 := Lib.hid (bk_keep b2 (bk_lt K1.out) K1.out)
  have M2 := Lib.hid (M1.out.turn (Tn.of b2) (F := fun _ => False) (fun e => e))
  have A2 := Lib.hid (A1.out.below b2)
  have B2 := Lib.hid (B1.out.trans (b2.mono B1.out.size))
  have KB := Lib.hid kb
  have HLT := Lib.hid hlt
  clear b2 L2 kb hlt K1 M1 A1 B1
  go_wp2_with fail
  generalize (w1.alloc (.cells #[.slice none 0 0] 22)).alloc (.cells #[.int .i64 16] 3) = w2 at *
  refine (wpIn_wide (n := n)).1 ?_
  refine wpIn_rangeFunc_ownF rfl h1 (gf := 79) (lb := #[.pointer (some ⟨w1.heap.size, 0, none⟩), .pointer (some ⟨w1.heap.size + 1, 0, none⟩)]) rfl trivial (enters_of Try.func79 (by kernel_rfl) rfl)
    (encs := fun _ : Nat => #[.slice none 0 0]) (Kp := fun _ _ => True) (S := fun ys => ys = []) (Sp := fun _ => False) (N := 0) (w0 := w2)
    (fun l J Jx W hW _ _ _ h0 => chunk0_in (n - 1) l _ _ J Jx (fun _ => #[]) W ((hW.cell (p := ⟨w1.heap.size, 0, none⟩) HLT.out).trans (bk_cell KB.out 0)) h0)
    (fun _ _ => trivial) (fun _ _ _ _ _ _ _ _ => trivial) (Below.refl _ _) (fun _ => rfl)
    (fun _ W => Below w2.heap.size w2 W) (fun _ _ _ => False) (ownFrom_below (Nat.le_refl _) (Nat.le_refl _)) (fun _ _ _ _ _ hs _ _ => hs) (Below.refl _ _)
    (fun _ => { tmps := #[.map (some g), undef, .pointer (some ⟨w.heap.size, 0, none⟩), .slice none 0 0, undef, .map (some g), .slice none 0 0, .func (.func 79) #[] #[.pointer (some ⟨w1.heap.size, 0, none⟩), .pointer (some ⟨w1.heap.size + 1, 0, none⟩)], .slice none 0 0, undef, undef, undef, undef, undef, undef, undef, undef, undef, undef, undef, undef, undef, undef, undef, undef, undef, undef, undef, undef, undef, undef, undef, undef, undef, undef, undef, undef, undef, undef, undef, undef, undef, undef], defers := [] }) ?assign ?body ?done ?stop
  case assign =>
    intro l x W K hK
    gi_wp2
    exact hK
  case body =>
    intro l pre x W _ hlt
    exact absurd hlt (Nat.not_lt_zero _)
  case stop =>
    rintro D c pre W _ h _ _
    exact h.elim
  case done =>
    rintro D ys W hD rfl hB hK
    have K3 := Lib.hid (bk_keep hB (bk_lt K2.out) K2.out)
    have M3 := Lib.hid (M2.out.turn (Tn.of hB) (F := fun _ => False) (fun e => e))
    have A3 := Lib.hid (A2.out.below hB)
    have B3 := Lib.hid (B2.out.trans (hB.mono B2.out.size))
    have HD := Lib.hid (And.intro hK (Nat.le_trans B2.out.size hD))
    clear hB hK hD K2 M2 A2 B2 KB HLT
    have CA := Lib.hid (fun w' (_ : Below W.heap.size W w') => (clipA_nil w').mono (fun e w'' (q : e = .returned (.slice none 0 0) ∧ w' = w'') => (⟨q.1, q.2 ▸ Below.refl _ _⟩ : e = .returned (.slice none 0 0) ∧ Below w'.heap.size w' w'')))
    have CN := Lib.hid (fun w' (_ : Below W.heap.size W w') => (names_nil w').mono (fun e w'' (q : e = .returned (.slice none 0 0) ∧ w' = w'') => (⟨q.1, q.2 ▸ Below.refl _ _⟩ : e = .returned (.slice none 0 0) ∧ Below w'.heap.size w' w'')))
    have CT := Lib.hid (fun w' (_ : Below W.heap.size W w') => (clipT_nil w').mono (fun e w'' (q : e = .returned (.slice none 0 0) ∧ w' = w'') => (⟨q.1, q.2 ▸ Below.refl _ _⟩ : e = .returned (.slice none 0 0) ∧ Below w'.heap.size w' w'')))
    have LK : Hid (∀ w', Below W.heap.size W w' → Sem.run Try.prog (Instr.lookup 70 (.map (some g)) (.int .u64 24) false) w' = .ok (.slice none 0 0) w') := Lib.hid fun w' hb => by
      have h := (M3.out.turn (Tn.of hb) (F := fun _ => False) (fun e => e)).look (k := 24) (by decide)
      rw [H24.out] at h
      exact h
    go_upto_region 5 with fail
    have k3 := K3.out
    have c0 : W.cell? ⟨w.heap.size, 0, none⟩ = some (.slice none 0 0) := bk_cell K3.out 0
    have lx := bk_lt K3.out
    clear k3
    refine wp_region_later_tail (W.heap.size) 8 (by kernel_rfl) (by kernel_rfl) ?_
    simp only [List.take_succ_cons, List.take_zero, List.drop_succ_cons, List.drop_zero]
    repeat (go_big_quiet_step ((rename_i xq; first | (rw [LK.out xq.w xq.h]; exact ⟨rfl, rfl⟩) | exact later_call xq (Nat.le_refl _) (CA.out xq.w xq.h) | exact later_call xq (Nat.le_refl _) (CN.out xq.w xq.h) | exact later_call xq (Nat.le_refl _) (CT.out xq.w xq.h))))
    (first | refine wpQuiet_nil ?_ | (go_big_quiet_want; (try go_big_quiet_op); trace_state; fail))
    intro w4 hw'
    have b4 := later_elim hw'
    clear hw'
    have K4 := bk_keep b4 lx K3.out
    clear c0
    have l4 := bk_lt K4
    have f0 := bk_frozen K4 0; have f1 := bk_frozen K4 1; have f2 := bk_frozen K4 2
    have c0 : w4.cell? ⟨w.heap.size, 0, none⟩ = some (.slice none 0 0) := bk_cell K4 0
    have c1 : w4.cell? ⟨w.heap.size, 1, none⟩ = some (.slice none 0 0) := bk_cell K4 1
    have c2 : w4.cell? ⟨w.heap.size, 2, none⟩ = some (.int .u32 0) := bk_cell K4 2
    have HK4 := Lib.hid K4
    have M4 := Lib.hid (M3.out.turn (Tn.of b4) (F := fun _ => False) (fun e => e))
    have A4 := Lib.hid (A3.out.below b4)
    have B4 := Lib.hid (B3.out.trans (b4.mono B3.out.size))
    have HD4 : Hid (w4.heap[D]? = some (.deferred (some []))) := Lib.hid ((b4.block D (Array.getElem?_eq_some_iff.1 HD.out.1).1).trans HD.out.1)
    have HWD := Lib.hid HD.out.2
    clear K4 b4 CA CN CT LK K3 M3 A3 B3 HD lx
    go_upto_region 6 with fail
    have K5 : Hid (bk (((w4.setCell ⟨w.heap.size, 0, none⟩ (.slice none 0 0)).setCell ⟨w.heap.size, 1, none⟩ (.slice none 0 0)).setCell ⟨w.heap.size, 2, none⟩ (.int .u32 86400)) w.heap.size = some (.cells (ansC 86400) 36 (0, 0))) := Lib.hid (by
      rw [bk_setCell_same, bk_setCell_same, bk_setCell_same, HK4.out]; rfl)
    have t5 : Tn (fun j => j = w.heap.size) w4 (((w4.setCell ⟨w.heap.size, 0, none⟩ (.slice none 0 0)).setCell ⟨w.heap.size, 1, none⟩ (.slice none 0 0)).setCell ⟨w.heap.size, 2, none⟩ (.int .u32 86400)) := (((Tn.refl (fun j => j = w.heap.size) w4).set (g := w.heap.size) (.inl rfl)).set (g := w.heap.size) (.inl rfl)).set (g := w.heap.size) (.inl rfl)
    have hgw : g ≠ w.heap.size := Nat.ne_of_lt HM.out.lt
    have M5 := Lib.hid (M4.out.turn t5 hgw)
    have B5 := Lib.hid (((B4.out.setCell (p := ⟨w.heap.size, 0, none⟩) (Nat.le_refl _) (.slice none 0 0)).setCell (p := ⟨w.heap.size, 1, none⟩) (Nat.le_refl _) (.slice none 0 0)).setCell (p := ⟨w.heap.size, 2, none⟩) (Nat.le_refl _) (.int .u32 86400))
    have D5 : Hid (D ≠ w.heap.size → (((w4.setCell ⟨w.heap.size, 0, none⟩ (.slice none 0 0)).setCell ⟨w.heap.size, 1, none⟩ (.slice none 0 0)).setCell ⟨w.heap.size, 2, none⟩ (.int .u32 86400)).heap[D]? = some (.deferred (some []))) := Lib.hid fun hne => (t5.old D (Array.getElem?_eq_some_iff.1 HD4.out).1 hne).trans HD4.out
    have hDne : D ≠ w.heap.size := fun e => by
      have h1 := HD4.out
      rw [e] at h1
      have h2 : w4.heap[w.heap.size]? = _ := HK4.out
      rw [h2] at h1
      cases h1
    have HD5 := Lib.hid (D5.out hDne)
    have HNE := Lib.hid hDne
    have A5 : Hid (At32 (((w4.setCell ⟨w.heap.size, 0, none⟩ (.slice none 0 0)).setCell ⟨w.heap.size, 1, none⟩ (.slice none 0 0)).setCell ⟨w.heap.size, 2, none⟩ (.int .u32 86400)) M d) := Lib.hid (by
      have h0 := H32.out.below (w' := ((w4.setCell ⟨w.heap.size, 0, none⟩ (.slice none 0 0)).setCell ⟨w.heap.size, 1, none⟩ (.slice none 0 0)).setCell ⟨w.heap.size, 2, none⟩ (.int .u32 86400)) B5.out
      exact h0)
    clear t5 hgw M4 B4 A4 HD4 D5 hDne HK4 c0 c1 c2 f0 f1 f2 l4
    generalize ((w4.setCell ⟨w.heap.size, 0, none⟩ (.slice none 0 0)).setCell ⟨w.heap.size, 1, none⟩ (.slice none 0 0)).setCell ⟨w.heap.size, 2, none⟩ (.int .u32 86400) = w5 at *
    have hlk := M5.out.look (k := 32) (by decide)
    cases d with
    | none =>
      have e32 : M 32 = none := A5.out
      rw [e32] at hlk
      have hlk' : Sem.run Try.prog (Instr.lookup 70 (.map (some g)) (.int .u64 32) false) w5 = .ok (.slice none 0 0) w5 := hlk
      have CO := Lib.hid (of_K none [] 0 w5 Rd.nil (fun _ => ⟨rfl, rfl⟩) (by simp))
      have LK6 : Hid (∀ w', Below w5.heap.size w5 w' → Sem.run Try.prog (Instr.lookup 70 (.map (some g)) (.int .u64 32) false) w' = .ok (.slice none 0 0) w') := Lib.hid fun w' hb => by
        have h := (M5.out.turn (Tn.of hb) (F := fun _ => False) (fun e => e)).look (k := 32) (by decide)
        rw [e32] at h
        exact h
      clear hlk
      go_wp2_with fail
      refine CO.out.mono ?_
      rintro e w6 ⟨gc, rfl, hgc, hkc, b6⟩
      have hlk6 := LK6.out w6 b6
      have K6 := Lib.hid (bk_keep b6 (bk_lt K5.out) K5.out)
      have B6 := Lib.hid (B5.out.trans (b6.mono B5.out.size))
      have HD6 : Hid (w6.heap[D]? = some (.deferred (some []))) := Lib.hid ((b6.block D (Array.getElem?_eq_some_iff.1 HD5.out).1).trans HD5.out)
      have l6 := bk_lt K6.out
      clear CO LK6 hlk' hgc hkc b6 K5 M5 B5 HD5 A5
      go_upto_region 9 with fail
      have kv := (K6).out
      have os1 := ansC_ones (86400)
      have os2 := ansC_size (86400)
      have lv := bk_lt kv
      go_wp2_with fail
      have hK2 : ((w6).setRow w.heap.size (ansC (86400))).heap[D]? = some (.deferred (some [])) := (bk_setRow_other _ _ _ _ HNE.out).trans (HD6).out
      have kf : bk (((w6).setRow w.heap.size (ansC (86400))).putObj D (.deferred none)) w.heap.size = some (.cells (ansC (86400)) 36 (0, 0)) := by
        refine (World.putObj_heap_other (fun e => HNE.out e.symm)).trans ?_
        show bk ((w6).setRow w.heap.size (ansC (86400))) w.heap.size = _
        rw [bk_setRow_same, (K6).out]; rfl
      have hB9 : Below w.heap.size w (((w6).setRow w.heap.size (ansC (86400))).putObj D (.deferred none)) := by
        have h1 := below_setRow (B6).out (Nat.le_refl w.heap.size) (ansC (86400))
        exact h1.grown (grownBy_putObj' _ D (.deferred none)) h1.size (fun k e => by cases e; exact HWD.out)
      refine ⟨by simp, .inl ⟨_, _, rfl, run_takeDeferred hK2, ?_⟩⟩
      exact ⟨_, results_cell_row rfl _ _ w.heap.size 36 (ansC (86400)) (0, 0) _ rfl kf Try.underlying36 rfl (by rw [ansC_size]; kernel_rfl), rfl, hB9⟩
    | some d =>
      obtain ⟨b0, o0, c0, e32, hr5, hdl⟩ := A5.out
      rw [e32] at hlk
      have hlk' : Sem.run Try.prog (Instr.lookup 70 (.map (some g)) (.int .u64 32) false) w5 = .ok (.slice (some ⟨b0, o0, none⟩) d.length c0) w5 := hlk
      have CO := Lib.hid (of_K (some ⟨b0, o0, none⟩) d c0 w5 hr5 (fun h => by cases h) (by omega))
      have LK6 : Hid (∀ w', Below w5.heap.size w5 w' → Sem.run Try.prog (Instr.lookup 70 (.map (some g)) (.int .u64 32) false) w' = .ok (.slice (some ⟨b0, o0, none⟩) d.length c0) w') := Lib.hid fun w' hb => by
        have h := (M5.out.turn (Tn.of hb) (F := fun _ => False) (fun e => e)).look (k := 32) (by decide)
        rw [e32] at h
        exact h
      clear hlk hr5 hdl
      go_wp2_with fail
      refine CO.out.mono ?_
      rintro e w6 ⟨gc, rfl, hgc, hkc, b6⟩
      have hlk6 := LK6.out w6 b6
      have hgw : w.heap.size < gc := Nat.lt_of_lt_of_le (bk_lt K5.out) hgc
      have K6 := Lib.hid (bk_keep b6 (bk_lt K5.out) K5.out)
      have B6 := Lib.hid (B5.out.trans (b6.mono B5.out.size))
      have HD6 : Hid (w6.heap[D]? = some (.deferred (some []))) := Lib.hid ((b6.block D (Array.getElem?_eq_some_iff.1 HD5.out).1).trans HD5.out)
      have hDg : D < gc := Nat.lt_of_lt_of_le (Array.getElem?_eq_some_iff.1 HD5.out).1 hgc
      have l6 := bk_lt K6.out
      clear CO LK6 hlk' hgc b6 K5 M5 B5 HD5 A5
      by_cases h4 : d.length = 4
      · have n4 : ((d.length : Int) == 4) = true := by rw [h4]; rfl
        have CN := Lib.hid (num_K gc d 4 w6 hkc (by decide) (by decide) (by omega))
        have htk : d.take 4 = d := List.take_of_length_le (by omega)
        rw [htk] at CN
        obtain ⟨v, hv⟩ : ∃ v, v = val d := ⟨_, rfl⟩
        have hv32 : v < 4294967296 := by have h := val_lt d; rw [h4] at h; rw [hv]; exact h
        rw [← hv] at CN
        have hf : frsh (some d) = max 600 v := by unfold frsh; simp only [if_pos h4, hv]
        have HF := Lib.hid hf
        clear htk hv hf hkc h4
        go_wp2_with fail
        refine CN.out.mono ?_
        rintro e w7 ⟨rfl, _, ho7⟩
        have K7 : Hid (bk w7 w.heap.size = some (.cells (ansC 86400) 36 (0, 0))) := Lib.hid ((ho7.old _ (by omega)).trans K6.out)
        have B7 := Lib.hid (B6.out.trans (ho7.below (n := w.heap.size) (by omega)))
        have HD7 : Hid (w7.heap[D]? = some (.deferred (some []))) := Lib.hid ((ho7.old D (by omega)).trans HD6.out)
        have f2 := bk_frozen K7.out 2
        have c2 : w7.cell? ⟨w.heap.size, 2, none⟩ = some (.int .u32 86400) := bk_cell K7.out 2
        have l7 := bk_lt K7.out
        have FIN : ∀ F : Nat, Hid (bk (w7.setCell ⟨w.heap.size, 2, none⟩ (.int .u32 (F : Int))) w.heap.size = some (.cells (ansC F) 36 (0, 0))) ∧ Hid (Below w.heap.size w (w7.setCell ⟨w.heap.size, 2, none⟩ (.int .u32 (F : Int)))) ∧ Hid ((w7.setCell ⟨w.heap.size, 2, none⟩ (.int .u32 (F : Int))).heap[D]? = some (.deferred (some []))) := fun F =>
          ⟨Lib.hid (by rw [bk_setCell_same, K7.out]; rfl), Lib.hid (B7.out.setCell (p := ⟨w.heap.size, 2, none⟩) (Nat.le_refl _) _), Lib.hid ((bk_setCell_other _ _ _ _ _ HNE.out).trans HD7.out)⟩
        have HFIN := Lib.hid FIN
        clear ho7 CN K6 B6 HD6 FIN hgw hDg
        go_upto_region 9 with fail
        obtain ⟨F, hF⟩ : ∃ F, F = max 600 v := ⟨_, rfl⟩
        have hmx : (if (600 : Int) < (v : Int) then (v : Int) else 600) = (F : Int) := by split <;> omega
        rw [hmx]
        obtain ⟨K8, B8, HD8⟩ := HFIN.out F
        have HF8 : Hid (frsh (some d) = F) := Lib.hid (HF.out.trans hF.symm)
        clear hmx hF HF HFIN c2 f2 l7 B7 HD7 K7
        generalize w7.setCell ⟨w.heap.size, 2, none⟩ (.int .u32 (F : Int)) = w8 at *
        have kv := (K8).out
        have os1 := ansC_ones (F)
        have os2 := ansC_size (F)
        have lv := bk_lt kv
        go_wp2_with fail
        have hK2 : ((w8).setRow w.heap.size (ansC (F))).heap[D]? = some (.deferred (some [])) := (bk_setRow_other _ _ _ _ HNE.out).trans (HD8).out
        have kf : bk (((w8).setRow w.heap.size (ansC (F))).putObj D (.deferred none)) w.heap.size = some (.cells (ansC (F)) 36 (0, 0)) := by
          refine (World.putObj_heap_other (fun e => HNE.out e.symm)).trans ?_
          show bk ((w8).setRow w.heap.size (ansC (F))) w.heap.size = _
          rw [bk_setRow_same, (K8).out]; rfl
        have hB9 : Below w.heap.size w (((w8).setRow w.heap.size (ansC (F))).putObj D (.deferred none)) := by
          have h1 := below_setRow (B8).out (Nat.le_refl w.heap.size) (ansC (F))
          exact h1.grown (grownBy_putObj' _ D (.deferred none)) h1.size (fun k e => by cases e; exact HWD.out)
        refine ⟨by simp, .inl ⟨_, _, rfl, run_takeDeferred hK2, ?_⟩⟩
        exact ⟨_, results_cell_row rfl _ _ w.heap.size 36 (ansC (F)) (0, 0) _ rfl kf Try.underlying36 rfl (by rw [ansC_size]; kernel_rfl), (by rw [HF8.out]), hB9⟩
      · have n4 : ((d.length : Int) == 4) = false := beq_eq_false_iff_ne.2 (by omega)
        have HF : Hid (frsh (some d) = 86400) := Lib.hid (by unfold frsh; simp only [if_neg h4])
        clear h4 hkc hgw hDg
        go_upto_region 9 with fail
        have kv := (K6).out
        have os1 := ansC_ones (86400)
        have os2 := ansC_size (86400)
        have lv := bk_lt kv
        go_wp2_with fail
        have hK2 : ((w6).setRow w.heap.size (ansC (86400))).heap[D]? = some (.deferred (some [])) := (bk_setRow_other _ _ _ _ HNE.out).trans (HD6).out
        have kf : bk (((w6).setRow w.heap.size (ansC (86400))).putObj D (.deferred none)) w.heap.size = some (.cells (ansC (86400)) 36 (0, 0)) := by
          refine (World.putObj_heap_other (fun e => HNE.out e.symm)).trans ?_
          show bk ((w6).setRow w.heap.size (ansC (86400))) w.heap.size = _
          rw [bk_setRow_same, (K6).out]; rfl
        have hB9 : Below w.heap.size w (((w6).setRow w.heap.size (ansC (86400))).putObj D (.deferred none)) := by
          have h1 := below_setRow (B6).out (Nat.le_refl w.heap.size) (ansC (86400))
          exact h1.grown (grownBy_putObj' _ D (.deferred none)) h1.size (fun k e => by cases e; exact HWD.out)
        refine ⟨by simp, .inl ⟨_, _, rfl, run_takeDeferred hK2, ?_⟩⟩
        exact ⟨_, results_cell_row rfl _ _ w.heap.size 36 (ansC (86400)) (0, 0) _ rfl kf Try.underlying36 rfl (by rw [ansC_size]; kernel_rfl), (by rw [HF.out]), hB9⟩
theorem answer_any (g nn : Nat) (M : Nat → Option Value) (d : Option (List UInt8)) (w : World) (hM : MapIs w g nn M) (h23 : M 23 = none) (h24 : M 24 = none) (h32 : At32 w M d) :
    Calls Try.prog 28 #[.map (some g)] w fun e w' => e = .returned (.agg (ansC (frsh d))) ∧ Below w.heap.size w w' :=
  (callsIn_wide (n := 4)).1 (answer_in 4 (by omega) g nn M d w hM h23 h24 h32)
end Go.Proofs.Ytfldoihindbdmaa

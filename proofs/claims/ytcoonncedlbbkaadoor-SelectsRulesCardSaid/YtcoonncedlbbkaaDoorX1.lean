/- Selects: candidates; what most rules tell of two. -/
import Derived.Test.YtcoonncedlbbkaaDoorA2
import Derived.Test.YtcoonncedlbbkaaDoorA6
namespace Go.Proofs.YtcoonncedlbbkaaDoor
open Go.RowKit Ad
set_option maxRecDepth 100000
set_option maxHeartbeats 400000
@[go_sem ↓] theorem ldCd (dst : Option Tmp) (x : Operand) (t : TypeId) (pos : String) (af : Array Edge) (g : Option (Nat × Bool)) (a : Act) (w : World) (K : Act → World → Prop) (Q : Exit → Act → World → Prop) :
    Oper.wp Tryd.prog ⟨dst, .load 33 x, t, pos, af, g⟩ a w K Q = ldPtr (wpHid Tryd.prog ⟨dst, .load 33 x, t, pos, af, g⟩ a w K Q) 18 w (fun c => K (a.put dst (.agg c)) w) (a.eval x) :=
  wp_load_bk 33 18 _ Tryd.underlying33 rfl (by kernel_rfl) dst x t pos af g a w K Q
@[go_sem ↓] theorem stCd (dst : Option Tmp) (x y : Operand) (t : TypeId) (pos : String) (af : Array Edge) (g : Option (Nat × Bool)) (a : Act) (w : World) (K : Act → World → Prop) (Q : Exit → Act → World → Prop) :
    Oper.wp Tryd.prog ⟨dst, .store 33 x y, t, pos, af, g⟩ a w K Q = stPtr (wpHid Tryd.prog ⟨dst, .store 33 x y, t, pos, af, g⟩ a w K Q) 18 w (fun w' => K (a.put dst undef) w') (a.eval x) (a.eval y) :=
  wp_store_bk 33 18 (by kernel_rfl) dst x y t pos af g a w K Q
@[go_sem ↓] theorem qlCd (dst : Option Tmp) (x : Operand) (t : TypeId) (pos : String) (af : Array Edge) (g : Option (Nat × Bool)) (a : Act) (m : Nat) (W : World) (K : Act → Prop) :
    Oper.quiet Tryd.prog ⟨dst, .load 33 x, t, pos, af, g⟩ a (fun w' => ∃ x : Later m W, w' = x.w) K =
      ldLater (quietHid Tryd.prog ⟨dst, .load 33 x, t, pos, af, g⟩ a (fun w' => ∃ x : Later m W, w' = x.w) K) m 18 W (fun c => K (a.put dst (.agg c))) (a.eval x) :=
  quiet_load_bk 33 18 _ Tryd.underlying33 rfl (by kernel_rfl) dst x t pos af g a m W K
@[go_sem ↓] theorem ldCe (dst : Option Tmp) (x : Operand) (t : TypeId) (pos : String) (af : Array Edge) (g : Option (Nat × Bool)) (a : Act) (w : World) (K : Act → World → Prop) (Q : Exit → Act → World → Prop) :
    Oper.wp Tryd.prog ⟨dst, .load 36 x, t, pos, af, g⟩ a w K Q = ldPtr (wpHid Tryd.prog ⟨dst, .load 36 x, t, pos, af, g⟩ a w K Q) 18 w (fun c => K (a.put dst (.agg c)) w) (a.eval x) :=
  wp_load_bk 36 18 _ Tryd.underlying36 rfl (by kernel_rfl) dst x t pos af g a w K Q
@[go_sem ↓] theorem stCe (dst : Option Tmp) (x y : Operand) (t : TypeId) (pos : String) (af : Array Edge) (g : Option (Nat × Bool)) (a : Act) (w : World) (K : Act → World → Prop) (Q : Exit → Act → World → Prop) :
    Oper.wp Tryd.prog ⟨dst, .store 36 x y, t, pos, af, g⟩ a w K Q = stPtr (wpHid Tryd.prog ⟨dst, .store 36 x y, t, pos, af, g⟩ a w K Q) 18 w (fun w' => K (a.put dst undef) w') (a.eval x) (a.eval y) :=
  wp_store_bk 36 18 (by kernel_rfl) dst x y t pos af g a w K Q
@[go_sem ↓] theorem qlCe (dst : Option Tmp) (x : Operand) (t : TypeId) (pos : String) (af : Array Edge) (g : Option (Nat × Bool)) (a : Act) (m : Nat) (W : World) (K : Act → Prop) :
    Oper.quiet Tryd.prog ⟨dst, .load 36 x, t, pos, af, g⟩ a (fun w' => ∃ x : Later m W, w' = x.w) K =
      ldLater (quietHid Tryd.prog ⟨dst, .load 36 x, t, pos, af, g⟩ a (fun w' => ∃ x : Later m W, w' = x.w) K) m 18 W (fun c => K (a.put dst (.agg c))) (a.eval x) :=
  quiet_load_bk 36 18 _ Tryd.underlying36 rfl (by kernel_rfl) dst x t pos af g a m W K
/-- A candidate: its address, whether it is deprecated, whether it is temporary. -/
structure Cd where
  a : List UInt8
  d : Bool
  t : Bool
  h : a.length = 16
def Cd.row (c : Cd) : Array Value := (List.map B c.a ++ [Value.bool c.d, Value.bool c.t]).toArray
@[go_sem] theorem Cd.row_size (c : Cd) : c.row.size = 18 := by simp [Cd.row, c.h]
@[go_sem] theorem Cd.row_adr (c : Cd) : xt c.row 0 16 = (List.map B c.a).toArray := by simp [xt, Cd.row, List.extract_eq_take_drop, c.h]
@[go_sem] theorem Cd.row_all (c : Cd) : xt c.row 0 18 = c.row := xt_whole _ _ c.row_size
@[go_sem] theorem Cd.row_d (c : Cd) : c.row[16]? = some (.bool c.d) := by simp [Cd.row, c.h]
@[go_sem] theorem Cd.row_t (c : Cd) : c.row[17]? = some (.bool c.t) := by simp [Cd.row, c.h]
@[go_sem] theorem Cd.row_d' (c : Cd) (h : 16 < c.row.size) : c.row[16] = .bool c.d := by
  have := c.row_d
  rw [Array.getElem?_eq_getElem h] at this
  exact Option.some.inj this
@[go_sem] theorem Cd.row_t' (c : Cd) (h : 17 < c.row.size) : c.row[17] = .bool c.t := by
  have := c.row_t
  rw [Array.getElem?_eq_getElem h] at this
  exact Option.some.inj this
@[go_sem] theorem Cd.row_ones (c : Cd) : ones c.row.toList = true := by simp only [Cd.row, ones_append, ones_map]; rfl
attribute [irreducible] Cd.row
def byI (a b : Bool) : Int := if a && !b then 1 else if b && !a then -1 else 0
theorem by_any (a b : Bool) (w : World) : Calls Tryd.prog 26 #[.bool a, .bool b] w fun e w' => e = .returned (.int .i64 (byI a b)) ∧ Below w.heap.size w w' := by
  cases a <;> cases b <;>
  · go_enter Tryd.func26, Tryd.ntmps26
    go_wp2_with fail
    go_ret
    exact ⟨rfl, Below.refl _ _⟩
theorem scommon_any (a b : List UInt8) (ha : a.length = 16) (hb : b.length = 16) (w : World) : Calls Tryd.prog 32 #[av a, av b] w fun e w' => e = .returned (.int .i64 ((min 64 (common a b) : Nat) : Int)) ∧ Below w.heap.size w w' := by
  have C := Lib.hid (common_any a b ha hb)
  obtain ⟨n, hn⟩ : ∃ n, n = common a b := ⟨_, rfl⟩
  rw [← hn] at C ⊢
  have e1 : ((min 64 n : Nat) : Int) = min 64 (n : Int) := by omega
  rw [e1]
  clear hn e1
  go_enter Tryd.func32, Tryd.ntmps32
  go_wp2_with fail
  refine (C.out _).mono ?_
  rintro e w1 ⟨rfl, b1⟩
  have B1 := (((Below.refl w.heap.size w).alloc (Nat.le_refl _) (.cells (List.map B a).toArray 23)).alloc (by simp) (.cells (List.map B b).toArray 23)).trans (b1.mono (by simp; omega))
  clear b1 C
  go_wp2_with fail
  go_ret
  exact ⟨rfl, B1⟩
abbrev B3 (w : World) (dst : List UInt8) (a b : Cd) : World := ((w.alloc (.cells (List.map B dst).toArray 23)).alloc (.cells a.row 33)).alloc (.cells b.row 33)
theorem B3_below (w : World) (dst : List UInt8) (a b : Cd) {w' : World} (h : Below (w.heap.size + 3) (B3 w dst a b) w') : Below w.heap.size w w' := by
  refine Below.trans ?_ (h.mono (by omega))
  unfold B3
  (repeat (first | exact Below.refl _ _ | assumption | refine Below.drew ?_ | refine bdrewN ?_ _ | refine Below.alloc ?_ (by first | omega | (simp <;> omega) | (simp only [World.size_alloc] <;> omega)) _ | refine below_setRow ?_ (by first | omega | (simp <;> omega)) _ | refine Below.setCell ?_ (by first | omega | (simp <;> omega)) _))
theorem rule1_any (dst : List UInt8) (hd : dst.length = 16) (a b : Cd) (w : World) :
    Calls Tryd.prog 25 #[av dst, .agg a.row, .agg b.row] w fun e w' => e = .returned (.int .i64 (byI (a.a == dst) (b.a == dst))) ∧ Below w.heap.size w w' := by
  have E1 := eqAddr a.a dst a.h hd; have E2 := eqAddr b.a dst b.h hd
  generalize (a.a == dst) = p at *; generalize (b.a == dst) = q at *
  go_enter Tryd.func25, Tryd.ntmps25
  go_wp2
  refine wp_region_later (w.heap.size + 3) (by kernel_rfl) (by kernel_rfl) ?_
  repeat (go_big_quiet_step (((rename_i xq; exact later_call xq (by simp) (by_any p q xq.w)))))
  (first | refine wpQuiet_nil ?_ | (go_big_quiet_want; (try go_big_quiet_op); trace_state; fail))
  intro w1 hw'
  have q1 := later_elim hw'
  clear hw'
  go_wp2_with fail
  go_ret
  exact ⟨rfl, B3_below w dst a b q1⟩
theorem rule3_any (dst : List UInt8) (_hd : dst.length = 16) (a b : Cd) (w : World) :
    Calls Tryd.prog 28 #[av dst, .agg a.row, .agg b.row] w fun e w' => e = .returned (.int .i64 (byI b.d a.d)) ∧ Below w.heap.size w w' := by
  go_enter Tryd.func28, Tryd.ntmps28
  go_wp2_with fail
  refine (by_any b.d a.d _).mono ?_
  rintro e w1 ⟨rfl, b1⟩
  have b2 := B3_below w dst a b (b1.mono (by simp))
  clear b1
  go_wp2_with fail
  go_ret
  exact ⟨rfl, b2⟩
theorem rule5_any (dst : List UInt8) (_hd : dst.length = 16) (a b : Cd) (w : World) :
    Calls Tryd.prog 30 #[av dst, .agg a.row, .agg b.row] w fun e w' => e = .returned (.int .i64 (byI a.t b.t)) ∧ Below w.heap.size w w' := by
  go_enter Tryd.func30, Tryd.ntmps30
  go_wp2_with fail
  refine (by_any a.t b.t _).mono ?_
  rintro e w1 ⟨rfl, b1⟩
  have b2 := B3_below w dst a b (b1.mono (by simp))
  clear b1
  go_wp2_with fail
  go_ret
  exact ⟨rfl, b2⟩
def cmI (dst : List UInt8) (a b : Cd) : Int := ((min 64 (common a.a dst) : Nat) : Int) - ((min 64 (common b.a dst) : Nat) : Int)
theorem rule6_any (dst : List UInt8) (hd : dst.length = 16) (a b : Cd) (w : World) :
    Calls Tryd.prog 31 #[av dst, .agg a.row, .agg b.row] w fun e w' => e = .returned (.int .i64 (cmI dst a b)) ∧ Below w.heap.size w w' := by
  have C1 := Lib.hid (scommon_any a.a dst a.h hd); have C2 := Lib.hid (scommon_any b.a dst b.h hd)
  unfold cmI
  obtain ⟨m, hm⟩ : ∃ m, m = min 64 (common a.a dst) := ⟨_, rfl⟩
  obtain ⟨n, hn⟩ : ∃ m, m = min 64 (common b.a dst) := ⟨_, rfl⟩
  rw [← hm] at C1 ⊢
  rw [← hn] at C2 ⊢
  have hm' : m ≤ 64 := by omega
  have hn' : n ≤ 64 := by omega
  have e1 : IntKind.i64.wrap ((m : Int) - (n : Int)) = (m : Int) - (n : Int) := by rw [IntKind.wrap_i64]; omega
  clear hm hn
  go_enter Tryd.func31, Tryd.ntmps31
  go_wp2
  refine wp_region_later (w.heap.size + 3) (by kernel_rfl) (by kernel_rfl) ?_
  repeat (go_big_quiet_step (((rename_i xq; first | with_reducible exact later_call xq (by simp) (C1.out xq.w) | with_reducible exact later_call xq (by simp) (C2.out xq.w)))))
  (first | refine wpQuiet_nil ?_ | (go_big_quiet_want; (try go_big_quiet_op); trace_state; fail))
  intro w1 hw'
  have q1 := later_elim hw'
  clear hw'
  go_wp2_with fail
  go_ret
  exact ⟨rfl, B3_below w dst a b q1⟩
def scI (x y d : Nat) : Int := if x < y then 2 * byI (decide (d ≤ x)) false - 1 else if y < x then 1 - 2 * byI (decide (d ≤ y)) false else 0
theorem rule2_any (dst : List UInt8) (hd : dst.length = 16) (a b : Cd) (w : World) (hg : GK w) :
    Calls Tryd.prog 27 #[av dst, .agg a.row, .agg b.row] w fun e w' => e = .returned (.int .i64 (scI (scope a.a) (scope b.a) (scope dst))) ∧ Below w.heap.size w w' := by
  have hw0 : 0 < w.heap.size := by obtain ⟨c, t, fr, h1, _⟩ := hg; exact bk_lt h1
  have HG : Hid (∀ xw, Below (w.heap.size + 3) (B3 w dst a b) xw → GK xw) := Lib.hid fun xw h => hg.below (B3_below w dst a b h) hw0
  have C1 := Lib.hid (scope_any a.a a.h); have C2 := Lib.hid (scope_any b.a b.h); have C3 := Lib.hid (scope_any dst hd)
  have ll : ∀ l : List UInt8, scope l < 16 := fun l => by
    unfold scope
    split
    · omega
    · split
      · omega
      · split <;> omega
  have l1 := ll a.a; have l2 := ll b.a; have l3 := ll dst
  obtain ⟨r, hr⟩ : ∃ r, r = scI (scope a.a) (scope b.a) (scope dst) := ⟨_, rfl⟩
  rw [← hr]
  generalize scope a.a = x at *; generalize scope b.a = y at *; generalize scope dst = d at *
  have HR := Lib.hid hr
  clear ll hg hr
  go_enter Tryd.func27, Tryd.ntmps27
  go_wp2
  refine wp_region_later (w.heap.size + 3) (by kernel_rfl) (by kernel_rfl) ?_
  repeat (go_big_quiet_step (((rename_i xq; first | with_reducible exact later_call xq (by simp) (C1.out xq.w (HG.out _ xq.h)) | with_reducible exact later_call xq (by simp) (C2.out xq.w (HG.out _ xq.h)) | with_reducible exact later_call xq (by simp) (C3.out xq.w (HG.out _ xq.h))))))
  (first | refine wpQuiet_nil ?_ | (go_big_quiet_want; (try go_big_quiet_op); trace_state; fail))
  intro w1 hw'
  have q1 := later_elim hw'
  clear hw'
  have q2 := Lib.hid (B3_below w dst a b q1)
  clear q1 C1 C2 C3 HG
  by_cases h1 : x < y
  · have d1 : decide (x < y) = true := by simp; omega
    have hs : r = 2 * byI (decide (d ≤ x)) false - 1 := by rw [HR.out]; unfold scI; rw [if_pos h1]
    obtain ⟨p, hp⟩ : ∃ p, decide (d ≤ x) = p := ⟨_, rfl⟩
    rw [hp] at hs
    have HS := Lib.hid hs
    clear hs
    go_wp2_with fail
    refine (by_any p false _).mono ?_
    rintro e w2 ⟨rfl, b2⟩
    have q3 := Lib.hid (q2.out.trans (b2.mono q2.out.size))
    clear b2
    have hb : byI p false = if p then 1 else 0 := by cases p <;> rfl
    rw [hb]
    clear hb
    cases p <;>
    · go_wp2_with fail
      go_ret
      exact ⟨by rw [HS.out]; rfl, q3.out⟩
  · have d1 : decide (x < y) = false := by simp; omega
    by_cases h2 : y < x
    · have d2 : decide (y < x) = true := by simp; omega
      have hs : r = 1 - 2 * byI (decide (d ≤ y)) false := by rw [HR.out]; unfold scI; rw [if_neg h1, if_pos h2]
      obtain ⟨p, hp⟩ : ∃ p, decide (d ≤ y) = p := ⟨_, rfl⟩
      rw [hp] at hs
      have HS := Lib.hid hs
      clear hs
      go_wp2_with fail
      refine (by_any p false _).mono ?_
      rintro e w2 ⟨rfl, b2⟩
      have q3 := Lib.hid (q2.out.trans (b2.mono q2.out.size))
      clear b2
      have hb : byI p false = if p then 1 else 0 := by cases p <;> rfl
      rw [hb]
      clear hb
      cases p <;>
      · go_wp2_with fail
        go_ret
        exact ⟨by rw [HS.out]; rfl, q3.out⟩
    · have d2 : decide (y < x) = false := by simp; omega
      have hs : r = 0 := by rw [HR.out]; unfold scI; rw [if_neg h1, if_neg h2]
      have HS := Lib.hid hs
      clear hs
      go_wp2_with fail
      go_ret
      exact ⟨by rw [HS.out]; rfl, q2.out⟩
end Go.Proofs.YtcoonncedlbbkaaDoor

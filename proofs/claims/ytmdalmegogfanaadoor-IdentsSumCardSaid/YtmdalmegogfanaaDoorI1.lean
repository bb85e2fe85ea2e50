/- A block mixed into the hash. -/
import Derived.Test.YtmdalmegogfanaaDoorI0
import Derived.BigQuiet
import Derived.BigRegion
namespace Go.Proofs.YtmdalmegogfanaaDoor
open Go.RowKit
set_option maxRecDepth 100000
@[go_sem ↓] theorem ldW8 (dst : Option Tmp) (x : Operand) (t : TypeId) (pos : String) (af : Array Edge) (g : Option (Nat × Bool)) (a : Act) (w : World) (K : Act → World → Prop) (Q : Exit → Act → World → Prop) :
    Oper.wp Tryd.prog ⟨dst, .load 56 x, t, pos, af, g⟩ a w K Q = ldPtr (wpHid Tryd.prog ⟨dst, .load 56 x, t, pos, af, g⟩ a w K Q) 8 w (fun c => K (a.put dst (.agg c)) w) (a.eval x) :=
  wp_load_bk 56 8 _ Tryd.underlying56 rfl (by kernel_rfl) dst x t pos af g a w K Q
@[go_sem ↓] theorem stW8 (dst : Option Tmp) (x y : Operand) (t : TypeId) (pos : String) (af : Array Edge) (g : Option (Nat × Bool)) (a : Act) (w : World) (K : Act → World → Prop) (Q : Exit → Act → World → Prop) :
    Oper.wp Tryd.prog ⟨dst, .store 56 x y, t, pos, af, g⟩ a w K Q = stPtr (wpHid Tryd.prog ⟨dst, .store 56 x y, t, pos, af, g⟩ a w K Q) 8 w (fun w' => K (a.put dst undef) w') (a.eval x) (a.eval y) :=
  wp_store_bk 56 8 (by kernel_rfl) dst x y t pos af g a w K Q
@[go_sem ↓] theorem qlW8 (dst : Option Tmp) (x : Operand) (t : TypeId) (pos : String) (af : Array Edge) (g : Option (Nat × Bool)) (a : Act) (m : Nat) (W : World) (K : Act → Prop) :
    Oper.quiet Tryd.prog ⟨dst, .load 56 x, t, pos, af, g⟩ a (fun w' => ∃ x : Later m W, w' = x.w) K =
      ldLater (quietHid Tryd.prog ⟨dst, .load 56 x, t, pos, af, g⟩ a (fun w' => ∃ x : Later m W, w' = x.w) K) m 8 W (fun c => K (a.put dst (.agg c))) (a.eval x) :=
  quiet_load_bk 56 8 _ Tryd.underlying56 rfl (by kernel_rfl) dst x t pos af g a m W K
@[go_sem ↓] theorem ldW64 (dst : Option Tmp) (x : Operand) (t : TypeId) (pos : String) (af : Array Edge) (g : Option (Nat × Bool)) (a : Act) (w : World) (K : Act → World → Prop) (Q : Exit → Act → World → Prop) :
    Oper.wp Tryd.prog ⟨dst, .load 62 x, t, pos, af, g⟩ a w K Q = ldPtr (wpHid Tryd.prog ⟨dst, .load 62 x, t, pos, af, g⟩ a w K Q) 64 w (fun c => K (a.put dst (.agg c)) w) (a.eval x) :=
  wp_load_bk 62 64 _ Tryd.underlying62 rfl (by kernel_rfl) dst x t pos af g a w K Q
@[go_sem ↓] theorem stW64 (dst : Option Tmp) (x y : Operand) (t : TypeId) (pos : String) (af : Array Edge) (g : Option (Nat × Bool)) (a : Act) (w : World) (K : Act → World → Prop) (Q : Exit → Act → World → Prop) :
    Oper.wp Tryd.prog ⟨dst, .store 62 x y, t, pos, af, g⟩ a w K Q = stPtr (wpHid Tryd.prog ⟨dst, .store 62 x y, t, pos, af, g⟩ a w K Q) 64 w (fun w' => K (a.put dst undef) w') (a.eval x) (a.eval y) :=
  wp_store_bk 62 64 (by kernel_rfl) dst x y t pos af g a w K Q
@[go_sem ↓] theorem qlW64 (dst : Option Tmp) (x : Operand) (t : TypeId) (pos : String) (af : Array Edge) (g : Option (Nat × Bool)) (a : Act) (m : Nat) (W : World) (K : Act → Prop) :
    Oper.quiet Tryd.prog ⟨dst, .load 62 x, t, pos, af, g⟩ a (fun w' => ∃ x : Later m W, w' = x.w) K =
      ldLater (quietHid Tryd.prog ⟨dst, .load 62 x, t, pos, af, g⟩ a (fun w' => ∃ x : Later m W, w' = x.w) K) m 64 W (fun c => K (a.put dst (.agg c))) (a.eval x) :=
  quiet_load_bk 62 64 _ Tryd.underlying62 rfl (by kernel_rfl) dst x t pos af g a m W K
/-- The words of a block. -/
def word (b : List UInt8) (i : Nat) : UInt32 := UInt32.ofNat (val ((b.drop (4 * i)).take 4))
def nxt (l : List UInt32) : UInt32 :=
  uA (uA (uA (l.getD (l.length - 16) 0) (l.getD (l.length - 7) 0)) (uX (uX (rr (l.getD (l.length - 15) 0) 7) (rr (l.getD (l.length - 15) 0) 18)) (uS (l.getD (l.length - 15) 0) 3))) (uX (uX (rr (l.getD (l.length - 2) 0) 17) (rr (l.getD (l.length - 2) 0) 19)) (uS (l.getD (l.length - 2) 0) 10))
def wk (b : List UInt8) : Nat → List UInt32
  | 0 => []
  | i + 1 => wk b i ++ [if i < 16 then word b i else nxt (wk b i)]
theorem wk_length (b : List UInt8) : ∀ i, (wk b i).length = i
  | 0 => rfl
  | i + 1 => by simp [wk, wk_length b i]
/-- The words' row when i of them are there. -/
def wrow (b : List UInt8) (i : Nat) : Array Value := ((wk b i ++ List.replicate (64 - i) 0).map V).toArray
theorem wrow_size (b : List UInt8) (i : Nat) (h : i ≤ 64) : (wrow b i).size = 64 := by simp [wrow, wk_length]; omega
theorem wrow_at {b : List UInt8} {i j : Nat} (h : j < i) (_hi : i ≤ 64) : (wrow b i)[j]? = some (V ((wk b i).getD j 0)) := by
  have hl := wk_length b i
  simp only [wrow, List.getElem?_toArray, List.getElem?_map]
  rw [List.getElem?_append_left (by omega), List.getElem?_eq_getElem (by omega), List.getD_eq_getElem?_getD, List.getElem?_eq_getElem (by omega)]
  rfl
theorem wrow_new {b : List UInt8} {i : Nat} (hi : i < 64) : (wrow b i)[i]? = some (V 0) := by
  have hl := wk_length b i
  simp only [wrow, List.getElem?_toArray, List.getElem?_map]
  rw [List.getElem?_append_right (by omega), hl, List.getElem?_replicate_of_lt (by omega)]
  rfl
theorem wrow_set {b : List UInt8} {i : Nat} (hi : i < 64) (x : UInt32) (hx : x = if i < 16 then word b i else nxt (wk b i)) : (wrow b i).setIfInBounds i (V x) = wrow b (i + 1) := by
  have hl := wk_length b i
  apply Array.ext'
  simp only [wrow, Array.toList_setIfInBounds, List.toList_toArray]
  rw [← List.map_set]
  congr 1
  rw [List.set_append_right _ _ (by omega), hl, Nat.sub_self, show 64 - i = (64 - (i + 1)) + 1 by omega, List.replicate_succ, List.set_cons_zero]
  simp [wk, hx]
theorem tlater {m : Nat} {W : World} (hm : m ≤ W.heap.size) (a : UInt32) (n : Nat) (z : Int) (hz : z = n) (h1 : 1 ≤ n) (h2 : n ≤ 31) (x : Later m W) :
    Calls Tryd.prog 36 #[V a, .int .i64 z] x.w fun e w' => e = .returned (V (rr a n)) ∧ ∃ y : Later m W, w' = y.w := by
  subst hz
  refine later_call x hm ((turned_any a n x.w h1 h2).mono ?_)
  rintro e w' ⟨he, rfl⟩
  exact ⟨he, Below.refl _ _⟩
structure S8 where
  a : UInt32
  b : UInt32
  c : UInt32
  d : UInt32
  e : UInt32
  f : UInt32
  g : UInt32
  h : UInt32
def S8.row (s : S8) : Array Value := #[V s.a, V s.b, V s.c, V s.d, V s.e, V s.f, V s.g, V s.h]
@[go_sem] theorem S8.row_size (s : S8) : s.row.size = 8 := rfl
@[go_sem] theorem S8.row_all (s : S8) : xt s.row 0 8 = s.row := xt_whole _ _ rfl
@[go_sem] theorem S8.row_ones (s : S8) : ones s.row.toList = true := by simp only [S8.row]; rfl
@[go_sem] theorem row_0 (s : S8) : s.row[0]? = some (V s.a) := rfl
@[go_sem] theorem row_1 (s : S8) : s.row[1]? = some (V s.b) := rfl
@[go_sem] theorem row_2 (s : S8) : s.row[2]? = some (V s.c) := rfl
@[go_sem] theorem row_3 (s : S8) : s.row[3]? = some (V s.d) := rfl
@[go_sem] theorem row_4 (s : S8) : s.row[4]? = some (V s.e) := rfl
@[go_sem] theorem row_5 (s : S8) : s.row[5]? = some (V s.f) := rfl
@[go_sem] theorem row_6 (s : S8) : s.row[6]? = some (V s.g) := rfl
@[go_sem] theorem row_7 (s : S8) : s.row[7]? = some (V s.h) := rfl
def one (k w : UInt32) (s : S8) : UInt32 := uA (uA (uA (uA s.h (uX (uX (rr s.e 6) (rr s.e 11)) (rr s.e 25))) (uX (uN s.e s.f) (uN (uC s.e) s.g))) k) w
def two (s : S8) : UInt32 := uA (uX (uX (rr s.a 2) (rr s.a 13)) (rr s.a 22)) (uX (uX (uN s.a s.b) (uN s.a s.c)) (uN s.b s.c))
def stp (k w : UInt32) (s : S8) : S8 := ⟨uA (one k w s) (two s), s.a, s.b, s.c, uA s.d (one k w s), s.e, s.f, s.g⟩
def run (K : List UInt32) (w : List UInt32) (s : S8) : Nat → S8
  | 0 => s
  | i + 1 => stp (K.getD i 0) (w.getD i 0) (run K w s i)
def plus (s t : S8) : S8 := ⟨uA s.a t.a, uA s.b t.b, uA s.c t.c, uA s.d t.d, uA s.e t.e, uA s.f t.f, uA s.g t.g, uA s.h t.h⟩
/-- The first words of the hash; each step's word. -/
def H0 : S8 := ⟨0x6a09e667, 0xbb67ae85, 0x3c6ef372, 0xa54ff53a, 0x510e527f, 0x9b05688c, 0x1f83d9ab, 0x5be0cd19⟩
def K0 : List UInt32 := [
  0x428a2f98, 0x71374491, 0xb5c0fbcf, 0xe9b5dba5, 0x3956c25b, 0x59f111f1, 0x923f82a4, 0xab1c5ed5,
  0xd807aa98, 0x12835b01, 0x243185be, 0x550c7dc3, 0x72be5d74, 0x80deb1fe, 0x9bdc06a7, 0xc19bf174,
  0xe49b69c1, 0xefbe4786, 0x0fc19dc6, 0x240ca1cc, 0x2de92c6f, 0x4a7484aa, 0x5cb0a9dc, 0x76f988da,
  0x983e5152, 0xa831c66d, 0xb00327c8, 0xbf597fc7, 0xc6e00bf3, 0xd5a79147, 0x06ca6351, 0x14292967,
  0x27b70a85, 0x2e1b2138, 0x4d2c6dfc, 0x53380d13, 0x650a7354, 0x766a0abb, 0x81c2c92e, 0x92722c85,
  0xa2bfe8a1, 0xa81a664b, 0xc24b8b70, 0xc76c51a3, 0xd192e819, 0xd6990624, 0xf40e3585, 0x106aa070,
  0x19a4c116, 0x1e376c08, 0x2748774c, 0x34b0bcb5, 0x391c0cb3, 0x4ed8aa4a, 0x5b9cca4f, 0x682e6ff3,
  0x748f82ee, 0x78a5636f, 0x84c87814, 0x8cc70208, 0x90befffa, 0xa4506ceb, 0xbef9a3f7, 0xc67178f2]
def mix (s : S8) (b : List UInt8) : S8 := plus s (run K0 (wk b 64) s 64)
def eachR : Array Value := (K0.map V).toArray
@[go_sem] theorem eachR_size : eachR.size = 64 := rfl
@[go_sem] theorem eachR_all : xt eachR 0 64 = eachR := xt_whole _ _ rfl
theorem eachR_at (i : Nat) (h : i < 64) : eachR[i]? = some (V (K0.getD i 0)) := by
  simp only [eachR, List.getElem?_toArray, List.getElem?_map]
  rw [List.getElem?_eq_getElem (show i < K0.length from h), List.getD_eq_getElem?_getD, List.getElem?_eq_getElem (show i < K0.length from h)]
  rfl
def S8.ls (s : S8) : List UInt32 := [s.a, s.b, s.c, s.d, s.e, s.f, s.g, s.h]
def mrow (s t : S8) (k : Nat) : Array Value := (((plus s t).ls.take k ++ s.ls.drop k).map V).toArray
theorem S8.row_at (s : S8) (k : Nat) (h : k < 8) : s.row[k]? = some (V (s.ls.getD k 0)) := by
  obtain rfl | rfl | rfl | rfl | rfl | rfl | rfl | rfl : k = 0 ∨ k = 1 ∨ k = 2 ∨ k = 3 ∨ k = 4 ∨ k = 5 ∨ k = 6 ∨ k = 7 := by omega
  all_goals rfl
theorem mrow_at (s t : S8) (k : Nat) (h : k < 8) : (mrow s t k)[k]? = some (V (s.ls.getD k 0)) := by
  obtain rfl | rfl | rfl | rfl | rfl | rfl | rfl | rfl : k = 0 ∨ k = 1 ∨ k = 2 ∨ k = 3 ∨ k = 4 ∨ k = 5 ∨ k = 6 ∨ k = 7 := by omega
  all_goals rfl
theorem mrow_set (s t : S8) (k : Nat) (h : k < 8) : (mrow s t k).setIfInBounds k (V (uA (s.ls.getD k 0) (t.ls.getD k 0))) = mrow s t (k + 1) := by
  obtain rfl | rfl | rfl | rfl | rfl | rfl | rfl | rfl : k = 0 ∨ k = 1 ∨ k = 2 ∨ k = 3 ∨ k = 4 ∨ k = 5 ∨ k = 6 ∨ k = 7 := by omega
  all_goals rfl
theorem run_index_arr (ty : TypeId) (n : Nat) (hu : Tryd.prog.underlying ty = some (.array n 28)) (c : Array Value) (k : Nat) (hk : k < n) (x : UInt32) (hx : c[k]? = some (V x)) (w : World) : (Instr.index ty (.agg c) (.int .i64 (k : Int))).run Tryd.prog w = .ok (V x) w := by
  have hi : (Tryd.prog.info? 28).map (fun i => i.size) = some 1 := by kernel_rfl
  obtain ⟨i, hi1, hi2⟩ := Option.map_eq_some_iff.1 hi
  have hk' : (k : Int) < (n : Int) := by omega
  simp [Instr.index, run_underlying hu, asIntOf, sizeOf, typeInfo, hi1, hi2, part, isAgg, run_underlying Tryd.underlying28, hx]
  exact fun h => absurd h (by omega)
/-- Both tables lie as the program's text lays them. -/
structure GE (w : World) : Prop where
  first : ∃ t fr, bk w 0 = some (.cells H0.row t fr)
  each : ∃ t fr, bk w 1 = some (.cells eachR t fr)
theorem GE.below {n : Nat} {w w' : World} (h : GE w) (hb : Below n w w') (hn : 1 < n) : GE w' := by
  obtain ⟨⟨t, fr, h1⟩, t', fr', h2⟩ := h
  exact ⟨⟨t, fr, bk_keep hb (by omega) h1⟩, t', fr', bk_keep hb hn h2⟩
set_option maxHeartbeats 2000000 in
theorem mix_any (s : S8) (A : Option Addr) (b : List UInt8) (c : Nat) (w : World) (hb : b.length = 64) (h : Rd w w.heap.size A b) (hA : A = none → b = [] ∧ c = 0) (hg : GE w) :
    Calls Tryd.prog 26 #[.agg s.row, .slice A 64 c] w fun e w' => e = .returned (.agg (mix s b).row) ∧ Below w.heap.size w w' := by
  have H := Lib.hid h; have HA := Lib.hid hA; have HB := Lib.hid hb
  have hg1 : 1 < w.heap.size := by obtain ⟨t, fr, h⟩ := hg.each; exact bk_lt h
  have HG := Lib.hid hg
  clear h hA hg hb
  have hs8 : s.row.size = 8 := rfl
  obtain ⟨r4, hr4⟩ : ∃ r : S8, r = ⟨0, 0, 0, 0, 0, 0, 0, 0⟩ := ⟨_, rfl⟩
  have hz8 : (#[Value.int IntKind.u32 0, Value.int IntKind.u32 0, Value.int IntKind.u32 0, Value.int IntKind.u32 0, Value.int IntKind.u32 0, Value.int IntKind.u32 0, Value.int IntKind.u32 0, Value.int IntKind.u32 0] : Array Value) = r4.row := by rw [hr4]; rfl
  have hz64 : (#[Value.int IntKind.u32 0, Value.int IntKind.u32 0, Value.int IntKind.u32 0, Value.int IntKind.u32 0, Value.int IntKind.u32 0, Value.int IntKind.u32 0, Value.int IntKind.u32 0, Value.int IntKind.u32 0, Value.int IntKind.u32 0, Value.int IntKind.u32 0, Value.int IntKind.u32 0, Value.int IntKind.u32 0, Value.int IntKind.u32 0, Value.int IntKind.u32 0, Value.int IntKind.u32 0, Value.int IntKind.u32 0, Value.int IntKind.u32 0, Value.int IntKind.u32 0, Value.int IntKind.u32 0, Value.int IntKind.u32 0, Value.int IntKind.u32 0, Value.int IntKind.u32 0, Value.int IntKind.u32 0, Value.int IntKind.u32 0, Value.int IntKind.u32 0, Value.int IntKind.u32 0, Value.int IntKind.u32 0, Value.int IntKind.u32 0, Value.int IntKind.u32 0, Value.int IntKind.u32 0, Value.int IntKind.u32 0, Value.int IntKind.u32 0, Value.int IntKind.u32 0, Value.int IntKind.u32 0, Value.int IntKind.u32 0, Value.int IntKind.u32 0, Value.int IntKind.u32 0, Value.int IntKind.u32 0, Value.int IntKind.u32 0, Value.int IntKind.u32 0, Value.int IntKind.u32 0, Value.int IntKind.u32 0, Value.int IntKind.u32 0, Value.int IntKind.u32 0, Value.int IntKind.u32 0, Value.int IntKind.u32 0, Value.int IntKind.u32 0, Value.int IntKind.u32 0, Value.int IntKind.u32 0, Value.int IntKind.u32 0, Value.int IntKind.u32 0, Value.int IntKind.u32 0, Value.int IntKind.u32 0, Value.int IntKind.u32 0, Value.int IntKind.u32 0, Value.int IntKind.u32 0, Value.int IntKind.u32 0, Value.int IntKind.u32 0, Value.int IntKind.u32 0, Value.int IntKind.u32 0, Value.int IntKind.u32 0, Value.int IntKind.u32 0, Value.int IntKind.u32 0, Value.int IntKind.u32 0] : Array Value) = wrow b 0 := rfl
  clear hr4
  go_enter Tryd.func26, Tryd.ntmps26
  go_upto_region 2 with fail
  clear hz8 hz64
  have a3 : Below w.heap.size w (((w.alloc (.cells s.row 56)).alloc (.cells r4.row 56)).alloc (.cells (wrow b 0) 62)) := (by (repeat (first | exact Below.refl _ _ | assumption | refine Below.drew ?_ | refine bdrewN ?_ _ | refine Below.alloc ?_ (by first | omega | (simp <;> omega) | (simp only [World.size_alloc] <;> omega)) _ | refine below_setRow ?_ (by first | omega | (simp <;> omega)) _ | refine Below.setCell ?_ (by first | omega | (simp <;> omega)) _)))
  have k0 : bk (((w.alloc (.cells s.row 56)).alloc (.cells r4.row 56)).alloc (.cells (wrow b 0) 62)) w.heap.size = some (.cells s.row 56 (0, 0)) := by rw [bk_alloc_past _ _ _ (by simp <;> omega), bk_alloc_past _ _ _ (by simp)]; exact bk_alloc_at _ _ _ rfl
  have k1 : bk (((w.alloc (.cells s.row 56)).alloc (.cells r4.row 56)).alloc (.cells (wrow b 0) 62)) (w.heap.size + 1) = some (.cells r4.row 56 (0, 0)) := by rw [bk_alloc_past _ _ _ (by simp)]; exact bk_alloc_at _ _ _ (by simp)
  have k2 : bk (((w.alloc (.cells s.row 56)).alloc (.cells r4.row 56)).alloc (.cells (wrow b 0) 62)) (w.heap.size + 1 + 1) = some (.cells (wrow b 0) 62 (0, 0)) := bk_alloc_at _ _ _ (by simp)
  have F := Lib.hid a3; have KH := Lib.hid k0; have KR := Lib.hid k1; have KW := Lib.hid k2
  clear a3 k0 k1 k2
  generalize (((w.alloc (.cells s.row 56)).alloc (.cells r4.row 56)).alloc (.cells (wrow b 0) 62)) = wa at *
  have hx := bk_lt KW.out
  have C := of_PK A b c wa ((H.out.below F.out (Nat.le_refl _)).mono F.out.size) HA.out (by rw [HB.out]; decide) w.heap.size (by omega)
  rw [HB.out] at C
  have HC := Lib.hid C
  clear C
  go_wp2_with fail
  refine HC.out.mono ?_
  rintro e w1 ⟨gc, gb, rfl, hgc, _, hgg, hgb, hP, hPB, b1⟩
  have hgb := hgb (by omega)
  have HP := Lib.hid hP; have PBB := Lib.hid hPB
  replace F := Lib.hid (F.out.trans (b1.mono F.out.size))
  replace KH := Lib.hid (bk_keep b1 (bk_lt KH.out) KH.out); replace KR := Lib.hid (bk_keep b1 (bk_lt KR.out) KR.out); replace KW := Lib.hid (bk_keep b1 (bk_lt KW.out) KW.out)
  clear hP hPB b1 HC
  go_wp2_with fail
  go_loopw [20] (fun i wr => ∃ k : Nat, k ≤ 64 ∧ i = .int .i64 k ∧ Hid (k ≤ 16 → PK wr gc gb b (some (4 * k))) ∧ Hid (PB wr gb b) ∧ Hid (bk wr w.heap.size = some (.cells s.row 56 (0, 0))) ∧ Hid (bk wr (w.heap.size + 1) = some (.cells r4.row 56 (0, 0))) ∧ Hid (bk wr (w.heap.size + 1 + 1) = some (.cells (wrow b k) 62 (0, 0))) ∧ Hid (Below w.heap.size w wr)) (fun i _ => 64 - (intOf i).toNat)
  case atStart => exact ⟨0, by omega, rfl, Lib.hid fun _ => HP.out, PBB, KH, KR, KW, F⟩
  case round =>
    clear HP PBB KH KR KW F
    obtain ⟨k, hk, rfl, HP, PBB, KH, KR, KW, F⟩ := hrel
    have n0 := F.out.size
    by_cases hk64 : k < 64
    · have y1 : decide ((k : Int) < 64) = true := by simp; omega
      have hk64' : (k : Int) < 64 := by omega
      by_cases hk16 : k < 16
      · have y2 : decide ((k : Int) < 16) = true := by simp; omega
        have C := num_at gc gb b (4 * k) 4 wr (HP.out (by omega)) PBB.out hgg (by rw [HB.out]; omega) (by decide) (by decide)
        obtain ⟨v, hv⟩ : ∃ v, v = val ((b.drop (4 * k)).take 4) := ⟨_, rfl⟩
        obtain ⟨x, hx'⟩ : ∃ x, x = word b k := ⟨_, rfl⟩
        have bv : v < 4294967296 := by
          have := val_lt ((b.drop (4 * k)).take 4)
          rw [List.length_take, List.length_drop, HB.out, show min 4 (64 - 4 * k) = 4 by omega, ← hv] at this
          omega
        have ex : IntKind.u32.wrap (v : Int) = (x.toNat : Int) := by
          rw [hx', IntKind.wrap_u32]; unfold word; rw [← hv, UInt32.toNat_ofNat']; omega
        have ex' : (v : Int) % 4294967296 = (x.toNat : Int) := by rw [← IntKind.wrap_u32]; exact ex
        rw [← hv] at C
        have HC := Lib.hid C
        have HX := Lib.hid hx'
        clear C hv hx'
        go_wp2_with fail
        refine HC.out.mono ?_
        rintro e w2 ⟨rfl, hP2, hg2⟩
        have KH2 := Lib.hid ((show bk w2 w.heap.size = bk wr w.heap.size from hg2.block _ (bk_lt KH.out) (fun e => (show ¬ w.heap.size = gc by omega) (by injection e))).trans KH.out)
        have KR2 := Lib.hid ((show bk w2 (w.heap.size + 1) = bk wr (w.heap.size + 1) from hg2.block _ (bk_lt KR.out) (fun e => (show ¬ w.heap.size + 1 = gc by omega) (by injection e))).trans KR.out)
        have KW2 := Lib.hid ((show bk w2 (w.heap.size + 1 + 1) = bk wr (w.heap.size + 1 + 1) from hg2.block _ (bk_lt KW.out) (fun e => (show ¬ w.heap.size + 1 + 1 = gc by omega) (by injection e))).trans KW.out)
        have PB2 := Lib.hid (PBB.out.grown hg2 (by omega))
        have F2 := Lib.hid (F.out.grown hg2 F.out.size fun k hk => by cases hk; omega)
        have HP2 := Lib.hid hP2
        have ck := (bk_cell KW2.out k).trans (wrow_new hk64)
        have fk := bk_frozen KW2.out k
        have lk := bk_lt KW2.out
        clear hP2 hg2 HC KH KR KW PBB F HP
        go_wp2_with fail
        go_roundw
        case rel =>
          refine ⟨k + 1, by omega, by go_num, Lib.hid fun _ => ?_, Lib.hid (PB2.out.keep fun h => bk_setCell_other _ _ _ _ _ (by omega)), Lib.hid ((bk_setCell_other _ _ _ _ _ (by omega)).trans KH2.out), Lib.hid ((bk_setCell_other _ _ _ _ _ (by omega)).trans KR2.out), ?_, Lib.hid (F2.out.setCell (p := ⟨w.heap.size + 1 + 1, k, none⟩) (by show w.heap.size ≤ w.heap.size + 1 + 1; omega) _)⟩
          · exact HP2.out.keep (bk_setCell_other _ _ _ _ _ (by omega))
          · refine Lib.hid ?_
            rw [bk_setCell_same, KW2.out]
            show some (Obj.cells ((wrow b k).setIfInBounds k (V x)) _ _) = _
            rw [wrow_set hk64 x (by rw [if_pos hk16, HX.out])]
        case measure => simp [intOf]; omega
      · have y2 : decide ((k : Int) < 16) = false := by simp; omega
        have c15 := (bk_cell KW.out (k - 15)).trans (wrow_at (by omega) (by omega))
        have c2 := (bk_cell KW.out (k - 2)).trans (wrow_at (by omega) (by omega))
        have lk := bk_lt KW.out
        obtain ⟨a, ha⟩ : ∃ a, a = (wk b k).getD (k - 15) 0 := ⟨_, rfl⟩
        obtain ⟨z, hz⟩ : ∃ z, z = (wk b k).getD (k - 2) 0 := ⟨_, rfl⟩
        rw [← ha] at c15
        rw [← hz] at c2
        have HA' := Lib.hid ha; have HZ' := Lib.hid hz
        have t15 : ((k : Int) - 15).toNat = k - 15 := by omega
        have t2 : ((k : Int) - 2).toNat = k - 2 := by omega
        have n15 : (k : Int) - 15 < 64 := by omega
        have n2 : (k : Int) - 2 < 64 := by omega
        have m15 : ¬ ((k : Int) - 15 < 0) := by omega
        have m2 : ¬ ((k : Int) - 2 < 0) := by omega
        have p15 : 0 ≤ (k : Int) - 15 := by omega
        have p2 : 0 ≤ (k : Int) - 2 := by omega
        clear ha hz
        go_upto_region 8 with fail
        refine wp_region_later (wr.heap.size) (by kernel_rfl) (by kernel_rfl) ?_
        repeat (go_big_quiet_step ((fail)))
        (first | refine wpQuiet_nil ?_ | (go_big_quiet_want; (try go_big_quiet_op); trace_state; fail))
        intro w3 hw'
        have q3 := later_elim hw'
        clear hw'
        replace KH := Lib.hid (bk_keep q3 (bk_lt KH.out) KH.out); replace KR := Lib.hid (bk_keep q3 (bk_lt KR.out) KR.out); replace KW := Lib.hid (bk_keep q3 (bk_lt KW.out) KW.out)
        replace PBB := Lib.hid (PBB.out.keep fun h => bk_keep q3 h rfl)
        replace F := Lib.hid (F.out.trans (q3.mono F.out.size))
        have gcl : k ≤ 16 → gc < wr.heap.size := fun h => by obtain ⟨cs, hc⟩ := (HP.out h).obj; exact bk_lt hc
        replace HP := Lib.hid (fun h : k ≤ 16 => (HP.out h).keep (bk_keep q3 (gcl h) rfl))
        clear c15 c2 lk t15 t2 n15 n2 m15 m2 p15 p2 q3 gcl
        have c16 := (bk_cell KW.out (k - 16)).trans (wrow_at (by omega) (by omega))
        have c7 := (bk_cell KW.out (k - 7)).trans (wrow_at (by omega) (by omega))
        have lk := bk_lt KW.out
        obtain ⟨u, hu⟩ : ∃ a, a = (wk b k).getD (k - 16) 0 := ⟨_, rfl⟩
        obtain ⟨v, hv⟩ : ∃ z, z = (wk b k).getD (k - 7) 0 := ⟨_, rfl⟩
        rw [← hu] at c16
        rw [← hv] at c7
        have HU := Lib.hid hu; have HV := Lib.hid hv
        have t16 : ((k : Int) - 16).toNat = k - 16 := by omega
        have t7 : ((k : Int) - 7).toNat = k - 7 := by omega
        have n16 : (k : Int) - 16 < 64 := by omega
        have n7 : (k : Int) - 7 < 64 := by omega
        have p16 : 0 ≤ (k : Int) - 16 := by omega
        have p7 : 0 ≤ (k : Int) - 7 := by omega
        clear hu hv
        go_upto_region 9 with fail
        refine wp_region_later_tail (w3.heap.size) 28 (by kernel_rfl) (by kernel_rfl) ?_
        simp only [List.take_succ_cons, List.take_zero, List.drop_succ_cons, List.drop_zero]
        repeat (go_big_quiet_step (((rename_i xq; first | with_reducible exact tlater (Nat.le_refl _) a 7 7 rfl (by decide) (by decide) xq | with_reducible exact tlater (Nat.le_refl _) a 18 18 rfl (by decide) (by decide) xq | with_reducible exact tlater (Nat.le_refl _) z 17 17 rfl (by decide) (by decide) xq | with_reducible exact tlater (Nat.le_refl _) z 19 19 rfl (by decide) (by decide) xq))))
        (first | refine wpQuiet_nil ?_ | (go_big_quiet_want; (try go_big_quiet_op); trace_state; fail))
        intro w4 hw'
        have q4 := later_elim hw'
        clear hw'
        have KH2 := Lib.hid (bk_keep q4 (bk_lt KH.out) KH.out); have KR2 := Lib.hid (bk_keep q4 (bk_lt KR.out) KR.out); have KW2 := Lib.hid (bk_keep q4 (bk_lt KW.out) KW.out)
        have PB2 := Lib.hid (PBB.out.keep fun h => bk_keep q4 h rfl)
        have F2 := Lib.hid (F.out.trans (q4.mono F.out.size))
        have gcl : k ≤ 16 → gc < w3.heap.size := fun h => by obtain ⟨cs, hc⟩ := (HP.out h).obj; exact bk_lt hc
        have HP2 := Lib.hid (fun h : k ≤ 16 => (HP.out h).keep (bk_keep q4 (gcl h) rfl))
        have ck := (bk_cell KW2.out k).trans (wrow_new hk64)
        have fk := bk_frozen KW2.out k
        have lk := bk_lt KW2.out
        have EX : Hid (uA (uA (uA u v) (uX (uX (rr a 7) (rr a 18)) (uS a 3))) (uX (uX (rr z 17) (rr z 19)) (uS z 10)) = if k < 16 then word b k else nxt (wk b k)) := Lib.hid (by
          rw [if_neg hk16]; unfold nxt; rw [wk_length, ← HA'.out, ← HZ'.out, ← HU.out, ← HV.out])
        clear c16 c7 t16 t7 n16 n7 p16 p7 q4 gcl KH KR KW PBB F HP
        go_wp2_with fail
        go_roundw
        case rel =>
          refine ⟨k + 1, by omega, by go_num, Lib.hid fun h => absurd h (by omega), Lib.hid (PB2.out.keep fun h => bk_setCell_other _ _ _ _ _ (by omega)), Lib.hid ((bk_setCell_other _ _ _ _ _ (by omega)).trans KH2.out), Lib.hid ((bk_setCell_other _ _ _ _ _ (by omega)).trans KR2.out), ?_, Lib.hid (F2.out.setCell (p := ⟨w.heap.size + 1 + 1, k, none⟩) (by show w.heap.size ≤ w.heap.size + 1 + 1; omega) _)⟩
          refine Lib.hid ?_
          rw [bk_setCell_same, KW2.out]
          show some (Obj.cells ((wrow b k).setIfInBounds k (V _)) _ _) = _
          rw [wrow_set hk64 _ EX.out]
        case measure => simp [intOf]; omega
    · have y1 : decide ((k : Int) < 64) = false := by simp; omega
      obtain rfl : k = 64 := by omega
      obtain ⟨ws, hws⟩ : ∃ ws, ws = wk b 64 := ⟨_, rfl⟩
      have hwl : ws.length = 64 := by rw [hws, wk_length]
      have ew : wrow b 64 = (ws.map V).toArray := by unfold wrow; rw [← hws]; simp
      rw [ew] at KW
      have HWS := Lib.hid hws; have HWL := Lib.hid hwl
      have kh := KH.out
      have lh := bk_lt kh
      clear hws hwl ew HP PBB
      go_upto_region 12 with fail
      obtain ⟨z, hz⟩ : ∃ z, z = wr.heap.size := ⟨_, rfl⟩
      have a5 : Below wr.heap.size wr (wr.alloc (.cells s.row 56 (0, 0))) := (Below.refl _ _).alloc (Nat.le_refl _) _
      have KS : Hid (bk (wr.alloc (.cells s.row 56 (0, 0))) z = some (.cells s.row 56 (0, 0))) := Lib.hid (bk_alloc_at _ _ _ hz)
      have hwz : w.heap.size + 1 + 1 < z := by have := bk_lt KW.out; omega
      replace KH := Lib.hid (bk_keep a5 (bk_lt KH.out) KH.out); replace KR := Lib.hid (bk_keep a5 (bk_lt KR.out) KR.out); replace KW := Lib.hid (bk_keep a5 (bk_lt KW.out) KW.out)
      replace F := Lib.hid (F.out.trans (a5.mono F.out.size))
      rw [← hz]
      clear kh lh a5 hz
      generalize wr.alloc (.cells s.row 56 (0, 0)) = w5 at *
      obtain ⟨tE, frE, kE⟩ := (HG.out.below F.out hg1).each
      have lE := bk_lt kE
      have sE : 64 ≤ eachR.size := Nat.le_refl 64
      go_wp2_with fail
      rw [ldRow_some _ _ _ _ _ _ _ _ (show 0 + 64 ≤ eachR.size from Nat.le_refl 64), eachR_all]
      go_wp2_with fail
      clear kE lE sE
      go_loopw [70] (fun i wr => ∃ k : Nat, k ≤ 64 ∧ i = .int .i64 k ∧ Hid (bk wr w.heap.size = some (.cells s.row 56 (0, 0))) ∧ Hid (bk wr (w.heap.size + 1) = some (.cells r4.row 56 (0, 0))) ∧ Hid (bk wr (w.heap.size + 1 + 1) = some (.cells (ws.map V).toArray 62 (0, 0))) ∧ Hid (bk wr z = some (.cells (run K0 ws s k).row 56 (0, 0))) ∧ Hid (Below w.heap.size w wr)) (fun i _ => 64 - (intOf i).toNat)
      case atStart => exact ⟨0, by omega, rfl, KH, KR, KW, KS, F⟩
      case round =>
        clear KH KR KW KS F
        obtain ⟨k, hk, rfl, KH, KR, KW, KS, F⟩ := hrel
        have n0 := F.out.size
        by_cases hk64 : k < 64
        · have y1 : decide ((k : Int) < 64) = true := by simp; omega
          have hk64' : (k : Int) < 64 := by omega
          obtain ⟨kw, hkw⟩ : ∃ x, x = K0.getD k 0 := ⟨_, rfl⟩
          have ckw : eachR[k]? = some (V kw) := by rw [hkw]; exact eachR_at k hk64
          obtain ⟨t, ht⟩ : ∃ t, t = run K0 ws s k := ⟨_, rfl⟩
          rw [← ht] at KS
          have c0 := (bk_cell KS.out 0).trans (row_0 t); have c4 := (bk_cell KS.out 4).trans (row_4 t)
          have lS := bk_lt KS.out
          have hidx : ∀ w, (Instr.index 62 (.agg eachR) (.int .i64 (k : Int))).run Tryd.prog w = .ok (V kw) w := fun w => run_index_arr 62 64 Tryd.underlying62 eachR k hk64 kw ckw w
          have HKW := Lib.hid hkw; have HT := Lib.hid ht
          clear hkw ht
          go_upto_region 15 with fail
          refine wp_region_later (wr.heap.size) (by kernel_rfl) (by kernel_rfl) ?_
          repeat (go_big_quiet_step ((fail)))
          (first | refine wpQuiet_nil ?_ | (go_big_quiet_want; (try go_big_quiet_op); trace_state; fail))
          intro w6 hw'
          have q6 := later_elim hw'
          clear hw'
          replace KH := Lib.hid (bk_keep q6 (bk_lt KH.out) KH.out); replace KR := Lib.hid (bk_keep q6 (bk_lt KR.out) KR.out); replace KW := Lib.hid (bk_keep q6 (bk_lt KW.out) KW.out); replace KS := Lib.hid (bk_keep q6 (bk_lt KS.out) KS.out)
          replace F := Lib.hid (F.out.trans (q6.mono F.out.size))
          clear c0 c4 lS q6 hidx ckw
          have c5 := (bk_cell KS.out 5).trans (row_5 t); have c6 := (bk_cell KS.out 6).trans (row_6 t); have c7 := (bk_cell KS.out 7).trans (row_7 t)
          obtain ⟨ww, hww⟩ : ∃ x, x = ws.getD k 0 := ⟨_, rfl⟩
          have cw : w6.cell? ⟨w.heap.size + 1 + 1, k, none⟩ = some (V ww) := by
            rw [bk_cell KW.out, List.getElem?_toArray, List.getElem?_map, List.getElem?_eq_getElem (by rw [HWL.out]; exact hk64), hww, List.getD_eq_getElem?_getD, List.getElem?_eq_getElem (by rw [HWL.out]; exact hk64)]
            rfl
          have lS := bk_lt KS.out
          have lW := bk_lt KW.out
          have HWW := Lib.hid hww
          clear hww
          go_upto_region 16 with fail
          refine wp_region_later (w6.heap.size) (by kernel_rfl) (by kernel_rfl) ?_
          repeat (go_big_quiet_step (((rename_i xq; first | with_reducible exact tlater (Nat.le_refl _) t.e 6 6 rfl (by decide) (by decide) xq | with_reducible exact tlater (Nat.le_refl _) t.e 11 11 rfl (by decide) (by decide) xq | with_reducible exact tlater (Nat.le_refl _) t.e 25 25 rfl (by decide) (by decide) xq))))
          (first | refine wpQuiet_nil ?_ | (go_big_quiet_want; (try go_big_quiet_op); trace_state; fail))
          intro w7 hw'
          have q7 := later_elim hw'
          clear hw'
          replace KH := Lib.hid (bk_keep q7 (bk_lt KH.out) KH.out); replace KR := Lib.hid (bk_keep q7 (bk_lt KR.out) KR.out); replace KW := Lib.hid (bk_keep q7 (bk_lt KW.out) KW.out); replace KS := Lib.hid (bk_keep q7 (bk_lt KS.out) KS.out)
          replace F := Lib.hid (F.out.trans (q7.mono F.out.size))
          clear c5 c6 c7 cw lS lW q7
          obtain ⟨o, ho⟩ : ∃ o, o = one kw ww t := ⟨_, rfl⟩
          have HO1 : Hid (uA (uA (uA (uA t.h (uX (uX (rr t.e 6) (rr t.e 11)) (rr t.e 25))) (uX (uN t.e t.f) (uN (uC t.e) t.g))) kw) ww = o) := Lib.hid (by rw [ho]; rfl)
          rw [HO1.out]
          have HO := Lib.hid ho
          clear ho HO1
          have c1 := (bk_cell KS.out 1).trans (row_1 t); have c2 := (bk_cell KS.out 2).trans (row_2 t)
          have lS := bk_lt KS.out
          go_upto_region 17 with fail
          refine wp_region_later (w7.heap.size) (by kernel_rfl) (by kernel_rfl) ?_
          repeat (go_big_quiet_step (((rename_i xq; first | with_reducible exact tlater (Nat.le_refl _) t.a 2 2 rfl (by decide) (by decide) xq | with_reducible exact tlater (Nat.le_refl _) t.a 13 13 rfl (by decide) (by decide) xq | with_reducible exact tlater (Nat.le_refl _) t.a 22 22 rfl (by decide) (by decide) xq))))
          (first | refine wpQuiet_nil ?_ | (go_big_quiet_want; (try go_big_quiet_op); trace_state; fail))
          intro w8 hw'
          have q8 := later_elim hw'
          clear hw'
          replace KH := Lib.hid (bk_keep q8 (bk_lt KH.out) KH.out); replace KR := Lib.hid (bk_keep q8 (bk_lt KR.out) KR.out); replace KW := Lib.hid (bk_keep q8 (bk_lt KW.out) KW.out); replace KS := Lib.hid (bk_keep q8 (bk_lt KS.out) KS.out)
          replace F := Lib.hid (F.out.trans (q8.mono F.out.size))
          clear c1 c2 lS q8
          obtain ⟨o2, ho2⟩ : ∃ o, o = two t := ⟨_, rfl⟩
          have HO2 : Hid (uA (uX (uX (rr t.a 2) (rr t.a 13)) (rr t.a 22)) (uX (uX (uN t.a t.b) (uN t.a t.c)) (uN t.b t.c)) = o2) := Lib.hid (by rw [ho2]; rfl)
          rw [HO2.out]
          have HT2 := Lib.hid ho2
          clear ho2 HO2
          have c0 := (bk_cell KS.out 0).trans (row_0 t); have c1 := (bk_cell KS.out 1).trans (row_1 t); have c2 := (bk_cell KS.out 2).trans (row_2 t); have c3 := (bk_cell KS.out 3).trans (row_3 t); have c4 := (bk_cell KS.out 4).trans (row_4 t); have c5 := (bk_cell KS.out 5).trans (row_5 t); have c6 := (bk_cell KS.out 6).trans (row_6 t)
          have ks := KS.out
          have lS := bk_lt ks
          go_wp2_with fail
          change stRow _ 8 w8 z (S8.row ⟨uA o o2, t.a, t.b, t.c, uA t.d o, t.e, t.f, t.g⟩) _ _
          obtain ⟨t', ht'⟩ : ∃ t' : S8, t' = ⟨uA o o2, t.a, t.b, t.c, uA t.d o, t.e, t.f, t.g⟩ := ⟨_, rfl⟩
          rw [← ht']
          have HT' : Hid (t' = run K0 ws s (k + 1)) := Lib.hid (by
            rw [ht', HO.out, HT2.out]
            show _ = stp (K0.getD k 0) (ws.getD k 0) (run K0 ws s k)
            rw [← HKW.out, ← HWW.out, ← HT.out]
            rfl)
          clear ht' c0 c1 c2 c3 c4 c5 c6
          have hs8' : t.row.size = 8 := rfl
          have hs8'' : t'.row.size = 8 := rfl
          go_wp2_with fail
          apply_assumption
          go_wp2_with fail
          go_roundw
          case rel =>
            refine ⟨k + 1, by omega, by go_num, Lib.hid ((bk_setRow_other _ _ _ _ (by omega)).trans KH.out), Lib.hid ((bk_setRow_other _ _ _ _ (by omega)).trans KR.out), Lib.hid ((bk_setRow_other _ _ _ _ (by omega)).trans KW.out), ?_, Lib.hid (below_setRow F.out (by omega) _)⟩
            refine Lib.hid ?_
            rw [bk_setRow_same, KS.out, ← HT'.out]
            rfl
          case measure => simp [intOf]; omega
        · have y1 : decide ((k : Int) < 64) = false := by simp; omega
          obtain rfl : k = 64 := by omega
          obtain ⟨t, ht⟩ : ∃ t, t = run K0 ws s 64 := ⟨_, rfl⟩
          rw [← ht] at KS
          have HT := Lib.hid ht
          clear ht
          go_wp2_with fail
          clear KW
          go_loopw [151] (fun i wr => ∃ k : Nat, k ≤ 8 ∧ i = .int .i64 k ∧ Hid (bk wr w.heap.size = some (.cells (mrow s t k) 56 (0, 0))) ∧ Hid (bk wr (w.heap.size + 1) = some (.cells r4.row 56 (0, 0))) ∧ Hid (bk wr z = some (.cells t.row 56 (0, 0))) ∧ Hid (Below w.heap.size w wr)) (fun i _ => 8 - (intOf i).toNat)
          case atStart => exact ⟨0, by omega, rfl, KH, KR, KS, F⟩
          case round =>
            clear KH KR KS F
            obtain ⟨k, hk, rfl, KH, KR, KS, F⟩ := hrel
            by_cases hk8 : k < 8
            · have y1 : decide ((k : Int) < 8) = true := by simp; omega
              have hk8' : (k : Int) < 8 := by omega
              obtain ⟨x, hx⟩ : ∃ x, x = s.ls.getD k 0 := ⟨_, rfl⟩
              obtain ⟨y, hy⟩ : ∃ x, x = t.ls.getD k 0 := ⟨_, rfl⟩
              have cx := (bk_cell KH.out k).trans (mrow_at s t k hk8)
              have cy := (bk_cell KS.out k).trans (S8.row_at t k hk8)
              rw [← hx] at cx
              rw [← hy] at cy
              have lS := bk_lt KS.out
              have lH := bk_lt KH.out
              have HXY : Hid ((mrow s t k).setIfInBounds k (V (uA x y)) = mrow s t (k + 1)) := Lib.hid (by rw [hx, hy]; exact mrow_set s t k hk8)
              clear hx hy
              go_upto_region 23 with fail
              refine wp_region_later_tail (wr.heap.size) 7 (by kernel_rfl) (by kernel_rfl) ?_
              simp only [List.take_succ_cons, List.take_zero, List.drop_succ_cons, List.drop_zero]
              repeat (go_big_quiet_step ((fail)))
              (first | refine wpQuiet_nil ?_ | (go_big_quiet_want; (try go_big_quiet_op); trace_state; fail))
              intro w6 hw'
              have q6 := later_elim hw'
              clear hw'
              have KH2 := Lib.hid (bk_keep q6 lH KH.out); have KR2 := Lib.hid (bk_keep q6 (bk_lt KR.out) KR.out); have KS2 := Lib.hid (bk_keep q6 lS KS.out)
              have F2 := Lib.hid (F.out.trans (q6.mono F.out.size))
              clear cx cy lS lH q6 KH KR KS F
              have cx := (bk_cell KH2.out k).trans (mrow_at s t k hk8)
              have fx := bk_frozen KH2.out k
              have lH := bk_lt KH2.out
              go_wp2_with fail
              go_roundw
              case rel =>
                refine ⟨k + 1, by omega, by go_num, ?_, Lib.hid ((bk_setCell_other _ _ _ _ _ (by omega)).trans KR2.out), Lib.hid ((bk_setCell_other _ _ _ _ _ (by omega)).trans KS2.out), Lib.hid (F2.out.setCell (p := ⟨w.heap.size, k, none⟩) (Nat.le_refl _) _)⟩
                refine Lib.hid ?_
                rw [bk_setCell_same, KH2.out]
                show some (Obj.cells ((mrow s t k).setIfInBounds k (V (uA x y))) _ _) = _
                rw [HXY.out]
              case measure => simp [intOf]; omega
            · have y1 : decide ((k : Int) < 8) = false := by simp; omega
              obtain rfl : k = 8 := by omega
              obtain ⟨r, hr⟩ : ∃ r, r = plus s t := ⟨_, rfl⟩
              have er : mrow s t 8 = r.row := by rw [hr]; rfl
              rw [er] at KH
              have HR := Lib.hid hr
              clear er hr
              have kh := KH.out
              have lh := bk_lt kh
              have kr := KR.out
              have lr := bk_lt kr
              have hr8 : r.row.size = 8 := rfl
              have hr4 : r4.row.size = 8 := rfl
              go_wp2_with fail
              refine ret_cell (cs := r.row) rfl rfl rfl ?_ Tryd.underlying56 rfl (by rw [S8.row_size]; kernel_rfl) ?_
              rotate_left
              · refine ⟨?_, below_setRow F.out (by omega) _⟩
                rw [HR.out, HT.out, HWS.out]
                rfl
              · rw [bk_setRow_same, kr]; rfl
end Go.Proofs.YtmdalmegogfanaaDoor

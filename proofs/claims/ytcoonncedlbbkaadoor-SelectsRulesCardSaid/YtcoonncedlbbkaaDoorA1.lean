/- The addresses' functions. -/
import Derived.Test.YtcoonncedlbbkaaDoorRows
import Derived.Test.YtcoonncedlbbkaaDoorL0
import Derived.Test.YtcoonncedlbbkaaDoorA0
import Derived.Laws.BitsAllLaws
namespace Go.Proofs.YtcoonncedlbbkaaDoor
open Go.RowKit Ad
set_option maxRecDepth 100000
@[go_sem ↓] theorem ldAddr (dst : Option Tmp) (x : Operand) (t : TypeId) (pos : String) (af : Array Edge) (g : Option (Nat × Bool)) (a : Act) (w : World) (K : Act → World → Prop) (Q : Exit → Act → World → Prop) :
    Oper.wp Tryd.prog ⟨dst, .load 23 x, t, pos, af, g⟩ a w K Q = ldPtr (wpHid Tryd.prog ⟨dst, .load 23 x, t, pos, af, g⟩ a w K Q) 16 w (fun c => K (a.put dst (.agg c)) w) (a.eval x) :=
  wp_load_bk 23 16 _ Tryd.underlying23 rfl (by kernel_rfl) dst x t pos af g a w K Q
@[go_sem ↓] theorem stAddr (dst : Option Tmp) (x y : Operand) (t : TypeId) (pos : String) (af : Array Edge) (g : Option (Nat × Bool)) (a : Act) (w : World) (K : Act → World → Prop) (Q : Exit → Act → World → Prop) :
    Oper.wp Tryd.prog ⟨dst, .store 23 x y, t, pos, af, g⟩ a w K Q = stPtr (wpHid Tryd.prog ⟨dst, .store 23 x y, t, pos, af, g⟩ a w K Q) 16 w (fun w' => K (a.put dst undef) w') (a.eval x) (a.eval y) :=
  wp_store_bk 23 16 (by kernel_rfl) dst x y t pos af g a w K Q
@[go_sem ↓] theorem qlAddr (dst : Option Tmp) (x : Operand) (t : TypeId) (pos : String) (af : Array Edge) (g : Option (Nat × Bool)) (a : Act) (m : Nat) (W : World) (K : Act → Prop) :
    Oper.quiet Tryd.prog ⟨dst, .load 23 x, t, pos, af, g⟩ a (fun w' => ∃ x : Later m W, w' = x.w) K =
      ldLater (quietHid Tryd.prog ⟨dst, .load 23 x, t, pos, af, g⟩ a (fun w' => ∃ x : Later m W, w' = x.w) K) m 16 W (fun c => K (a.put dst (.agg c))) (a.eval x) :=
  quiet_load_bk 23 16 _ Tryd.underlying23 rfl (by kernel_rfl) dst x t pos af g a m W K
theorem eqAddr (a b : List UInt8) (ha : a.length = 16) (hb : b.length = 16) (w : World) : (Op.equalIn 10000 23 (.agg (List.map B a).toArray) (.agg (List.map B b).toArray)).run Tryd.prog w = .ok (a == b) w :=
  run_equalIn_bytes w 9998 23 5 16 Tryd.underlying23 Tryd.underlying5 (fun _ => by kernel_rfl) a b ha hb

def isMul (l : List UInt8) : Bool := l.getD 0 0 == 255
def isLL (l : List UInt8) : Bool := l.getD 0 0 == 254 && l.getD 1 0 / 64 == 2
theorem u8_beq (x y : UInt8) : ((x.toNat : Int) == (y.toNat : Int)) = (x == y) := by
  rw [Bool.eq_iff_iff]; simp [← UInt8.toNat_inj]; omega
theorem isMul_any (l : List UInt8) (h : l.length = 16) (w : World) :
    Calls Tryd.prog 21 #[av l] w fun e w' => e = .returned (.bool (isMul l)) ∧ Below w.heap.size w w' := by
  have hfin : isMul l = ((l[0].toNat : Int) == 255) := by
    rw [isMul, ← u8_beq]; simp [List.getD_eq_getElem?_getD, h]
  have HF := Lib.hid hfin; clear hfin
  unfold av
  go_enter Tryd.func21, Tryd.ntmps21
  go_wp2
  go_ret
  refine ⟨?_, (Below.refl _ _).alloc (Nat.le_refl _) _⟩
  rw [HF.out]; rfl
theorem isLL_any (l : List UInt8) (h : l.length = 16) (w : World) :
    Calls Tryd.prog 22 #[av l] w fun e w' => e = .returned (.bool (isLL l)) ∧ Below w.heap.size w w' := by
  have hfin : isLL l = (((l[0].toNat : Int) == 254) && ((l[1].toNat : Int) / 64 == 2)) := by
    have h1 : ((l[1].toNat : Int) / 64 == 2) = (l[1] / 64 == 2) := by rw [← u8_beq]; simp
    rw [isLL, ← u8_beq, h1]; simp [List.getD_eq_getElem?_getD, h]
  have HF := Lib.hid hfin; clear hfin
  unfold av
  go_enter Tryd.func22, Tryd.ntmps22
  by_cases hd : (l[0].toNat : Int) = 254
  all_goals
    go_wp2
    go_ret
    refine ⟨?_, (Below.refl _ _).alloc (Nat.le_refl _) _⟩
    rw [HF.out]; simp [hd]; try rfl
/-- The table of known addresses. -/
def knownL : List UInt8 := [0, 0, 0, 0, 0, 0, 0, 0, 0, 0, 0, 0, 0, 0, 0, 0,  0, 0, 0, 0, 0, 0, 0, 0, 0, 0, 0, 0, 0, 0, 0, 1,  255, 2, 0, 0, 0, 0, 0, 0, 0, 0, 0, 0, 0, 0, 0, 1,  255, 2, 0, 0, 0, 0, 0, 0, 0, 0, 0, 0, 0, 0, 0, 2,  255, 2, 0, 0, 0, 0, 0, 0, 0, 0, 0, 0, 0, 0, 0, 22,  255, 2, 0, 0, 0, 0, 0, 0, 0, 0, 0, 0, 0, 1, 0, 2,  255, 2, 0, 0, 0, 0, 0, 0, 0, 0, 0, 1, 255, 0, 0, 0]
def knownA (k : Nat) : List UInt8 := sl knownL (16 * k) 16
/-- The table lies in block 0. -/
def GK (w : World) : Prop := ∃ c t fr, bk w 0 = some (.cells c t fr) ∧ xt c 0 112 = (List.map B knownL).toArray
theorem GK.below {n : Nat} {w w' : World} (h : GK w) (hb : Below n w w') (hn : 0 < n) : GK w' := by
  obtain ⟨c, t, fr, h1, h2⟩ := h
  exact ⟨c, t, fr, (hb.block 0 hn).trans h1, h2⟩
theorem known_ex {c : Array Value} (h : xt c 0 112 = (List.map B knownL).toArray) : 112 ≤ c.size ∧ ∀ k, k < 7 → xt c (16 * k) 16 = (List.map B (knownA k)).toArray := by
  have hs : (xt c 0 112).size = 112 := by rw [h]; rfl
  simp [xt] at hs
  refine ⟨by omega, fun k hk => ?_⟩
  have : xt c (16 * k) 16 = xt (xt c 0 112) (16 * k) 16 := by
    unfold xt
    rw [Array.extract_extract]; congr 1 <;> omega
  rw [this, h, xt_map]; rfl
theorem unspec_any (w : World) (hg : GK w) :
    Calls Tryd.prog 24 #[] w fun e w' => e = .returned (av (knownA 0)) ∧ Below w.heap.size w w' := by
  obtain ⟨c, t, fr, hk, hc⟩ := hg
  have hlt := bk_lt hk
  obtain ⟨hs0, hx0⟩ := known_ex hc
  have hx := hx0 0 (by omega)
  have hs : 16 ≤ c.size := by omega
  have hl : (knownA 0).length = 16 := rfl
  simp only [Nat.reduceMul] at hx
  clear hc hx0 hs0
  go_enter Tryd.func24, Tryd.ntmps24
  go_wp2
  refine ret_cell rfl rfl rfl (by rw [bk_alloc_at _ _ _ rfl]; rfl) Tryd.underlying23 rfl (by rw [map_size, hl]; kernel_rfl) ?_
  exact ⟨rfl, (Below.refl _ _).alloc (Nat.le_refl _) _⟩
theorem loopback_any (w : World) (hg : GK w) :
    Calls Tryd.prog 23 #[] w fun e w' => e = .returned (av (knownA 1)) ∧ Below w.heap.size w w' := by
  obtain ⟨c, t, fr, hk, hc⟩ := hg
  have hlt := bk_lt hk
  obtain ⟨hs0, hx0⟩ := known_ex hc
  have hx := hx0 1 (by omega)
  have hs : 32 ≤ c.size := by omega
  have hl : (knownA 1).length = 16 := rfl
  simp only [Nat.reduceMul] at hx
  clear hc hx0 hs0
  go_enter Tryd.func23, Tryd.ntmps23
  go_wp2
  refine ret_cell rfl rfl rfl (by rw [bk_alloc_at _ _ _ rfl]; rfl) Tryd.underlying23 rfl (by rw [map_size, hl]; kernel_rfl) ?_
  exact ⟨rfl, (Below.refl _ _).alloc (Nat.le_refl _) _⟩
end Go.Proofs.YtcoonncedlbbkaaDoor

/- make, of bytes; a twin of bytes. -/
import Derived.Test.YtfldoihindbdmaaS1
import Derived.Laws.MakeOwn
import Derived.OwnWalk
namespace Go.Proofs.Ytfldoihindbdmaa
open Go.RowKit
set_option maxRecDepth 100000
section
variable {P : Program}
def mkTo (X : Prop) (k : Nat → Nat → Prop) : Value → Value → Prop
  | .int _ l, .int _ c => if 0 ≤ l ∧ l ≤ c ∧ c ≤ 140737488355328 then k l.toNat c.toNat else X
  | _, _ => X
@[go_sem] theorem mkTo_int (X : Prop) (k : Nat → Nat → Prop) (k1 k2 : IntKind) (l c : Int) : mkTo X k (.int k1 l) (.int k2 c) = if 0 ≤ l ∧ l ≤ c ∧ c ≤ 140737488355328 then k l.toNat c.toNat else X := rfl
theorem made_bytes (n : Nat) : madeCells #[Value.int .u8 0] n = (List.map B (List.replicate n 0)).toArray := by
  apply Array.ext_getElem?
  intro i
  simp [madeCells, B]
  by_cases h : i < n
  · simp [h, Nat.mod_one]
  · simp [h]
theorem wp_make_bk (ty e : TypeId) (he : P.underlying ty = some (.slice e)) (hi : (P.info? e).map (fun i => (i.zero, i.size, i.bytes)) = some (some (.int .u8 0), 1, 1))
    (dst : Option Tmp) (x y : Operand) (t : TypeId) (pos : String) (af : Array Edge) (g : Option (Nat × Bool)) (a : Act) (w : World) (K : Act → World → Prop) (Q : Exit → Act → World → Prop) :
    Oper.wp P ⟨dst, .makeSlice ty x y, t, pos, af, g⟩ a w K Q = mkTo (wpHid P ⟨dst, .makeSlice ty x y, t, pos, af, g⟩ a w K Q)
      (fun n c => K (a.put dst (.slice (some ⟨w.heap.size, 0, none⟩) n c)) (w.alloc (.cells (List.map B (List.replicate c 0)).toArray e))) (a.eval x) (a.eval y) := by
  obtain ⟨i, hi1, hz, hs, hb⟩ := info_parts hi
  unfold mkTo
  split
  · rename_i k1 l k2 c h1 h2
    split
    · rename_i h
      have hr := run_make (P := P) w ty e i _ he hi1 hz k1 k2 l c h.1 h.2.1 (by rw [hb]; omega) (by omega)
      rw [hs, Nat.mul_one, show (Value.int .u8 0).cells = #[Value.int .u8 0] from rfl, made_bytes] at hr
      unfold Oper.wp execOp
      simp only [h1, h2, Sem.run_bind, hr, Result.andThen_ok]
      rfl
    · unfold wpHid; rfl
  · unfold wpHid; rfl
end
@[go_sem ↓] theorem mkBytes (dst : Option Tmp) (x y : Operand) (t : TypeId) (pos : String) (af : Array Edge) (g : Option (Nat × Bool)) (a : Act) (w : World) (K : Act → World → Prop) (Q : Exit → Act → World → Prop) :
    Oper.wp Try.prog ⟨dst, .makeSlice 22 x y, t, pos, af, g⟩ a w K Q = mkTo (wpHid Try.prog ⟨dst, .makeSlice 22 x y, t, pos, af, g⟩ a w K Q)
      (fun n c => K (a.put dst (.slice (some ⟨w.heap.size, 0, none⟩) n c)) (w.alloc (.cells (List.map B (List.replicate c 0)).toArray 5))) (a.eval x) (a.eval y) :=
  wp_make_bk 22 5 Try.underlying22 (by kernel_rfl) dst x y t pos af g a w K Q
/-- What a twin holds: the bytes, and four strange ones. -/
def tw (l : List UInt8) (x : UInt8) : List UInt8 := l ++ [x, x, x, x]
theorem tw_length (l : List UInt8) (x : UInt8) : (tw l x).length = l.length + 4 := by simp [tw]
def twK (l : List UInt8) (x : UInt8) (k : Nat) : List UInt8 := (tw l x).take k ++ List.replicate (l.length + 4 - k) 0
theorem twK_length (l : List UInt8) (x : UInt8) (k : Nat) (h : k ≤ l.length + 4) : (twK l x k).length = l.length + 4 := by
  simp [twK, tw_length]; omega
theorem twK_zero (l : List UInt8) (x : UInt8) : twK l x 0 = List.replicate (l.length + 4) 0 := by simp [twK]
theorem twK_all (l : List UInt8) (x : UInt8) : twK l x (l.length + 4) = tw l x := by
  simp [twK, List.take_of_length_le, tw_length]
theorem twK_set (l : List UInt8) (x y _z : UInt8) (k : Nat) (h : k < l.length + 4) (hy : (tw l x)[k]? = some y) : (twK l x k).set k y = twK l x (k + 1) := by
  have hk : k < (tw l x).length := by rw [tw_length]; exact h
  have hy' : (tw l x)[k] = y := by rw [List.getElem?_eq_getElem hk] at hy; exact Option.some.inj hy
  unfold twK
  rw [List.set_append_right _ _ (by simp; omega), List.length_take, Nat.min_eq_left (by omega), Nat.sub_self, List.take_succ_eq_append_getElem hk, hy',
    show l.length + 4 - k = (l.length + 4 - (k + 1)) + 1 by omega, List.replicate_succ]
  simp
theorem twin_any (A : Option Addr) (l : List UInt8) (c : Nat) (x : UInt8) (w : World) (h : Rd w w.heap.size A l) (hl : l.length < 2 ^ 46) :
    Calls Try.prog 67 #[.slice A l.length c, B x] w fun e w' => e = .returned (.slice (some ⟨w.heap.size, 0, none⟩) l.length (l.length + 4)) ∧
      bk w' w.heap.size = some (.cells (List.map B (tw l x)).toArray 5 (0, 0)) ∧ Below w.heap.size w w' := by
  have H := Lib.hid h; clear h
  have ht : ((l.length : Int) + 4).toNat = l.length + 4 := by omega
  go_enter Try.func67, Try.ntmps67
  go_wp2
  go_loopw [6] (fun i w' => ∃ k : Nat, k ≤ l.length + 4 ∧ i = .int .i64 k ∧ Below w.heap.size w w' ∧ w.heap.size + 1 ≤ w'.heap.size ∧ bk w' w.heap.size = some (.cells (List.map B (twK l x k)).toArray 5 (0, 0))) (fun i _ => l.length + 4 - (intOf i).toNat)
  case atStart =>
    refine ⟨0, by omega, rfl, (Below.refl _ _).alloc (Nat.le_refl _) _, by simp, ?_⟩
    rw [bk_alloc_at _ _ _ rfl, twK_zero]; simp
  case round =>
    obtain ⟨k, hk, rfl, hbel, hsz, hb⟩ := hrel
    by_cases hlt : k < l.length + 4
    · have d1 : decide ((k : Int) < (l.length : Int) + 4) = true := by simp; omega
      have hlen := twK_length l x k hk
      by_cases h2 : k < l.length
      · have d2 : decide ((k : Int) < (l.length : Int)) = true := by simp; omega
        obtain ⟨b1, o1, rfl, hb1, hc1⟩ := (H.out.below hbel (Nat.le_refl _)).at h2
        obtain ⟨y, hy⟩ : ∃ y, y = l[k] := ⟨_, rfl⟩
        rw [← hy] at hc1
        have hset : (twK l x k).set k y = twK l x (k + 1) := twK_set l x y 0 k hlt (by rw [tw, List.getElem?_append_left h2, List.getElem?_eq_getElem h2, hy])
        have HY := Lib.hid hset
        clear hset hy
        have hf := bk_frozen hb k
        have hc := bk_cell hb k
        have HB := Lib.hid hb
        clear hb
        go_wp2
        go_roundw
        case rel =>
          refine ⟨k + 1, by omega, by go_num, (hbel.setCell (Nat.le_refl _) _).setCell (Nat.le_refl _) _, by simpa [World.setCell] using hsz, ?_⟩
          rw [bk_setCell_same, bk_setCell_same, HB.out]
          show some (Obj.cells (((List.map B (twK l x k)).toArray.setIfInBounds k (B x)).setIfInBounds k (B y)) _ _) = _
          rw [map_set, map_set, List.set_set, HY.out]
        case measure => simp [intOf]; omega
      · have d2 : decide ((k : Int) < (l.length : Int)) = false := by simp; omega
        have hset : (twK l x k).set k x = twK l x (k + 1) := twK_set l x x 0 k hlt (by
          rw [tw, List.getElem?_append_right (by omega)]
          rcases (by omega : k - l.length = 0 ∨ k - l.length = 1 ∨ k - l.length = 2 ∨ k - l.length = 3) with e | e | e | e <;> rw [e] <;> rfl)
        have HY := Lib.hid hset
        clear hset
        have hf := bk_frozen hb k
        have hc := bk_cell hb k
        have HB := Lib.hid hb
        clear hb
        go_wp2
        go_roundw
        case rel =>
          refine ⟨k + 1, by omega, by go_num, hbel.setCell (Nat.le_refl _) _, by simpa [World.setCell] using hsz, ?_⟩
          rw [bk_setCell_same, HB.out]
          show some (Obj.cells ((List.map B (twK l x k)).toArray.setIfInBounds k (B x)) _ _) = _
          rw [map_set, HY.out]
        case measure => simp [intOf]; omega
    · have d1 : decide ((k : Int) < (l.length : Int) + 4) = false := by simp; omega
      have hk' : k = l.length + 4 := by omega
      rw [hk', twK_all] at hb
      clear hlt hk'
      go_wp2
      go_ret
      exact ⟨rfl, hb, hbel⟩
end Go.Proofs.Ytfldoihindbdmaa

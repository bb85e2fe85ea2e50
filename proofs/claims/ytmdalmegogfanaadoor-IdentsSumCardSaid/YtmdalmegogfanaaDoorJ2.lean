/- The document's hash: plain. -/
import Derived.Test.YtmdalmegogfanaaDoorJ1
import Derived.Test.YtmdalmegogfanaaDoorI3
namespace Go.Proofs.YtmdalmegogfanaaDoor
open Go.RowKit
set_option maxRecDepth 100000
def pr (i : Nat) : Nat := (pl 312).getD i 0
theorem pr_lt : ∀ i : Fin 64, pr i.val < 1000 := by decide +kernel
theorem pr_cube : ∀ i : Fin 64, root (cbT (pr i.val)) 37 0 % 4294967296 = (K0.getD i.val 0).toNat := by decide +kernel
theorem pr_square : ∀ i : Fin 8, root (sqT (pr i.val)) 37 0 % 4294967296 = (H0.ls.getD i.val 0).toNat := by decide +kernel
/-- A row of words of which i are told. -/
def told (l : List UInt32) (n i : Nat) : Array Value := ((l.take i ++ List.replicate (n - i) 0).map V).toArray
theorem told_set {l : List UInt32} {n i : Nat} (hl : l.length = n) (h : i < n) : (told l n i).setIfInBounds i (V (l.getD i 0)) = told l n (i + 1) := by
  apply Array.ext'
  simp only [told, Array.toList_setIfInBounds, List.toList_toArray]
  rw [← List.map_set]
  congr 1
  rw [List.set_append_right _ _ (by simp; omega), List.length_take, show i - min i l.length = 0 by omega, show n - i = (n - (i + 1)) + 1 by omega, List.replicate_succ, List.set_cons_zero]
  rw [List.take_succ_eq_append_getElem (by omega), List.getD_eq_getElem?_getD, List.getElem?_eq_getElem (by omega), List.append_assoc]
  rfl
theorem told_size {l : List UInt32} {n i : Nat} (hl : l.length = n) (h : i ≤ n) : (told l n i).size = n := by simp [told]; omega
theorem told_at {l : List UInt32} {n i : Nat} (hl : l.length = n) (h : i < n) : (told l n i)[i]? = some (V 0) := by
  simp only [told, List.getElem?_toArray, List.getElem?_map]
  rw [List.getElem?_append_right (by simp; omega), List.length_take, show i - min i l.length = 0 by omega, List.getElem?_replicate_of_lt (by omega)]
  rfl
theorem told_all {l : List UInt32} {n : Nat} (hl : l.length = n) : told l n n = (l.map V).toArray := by simp [told, ← hl]
theorem told_zero (l : List UInt32) (n : Nat) : told l n 0 = ((List.replicate n (0 : UInt32)).map V).toArray := by simp [told]
theorem ch_or (e f g : UInt32) : uO (uN e f) (uN (uC e) g) = uX (uN e f) (uN (uC e) g) := by
  unfold uO uN uC uX
  apply UInt32.toBitVec_inj.1
  apply BitVec.eq_of_getLsbD_eq
  intro i hi
  simp only [BitVec.getLsbD_or, BitVec.getLsbD_and, BitVec.getLsbD_xor, UInt32.toBitVec_or, UInt32.toBitVec_and, UInt32.toBitVec_xor, UInt32.toBitVec_not, BitVec.getLsbD_not, hi, decide_true, Bool.true_and]
  cases e.toBitVec.getLsbD i <;> cases f.toBitVec.getLsbD i <;> cases g.toBitVec.getLsbD i <;> rfl
theorem maj_or (a b c : UInt32) : uO (uO (uN a b) (uN a c)) (uN b c) = uX (uX (uN a b) (uN a c)) (uN b c) := by
  unfold uO uN uX
  apply UInt32.toBitVec_inj.1
  apply BitVec.eq_of_getLsbD_eq
  intro i hi
  simp only [BitVec.getLsbD_or, BitVec.getLsbD_and, BitVec.getLsbD_xor, UInt32.toBitVec_or, UInt32.toBitVec_and, UInt32.toBitVec_xor]
  cases a.toBitVec.getLsbD i <;> cases b.toBitVec.getLsbD i <;> cases c.toBitVec.getLsbD i <;> rfl
theorem uC_toNat (x : UInt32) : (uC x).toNat = 4294967295 - x.toNat := by
  unfold uC
  rw [UInt32.toNat_not]
  rfl
@[go_sem] theorem sub_uC (x : UInt32) : IntKind.u32.wrap (4294967295 - (x.toNat : Int)) = ((uC x).toNat : Int) := by
  have := x.toNat_lt
  rw [uC_toNat, IntKind.wrap_u32]
  omega
@[go_sem] theorem sub_uC' (x : UInt32) : (4294967295 - (x.toNat : Int)) % 4294967296 = ((uC x).toNat : Int) := by
  rw [← IntKind.wrap_u32]; exact sub_uC x
theorem nxt_alt (a b c d : UInt32) : uA (uA (uA a b) c) d = uA (uA (uA a c) b) d := by
  unfold uA
  rw [UInt32.add_assoc a b c, UInt32.add_comm b c, ← UInt32.add_assoc]
theorem rlater {m : Nat} {W : World} (hm : m ≤ W.heap.size) (a : UInt32) (n : Nat) (z : Int) (hz : z = n) (h1 : 1 ≤ n) (h2 : n ≤ 31) (x : Later m W) :
    Calls Tryd.prog 30 #[V a, .int .i64 z] x.w fun e w' => e = .returned (V (rr a n)) ∧ ∃ y : Later m W, w' = y.w := by
  subst hz
  exact later_call x hm (right_any a n x.w h1 h2)
theorem four_at {Q : List UInt8} {k : Nat} (h : 4 * k + 4 ≤ Q.length) : ∃ y0 y1 y2 y3, (Q.drop (4 * k)).take 4 = [y0, y1, y2, y3] ∧ Q[4 * k]? = some y0 ∧ Q[4 * k + 1]? = some y1 ∧ Q[4 * k + 2]? = some y2 ∧ Q[4 * k + 3]? = some y3 := by
  refine ⟨Q[4 * k], Q[4 * k + 1], Q[4 * k + 2], Q[4 * k + 3], ?_, List.getElem?_eq_getElem _, List.getElem?_eq_getElem _, List.getElem?_eq_getElem _, List.getElem?_eq_getElem _⟩
  rw [List.drop_eq_getElem_cons (by omega), List.drop_eq_getElem_cons (by omega), List.drop_eq_getElem_cons (by omega), List.drop_eq_getElem_cons (by omega)]
  rfl
theorem word_four {Q : List UInt8} {k : Nat} {y0 y1 y2 y3 : UInt8} (h : (Q.drop (4 * k)).take 4 = [y0, y1, y2, y3]) : (word Q k).toNat = y0.toNat * 16777216 + y1.toNat * 65536 + y2.toNat * 256 + y3.toNat := by
  unfold word
  rw [h, UInt32.toNat_ofNat']
  simp only [val, List.foldl_cons, List.foldl_nil]
  have := y0.toNat_lt; have := y1.toNat_lt; have := y2.toNat_lt; have := y3.toNat_lt
  omega
theorem mrow_at' {s t : S8} {k : Nat} {a : UInt32} (h : k < 8) (ha : s.ls.getD k 0 = a) : (mrow s t k)[k]? = some (V a) := by rw [← ha]; exact mrow_at s t k h
theorem put_mrow {w : World} {x k : Nat} {s t : S8} {a b : UInt32} {ty : TypeId} {fr : Nat × Nat} (hk : k < 8) (ha : s.ls.getD k 0 = a) (hb : t.ls.getD k 0 = b) (h : bk w x = some (.cells (mrow s t k) ty fr)) :
    bk (w.setCell ⟨x, k, none⟩ (V (uA a b))) x = some (.cells (mrow s t (k + 1)) ty fr) := by
  rw [bk_setCell_same, h, ← ha, ← hb, ← mrow_set s t k hk]
  rfl
theorem rcall (a : UInt32) (n : Nat) (z : Int) (hz : z = n) (h1 : 1 ≤ n) (h2 : n ≤ 31) (w : World) :
    Calls Tryd.prog 30 #[V a, .int .i64 z] w fun e w' => e = .returned (V (rr a n)) ∧ Below w.heap.size w w' := by
  subst hz
  exact right_any a n w h1 h2
theorem one_or (k w : UInt32) (t : S8) : uA (uA (uA (uA t.h (uX (uX (rr t.e 6) (rr t.e 11)) (rr t.e 25))) (uO (uN t.e t.f) (uN (uC t.e) t.g))) k) w = one k w t := by rw [ch_or]; rfl
theorem two_or (t : S8) : uA (uX (uX (rr t.a 2) (rr t.a 13)) (rr t.a 22)) (uO (uO (uN t.a t.b) (uN t.a t.c)) (uN t.b t.c)) = two t := by rw [maj_or]; rfl
/-- A row of bytes of which i are told. -/
def tb (l : List UInt8) (n i : Nat) : Array Value := ((l.take i ++ List.replicate (n - i) 0).map B).toArray
theorem tb_set {l : List UInt8} {n i : Nat} (hl : l.length = n) (h : i < n) : (tb l n i).setIfInBounds i (B (l.getD i 0)) = tb l n (i + 1) := by
  apply Array.ext'
  simp only [tb, Array.toList_setIfInBounds, List.toList_toArray]
  rw [← List.map_set]
  congr 1
  rw [List.set_append_right _ _ (by simp; omega), List.length_take, show i - min i l.length = 0 by omega, show n - i = (n - (i + 1)) + 1 by omega, List.replicate_succ, List.set_cons_zero]
  rw [List.take_succ_eq_append_getElem (by omega), List.getD_eq_getElem?_getD, List.getElem?_eq_getElem (by omega), List.append_assoc]
  rfl
theorem tb_at {l : List UInt8} {n i : Nat} (hl : l.length = n) (h : i < n) : (tb l n i)[i]? = some (B 0) := by
  simp only [tb, List.getElem?_toArray, List.getElem?_map]
  rw [List.getElem?_append_right (by simp; omega), List.length_take, show i - min i l.length = 0 by omega, List.getElem?_replicate_of_lt (by omega)]
  rfl
theorem tb_all {l : List UInt8} {n : Nat} (hl : l.length = n) : tb l n n = (l.map B).toArray := by simp [tb, ← hl]
theorem tb_zero (l : List UInt8) (n : Nat) : tb l n 0 = ((List.replicate n (0 : UInt8)).map B).toArray := by simp [tb]
theorem dig_length (s : S8) : (s.ls.flatMap fun x => nb 4 x.toNat).length = 32 := by simp [S8.ls, nb_length]
theorem nb4s (x : Nat) : nb 4 x = [UInt8.ofNat (x / 2 ^ 24), UInt8.ofNat (x / 2 ^ 16), UInt8.ofNat (x / 2 ^ 8), UInt8.ofNat (x / 2 ^ 0)] := by simp [nb, List.range_succ]
theorem dig_at (s : S8) (i : Nat) (h : i < 32) : (s.ls.flatMap fun x => nb 4 x.toNat).getD i 0 = UInt8.ofNat ((s.ls.getD (i / 4) 0).toNat / 2 ^ (24 - i % 4 * 8)) := by
  have e : (s.ls.flatMap fun x => nb 4 x.toNat) = [s.a, s.b, s.c, s.d, s.e, s.f, s.g, s.h].flatMap fun x => [UInt8.ofNat (x.toNat / 2 ^ 24), UInt8.ofNat (x.toNat / 2 ^ 16), UInt8.ofNat (x.toNat / 2 ^ 8), UInt8.ofNat (x.toNat / 2 ^ 0)] := by
    unfold S8.ls
    simp only [nb4s]
  rw [e]
  have hx : i = 0 ∨ i = 1 ∨ i = 2 ∨ i = 3 ∨ i = 4 ∨ i = 5 ∨ i = 6 ∨ i = 7 ∨ i = 8 ∨ i = 9 ∨ i = 10 ∨ i = 11 ∨ i = 12 ∨ i = 13 ∨ i = 14 ∨ i = 15 ∨ i = 16 ∨ i = 17 ∨ i = 18 ∨ i = 19 ∨ i = 20 ∨ i = 21 ∨ i = 22 ∨ i = 23 ∨ i = 24 ∨ i = 25 ∨ i = 26 ∨ i = 27 ∨ i = 28 ∨ i = 29 ∨ i = 30 ∨ i = 31 := by omega
  rcases hx with rfl | rfl | rfl | rfl | rfl | rfl | rfl | rfl | rfl | rfl | rfl | rfl | rfl | rfl | rfl | rfl | rfl | rfl | rfl | rfl | rfl | rfl | rfl | rfl | rfl | rfl | rfl | rfl | rfl | rfl | rfl | rfl
  all_goals rfl
theorem hsh_succ (L : List UInt8) (m q : Nat) (h : q < m) : hsh L m (List.range (q + 1)) = mix (hsh L m (List.range q)) (prt L q) := by
  unfold hsh
  rw [List.range_succ, List.foldl_append, List.foldl_cons, List.foldl_nil, Nat.mod_eq_of_lt h]
end Go.Proofs.YtmdalmegogfanaaDoor

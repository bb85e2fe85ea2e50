import Derived.Test.YtbfiakikhkiefaaW2
import Derived.Test.YtbfiakikhkiefaaS5
import Derived.Test.YtbfiakikhkiefaaU0
import Derived.Deep.Onto
import Derived.Lib.AppendZeros
/- append to a slice without room: a new row; numbers put behind bytes, handed back. -/
namespace Go.Proofs.Ytbfiakikhkiefaa
open Go.RowKit
theorem run_full {w : World} (ty : TypeId) (ad : Addr) (l1 l2 : List UInt8) (h1 : Rd w w.heap.size (some ad) l1) (bd : Addr) (c2 : Nat) (h2 : Rd w w.heap.size (some bd) l2) (h0 : 0 < l2.length) (hb : l1.length + l2.length < 2 ^ 47) :
    ∃ v' w', (Builtin.append_ #[28, 28] ty #[.slice (some ad) l1.length l1.length, .slice (some bd) l2.length c2]).run Try.prog w = .ok v' w' ∧ w'.ownsRow w.heap.size 5 1 v' (l1 ++ l2).length ((l1 ++ l2).map B) ∧ Below w.heap.size w w' := by
  obtain ⟨i0, hi, hz0, hz1, hz2⟩ := info_parts infoB
  have h63 : ((l1.length + l2.length : Nat) : Int) ≤ 9223372036854775807 := by omega
  have hr := run_append_grow (P := Try.prog) w 28 ty 5 i0 (.int .u8 0) Try.underlying28 hi hz0 ad l1.length l1.length (l1.map B) (by rw [hz1]; simp) h1.news bd l2.length c2 (l2.map B) (by rw [hz1]; simp) h2.news (by omega) h63
    (growslice_fits (by omega) (by rw [hz2]; omega))
  refine ⟨_, _, hr, ?_, ?_⟩
  · refine ⟨by simp, .inr ⟨w.heap.size, _, _, by rw [List.length_append], Nat.le_refl _, heap_alloc_new w.drew _, ?_, ?_, ?_, ?_⟩⟩
    · rw [List.length_append]; exact grownCap_ge w _ _ _
    · exact grownCap_le_maxLen w _ _ _ (by unfold maxLen; omega)
    · have hge := grownCap_ge w (l1.length + l2.length) l1.length 5
      simp only [Array.size_append, List.size_toArray, size_zeroCells, List.length_map]
      show l1.length + l2.length + (_ - _) * 1 = _ * 1
      omega
    · simp only [Array.toList_append, List.append_assoc]
      rw [← List.append_assoc, ← List.map_append]
      exact List.take_left' (by simp)
  · exact (Below.refl _ _).drew.alloc (show w.heap.size ≤ w.drew.heap.size from Nat.le_refl _) _
theorem append_full {w : World} {ops : Array Oper} {rest : List Oper} {o : Oper} {a : Act} {Q : Exit → Act → World → Prop} (hgd : o.guard = none) (s x : Operand)
    (ho : o.op = .call { callee := .builtin .append, args := #[s, x], argTypes := #[28, 28] }) (ad : Addr) (l1 : List UInt8) (n1 c1 : Nat) (hs : a.eval s = .slice (some ad) n1 c1) (hn1 : n1 = l1.length) (hc1 : c1 = n1) (h1 : Rd w w.heap.size (some ad) l1)
    (bd : Addr) (l2 : List UInt8) (n2 c2 : Nat) (hx : a.eval x = .slice (some bd) n2 c2) (hn2 : n2 = l2.length) (h2 : Rd w w.heap.size (some bd) l2) (h0 : 0 < l2.length) (hb : l1.length + l2.length < 2 ^ 47)
    (h : ∀ v' w', w'.ownsRow w.heap.size 5 1 v' (l1 ++ l2).length ((l1 ++ l2).map B) → Below w.heap.size w w' → wpList Try.prog ops Q rest (a.put o.dst v') w') : wpList Try.prog ops Q (o :: rest) a w := by
  subst hc1 hn1 hn2
  obtain ⟨v', w', hr, h3, h4⟩ := run_full o.type ad l1 l2 h1 bd c2 h2 h0 hb
  refine wpList_plain hgd fun K hK => ?_
  unfold Oper.wp execOp
  simp only [ho, resolve, invoke, builtin, Sem.run_bind, Sem.run_pure, Result.andThen_ok, List.map_toArray, List.map_cons, List.map_nil, hs, hx, hr]
  exact hK _ _ (h v' w' h3 h4)
theorem full_mk {m : Nat} {M : MadeW m} {D : List TypeId} {o : Oper} {a : Act} {w : World} {s x : Operand} (ho : o.op = .call { callee := .builtin .append, args := #[s, x], argTypes := #[28, 28] })
    {l1 l2 l : List UInt8} (HM : Hid (M = MadeW.own m D l)) (hl : l = l1 ++ l2) {ad bd : Addr} {n1 c1 n2 c2 : Nat} (hs : a.eval s = .slice (some ad) n1 c1) (hn1 : n1 = l1.length) (hc1 : c1 = n1) (h1 : Rd w w.heap.size (some ad) l1) (hx : a.eval x = .slice (some bd) n2 c2) (hn2 : n2 = l2.length) (h2 : Rd w w.heap.size (some bd) l2)
    (h0 : 0 < l2.length) (hb : l1.length + l2.length < 2 ^ 47) (hbase : m ≤ w.heap.size) : madeAtW Try.prog M o a w := by
  subst hc1 hn1 hn2 hl
  obtain ⟨v', w', hr, h3, h4⟩ := run_full o.type ad l1 l2 h1 bd c2 h2 h0 hb
  unfold madeAtW execOp
  simp only [ho, resolve, invoke, builtin, Sem.run_bind, Sem.run_pure, Result.andThen_ok, List.map_toArray, List.map_cons, List.map_nil, hs, hx, hr]
  exact own_mk HM (Kept.of_below h4 hbase) (World.ownsRow.mono h3 hbase)
/-- A number put behind bytes. -/
theorem put_gots (A : Option Addr) (l : List UInt8) (c n : Nat) (m : Int) (k : Nat) (D : List UInt8) (w : World) (h : Rd w w.heap.size A l) (hA : A = none → l = [] ∧ c = 0) (hl : l.length < 2 ^ 45) (hn : n < 2 ^ 64) (hm : -2 ^ 63 ≤ m ∧ m < 2 ^ 63) (hk : wid m = k) (hD : D = l ++ nb k n) :
    Calls Try.prog 27 #[.slice A l.length c, .int .u64 n, .int .i64 m] w fun e w' => ∃ ad, e = .returned (.slice (some ad) D.length D.length) ∧ Gots D w.heap.size (some ad) w' ∧ Below w.heap.size w w' := by
  refine (put_any A l c n m w h hA hl hn hm).mono ?_
  rintro e w' ⟨g, cur, rfl, hg, hb, hle, htk, hbl⟩
  rw [hk] at hle htk ⊢
  rw [← hD] at htk
  have hDl : D.length = l.length + k := by rw [hD, List.length_append, nb_length]
  refine ⟨⟨g, 0, none⟩, by rw [hDl], ⟨Rd.of_take hb htk (bk_lt hb), fun _ => ⟨g, 0, cur, rfl, hb, by omega⟩, ?_, fun e => by cases e⟩, hbl⟩
  rintro b j ⟨o, e, _⟩
  cases e
  exact hg
/-! ### Rows of one's own, written; bits turned -/
theorem own_set {w : World} {base n g cap j : Nat} {L : List UInt8} (h : w.ownsRow base 5 1 (.slice (some ⟨g, 0, none⟩) n cap) n (L.map B)) (x : UInt8) :
    (w.setCell ⟨g, j, none⟩ (B x)).ownsRow base 5 1 (.slice (some ⟨g, 0, none⟩) n cap) n ((L.set j x).map B) := by
  obtain ⟨hl, ⟨h1, _⟩ | ⟨g', cap', cur, h1, hg, hb, hle, hm, hs, ht⟩⟩ := h
  · cases h1
  · cases h1
    refine ⟨by simpa using hl, .inr ⟨g, cap, cur.setIfInBounds j (B x), rfl, hg, ?_, hle, hm, by simpa using hs, ?_⟩⟩
    · have : bk (w.setCell ⟨g, j, none⟩ (B x)) g = some (.cells (cur.setIfInBounds j (B x)) 5 (0, 0)) := by rw [bk_setCell_same, show bk w g = _ from hb]; rfl
      exact this
    · rw [Array.toList_setIfInBounds, List.take_set, ht, List.map_set]
theorem own_below {w w' : World} {base n : Nat} {v : Value} {xs : List Value} (h : w.ownsRow base 5 1 v n xs) (hb : Below w.heap.size w w') : w'.ownsRow base 5 1 v n xs := by
  obtain ⟨hl, h1 | ⟨g, cap, cur, h1, hg, hk, h2⟩⟩ := h
  · exact ⟨hl, .inl h1⟩
  · exact ⟨hl, .inr ⟨g, cap, cur, h1, hg, bk_keep hb (bk_lt (w := w) hk) hk, h2⟩⟩
theorem own_some {w : World} {base n c : Nat} {A : Option Addr} {xs : List Value} (h : w.ownsRow base 5 1 (.slice A n c) n xs) (h0 : 0 < n) : ∃ g cur, A = some ⟨g, 0, none⟩ ∧ bk w g = some (.cells cur 5 (0, 0)) ∧ n ≤ cur.size ∧ base ≤ g := by
  obtain ⟨hl, ⟨h1, h2⟩ | ⟨g, cap, cur, h1, hg, hk, h2, h3, h4, _⟩⟩ := h
  · omega
  · cases h1
    exact ⟨g, cur, rfl, hk, by omega, hg⟩
theorem nb2' (k : Nat) : nb 2 k = [UInt8.ofNat (k / 256), UInt8.ofNat k] := by simp [nb, List.range_succ]
theorem sumOf_le (L : List UInt8) : sumOf L ≤ 65535 := by unfold sumOf; omega
theorem own_parts {w : World} {base n c : Nat} {A : Option Addr} {xs : List Value} (h : w.ownsRow base 5 1 (.slice A n c) n xs) (h0 : 0 < n) : ∃ g cur, A = some ⟨g, 0, none⟩ ∧ bk w g = some (.cells cur 5 (0, 0)) ∧ base ≤ g ∧ n ≤ c ∧ cur.size = c ∧ cur.toList.take n = xs := by
  obtain ⟨hl, ⟨h1, h2⟩ | ⟨g, cap, cur, h1, hg, hk, h2, h3, h4, h5⟩⟩ := h
  · omega
  · cases h1
    exact ⟨g, cur, rfl, hk, hg, h2, by omega, by simpa using h5⟩
theorem own_cell {w : World} {g n j : Nat} {cur : Array Value} {t : TypeId} {fr : Nat × Nat} {L : List UInt8} {x : UInt8} (h : bk w g = some (.cells cur t fr)) (ht : cur.toList.take n = L.map B) (hj : L[j]? = some x) : w.cell? ⟨g, j, none⟩ = some (B x) := by
  rw [bk_cell h]
  have h1 : (cur.toList.take n)[j]? = some (B x) := by rw [ht, List.getElem?_map, hj]; rfl
  rw [List.getElem?_take] at h1
  split at h1
  · simpa using h1
  · cases h1
theorem take_put {n i : Nat} {cur : Array Value} {L : List UInt8} (h : cur.toList.take n = L.map B) (y : UInt8) : (cur.setIfInBounds i (B y)).toList.take n = (L.set i y).map B := by
  rw [Array.toList_setIfInBounds, List.take_set, h, List.map_set]
def flipB (a : UInt8) (k : Nat) : UInt8 := a ^^^ (1 <<< UInt8.ofNat k)
theorem flipB_ne : ∀ (a : UInt8) (k : Nat), k < 8 → flipB a k ≠ a := by
  have : ∀ a : Fin 256, ∀ k : Fin 8, flipB (UInt8.ofNat a.1) k.1 ≠ UInt8.ofNat a.1 := by decide +kernel
  intro a k hk
  have := this ⟨a.toNat, a.toNat_lt⟩ ⟨k, hk⟩
  simpa using this
theorem flipB_flipB (a : UInt8) (k : Nat) : flipB (flipB a k) k = a := by
  unfold flipB
  rw [UInt8.xor_assoc, UInt8.xor_self, UInt8.xor_zero]
theorem bits_flip (x : UInt8) (r : Nat) (hr : r < 8) : bits BinOp.xor IntKind.u8 (x.toNat : Int) (2 ^ r % 256) = ((flipB x r).toNat : Int) := by
  have : ∀ a : Fin 256, ∀ k : Fin 8, bits BinOp.xor IntKind.u8 (a.1 : Int) (2 ^ k.1 % 256) = ((flipB (UInt8.ofNat a.1) k.1).toNat : Int) := by decide +kernel
  have h := this ⟨x.toNat, x.toNat_lt⟩ ⟨r, hr⟩
  simpa using h
theorem bits_one (x : UInt8) : bits BinOp.xor IntKind.u8 (x.toNat : Int) 1 = ((flipB x 0).toNat : Int) := by
  have h := bits_flip x 0 (by omega)
  exact h
theorem cell_of_bk {w w' : World} {b : Nat} (h : bk w' b = bk w b) (o : Nat) : w'.cell? ⟨b, o, none⟩ = w.cell? ⟨b, o, none⟩ := by
  have h' : w'.heap[b]? = w.heap[b]? := h
  simp only [World.cell?, h']
theorem Rd.turn {w w' : World} {n n' : Nat} {A : Option Addr} {l : List UInt8} (h : Rd w n A l) (hc : ∀ b o, A = some ⟨b, o, none⟩ → ∀ j, w'.cell? ⟨b, o + j, none⟩ = w.cell? ⟨b, o + j, none⟩) (hn : n ≤ n') : Rd w' n' A l := fun h0 => by
  obtain ⟨b, o, e, hlt, hj⟩ := h h0
  exact ⟨b, o, e, by omega, fun j hj' => (hc b o e j).trans (hj j hj')⟩
theorem own_lo {w : World} {base n c : Nat} {A : Option Addr} {xs : List Value} (h : w.ownsRow base 5 1 (.slice A n c) n xs) : ∀ b o, A = some ⟨b, o, none⟩ → base ≤ b := fun b o e => by
  obtain ⟨_, ⟨h1, h0⟩ | ⟨g, cap, cur, h1, hg, _⟩⟩ := h
  · cases h1; cases e
  · cases h1; cases e; exact hg
end Go.Proofs.Ytbfiakikhkiefaa
/- append(b, make([]byte, n)...), b without room. -/
namespace Go.Proofs.Ytbfiakikhkiefaa
open Go.RowKit
theorem zeroCells_B (m : Nat) : Builtin.zeroCells (Value.int .u8 0).cells m = ((List.replicate m (0 : UInt8)).map B).toArray := by
  apply Array.ext'
  simp only [Builtin.zeroCells, Value.cells, Array.toList_map, Array.toList_range]
  apply List.ext_getElem
  · simp
  · intro i h1 h2
    simp [Nat.mod_one]
theorem run_zeros {w : World} (ty : TypeId) (base : Nat) (ad : Addr) (l1 : List UInt8) (h1 : Rd w w.heap.size (some ad) l1) (hown : w.ownsRow base 5 1 (.slice (some ad) l1.length l1.length) l1.length (l1.map B)) (m : Nat) (hb : l1.length + m < 2 ^ 40) (hbase : base ≤ w.heap.size) :
    ∃ v' w', (Builtin.append_ #[28, 3] ty #[.slice (some ad) l1.length l1.length, .int .i64 m]).run Try.prog w = .ok v' w' ∧ w'.ownsRow base 5 1 v' (l1.length + m) ((l1 ++ List.replicate m 0).map B) ∧ Below w.heap.size w w' := by
  obtain ⟨i0, hi, hz0, hz1, hz2⟩ := info_parts infoB
  have hw : IntKind.i64.wrap (m : Int) = m := by rw [IntKind.wrap_i64]; omega
  have hneg : ¬ ((m : Int) < 0) := by omega
  have h48i : ¬ (281474976710656 < (m : Int) * (i0.bytes : Int)) := by rw [hz2]; omega
  rcases Nat.eq_zero_or_pos m with h0 | h0
  · subst h0
    refine ⟨.slice (some ad) l1.length l1.length, w, ?_, by simpa using hown, Below.refl _ _⟩
    have hw0 : IntKind.i64.wrap 0 = 0 := by decide
    simp [Builtin.append_, run_underlying Try.underlying28, run_underlying Try.underlying3, sizeOf, typeInfo, hi, asInt, asIntOf, hw0, storeCells]
  · have hn : ¬ (l1.length + m ≤ l1.length) := by omega
    have hm : m ≠ 0 := by omega
    have h63' : ¬ (9223372036854775807 < ((l1.length : Int) + (m : Int))) := by omega
    have h48' : ¬ (281474976710656 < Builtin.nextslicecap (l1.length + m) l1.length * i0.bytes) := by
      have := growslice_fits (need := l1.length + m) (old := l1.length) (bytes := i0.bytes) (by omega) (by rw [hz2]; omega)
      omega
    have hfo := run_firstCells_some (P := Try.prog) w.drew i0.size l1.length ad l1.length l1.length (l1.map B) (by rw [hz1]; simp) (by simpa using h1.news)
    have hns : ¬ (m * i0.size = 0) := Nat.mul_ne_zero hm (by omega)
    have hr : (Builtin.append_ #[28, 3] ty #[.slice (some ad) l1.length l1.length, .int .i64 m]).run Try.prog w = .ok (.slice (some ⟨w.heap.size, 0, none⟩) (l1.length + m) (grownCap w (l1.length + m) l1.length 5))
        (w.drew.alloc (.cells ((l1.map B).toArray ++ Builtin.zeroCells (Value.int .u8 0).cells m ++ Builtin.zeroCells (Value.int .u8 0).cells (grownCap w (l1.length + m) l1.length 5 - (l1.length + m))) 5)) := by
      simp [Builtin.append_, run_underlying Try.underlying28, run_underlying Try.underlying3, sizeOf, typeInfo, zeroValue, hi, hz0, asInt, asIntOf, hw, hn, hneg, hns, h63', h48', h48i, Question.forced, hfo, newRow, grownCap]
    refine ⟨_, _, hr, ?_, (Below.refl _ _).drew.alloc (show w.heap.size ≤ w.drew.heap.size from Nat.le_refl _) _⟩
    refine World.ownsRow.mono (base := w.heap.size) ?_ hbase
    refine ⟨by simp, .inr ⟨w.heap.size, _, _, rfl, Nat.le_refl _, heap_alloc_new w.drew _, ?_, ?_, ?_, ?_⟩⟩
    · exact grownCap_ge w _ _ _
    · exact grownCap_le_maxLen w _ _ _ (by unfold maxLen; omega)
    · have hge := grownCap_ge w (l1.length + m) l1.length 5
      simp only [Array.size_append, List.size_toArray, size_zeroCells, List.length_map]
      show l1.length + m * 1 + (_ - _) * 1 = _ * 1
      omega
    · rw [zeroCells_B]
      simp only [Array.toList_append, List.append_assoc]
      rw [← List.append_assoc, ← List.map_append]
      exact List.take_left' (by simp)
theorem append_zeros {w : World} {ops : Array Oper} {rest : List Oper} {o : Oper} {a : Act} {Q : Exit → Act → World → Prop} (hgd : o.guard = none) (s x : Operand)
    (ho : o.op = .call { callee := .builtin .append, args := #[s, x], argTypes := #[28, 3] }) (base : Nat) (ad : Addr) (l1 : List UInt8) (n1 c1 : Nat) (hs : a.eval s = .slice (some ad) n1 c1) (hn1 : n1 = l1.length) (hc1 : c1 = l1.length) (h1 : Rd w w.heap.size (some ad) l1)
    (hown : w.ownsRow base 5 1 (.slice (some ad) l1.length l1.length) l1.length (l1.map B)) (m : Nat) (hx : a.eval x = .int .i64 m) (hb : l1.length + m < 2 ^ 40) (hbase : base ≤ w.heap.size)
    (h : ∀ v' w', w'.ownsRow base 5 1 v' (l1.length + m) ((l1 ++ List.replicate m 0).map B) → Below w.heap.size w w' → wpList Try.prog ops Q rest (a.put o.dst v') w') : wpList Try.prog ops Q (o :: rest) a w := by
  subst hc1 hn1
  obtain ⟨v', w', hr, h3, h4⟩ := run_zeros o.type base ad l1 h1 hown m hb hbase
  refine wpList_plain hgd fun K hK => ?_
  unfold Oper.wp execOp
  simp only [ho, resolve, invoke, builtin, Sem.run_bind, Sem.run_pure, Result.andThen_ok, List.map_toArray, List.map_cons, List.map_nil, hs, hx, hr]
  exact hK _ _ (h v' w' h3 h4)
theorem own_lit {w : World} (L : List UInt8) (hl : L.length < 2 ^ 40) : (w.alloc (.cells (L.map B).toArray 5 (0, 0))).ownsRow w.heap.size 5 1 (.slice (some ⟨w.heap.size, 0, none⟩) L.length L.length) L.length (L.map B) := by
  refine ⟨by simp, .inr ⟨w.heap.size, _, _, rfl, Nat.le_refl _, heap_alloc_new w _, Nat.le_refl _, ?_, by simp, ?_⟩⟩
  · unfold maxLen; omega
  · exact List.take_of_length_le (by simp)
end Go.Proofs.Ytbfiakikhkiefaa

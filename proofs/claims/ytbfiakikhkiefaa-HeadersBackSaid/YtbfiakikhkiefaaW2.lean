/- A region that draws its order and writes: bytes. -/
import Derived.Test.YtbfiakikhkiefaaMgE
import Derived.Test.YtbfiakikhkiefaaMgD
import Derived.Test.YtbfiakikhkiefaaS6
import Derived.Test.YtbfiakikhkiefaaS2
namespace Go.Proofs.Ytbfiakikhkiefaa
open Go.RowKit
section
variable {m : Nat}
theorem own_kept {D : List TypeId} {w w' : World} {n : Nat} {v : Value} {xs : List Value} (h : w.ownsRow m 5 1 v n xs) (hd : 5 ∉ D) (hk : Kept m D w w') : w'.ownsRow m 5 1 v n xs := by
  obtain ⟨hl, h1 | ⟨g, cap, cur, h1, hg, hb, h2⟩⟩ := h
  · exact ⟨hl, .inl h1⟩
  · exact ⟨hl, .inr ⟨g, cap, cur, h1, hg, hk.row (show bk w g = _ from hb) hd, h2⟩⟩
/-- A row of bytes of one's own; what making it writes. -/
def MadeW.own (m : Nat) (D : List TypeId) (l : List UInt8) : MadeW m where
  T v := ∃ A c, v = .slice A l.length c ∧ (A = none → l = [] ∧ c = 0) ∧ l.length ≤ c
  R v w := w.ownsRow m 5 1 v l.length (l.map B)
  D := D
  O := [5]
  inh := ⟨.slice (some ⟨0, 0, none⟩) l.length l.length, _, _, rfl, fun h => (by cases h), Nat.le_refl _⟩
  mono := fun D v w w' hd hk h => own_kept h (fun h' => hd _ h' (by simp)) hk
theorem own_T {M : MadeW m} {D : List TypeId} {l : List UInt8} {v : Value} (HM : Hid (M = MadeW.own m D l)) (h : M.T v) : ∃ A c, v = .slice A l.length c ∧ (A = none → l = [] ∧ c = 0) ∧ l.length ≤ c := by
  have := HM.out
  subst this
  exact h
theorem own_R {M : MadeW m} {D : List TypeId} {l : List UInt8} {v : Value} {w : World} (HM : Hid (M = MadeW.own m D l)) (h : M.R v w) : w.ownsRow m 5 1 v l.length (l.map B) := by
  have := HM.out
  subst this
  exact h
theorem own_Rd {M : MadeW m} {D : List TypeId} {l : List UInt8} {A : Option Addr} {n c : Nat} {w : World} (HM : Hid (M = MadeW.own m D l)) (h : M.R (.slice A n c) w) : Rd w w.heap.size A l := by
  obtain ⟨A', c', e, hr, _⟩ := Rd.of_own (own_R HM h) rfl
  cases e
  exact hr
theorem own_mk {M : MadeW m} {D : List TypeId} {l : List UInt8} {v : Value} {w w' : World} (HM : Hid (M = MadeW.own m D l)) (hk : Kept m D w w') (h : w'.ownsRow m 5 1 v l.length (l.map B)) : Kept m M.D w w' ∧ M.T v ∧ M.R v w' := by
  obtain ⟨A, c, e, _, h1, h2⟩ := Rd.of_own h rfl
  have := HM.out
  subst this
  exact ⟨hk, ⟨A, c, e, h1, h2⟩, h⟩
/-- append to a row of one's own (or to nil: D may then be empty). -/
theorem append_mk {M : MadeW m} {D : List TypeId} {o : Oper} {a : Act} {w : World} {s x : Operand} (ho : o.op = .call { callee := .builtin .append, args := #[s, x], argTypes := #[28, 28] })
    {v : Value} {l1 l2 l : List UInt8} (HM : Hid (M = MadeW.own m D l)) (hl : l = l1 ++ l2) (hs : a.eval s = v) (hown : w.ownsRow m 5 1 v l1.length (l1.map B)) {A : Option Addr} {n c : Nat} (hx : a.eval x = .slice A n c) (hn : n = l2.length) (hA : A = none → l2 = [] ∧ c = 0) (hr : Rd w w.heap.size A l2)
    (hb : l1.length + l2.length < 2 ^ 47) (hbase : m ≤ w.heap.size) (hD : v = .slice none 0 0 ∨ 5 ∈ D) : madeAtW Try.prog M o a w := by
  subst hn
  obtain ⟨i0, hi, hz0, hz1, hz2⟩ := info_parts infoB
  have fin : ∀ v' w', w'.ownsRow m 5 1 v' (l1.length + l2.length) (l1.map B ++ l2.map B) → w.grownBy w' v.ownBlock → Kept m M.D w w' ∧ M.T v' ∧ M.R v' w' := fun v' w' h1 h2 => by
    refine own_mk HM ?_ (by rw [hl, List.length_append, List.map_append]; exact h1)
    refine Kept.grown h2 hbase fun g hg => ?_
    rcases hD with rfl | hD
    · cases hg
    · have h3 := hown.lt g hg
      obtain ⟨_, ⟨rfl, _⟩ | ⟨g', cap, cur, rfl, _, hb', _⟩⟩ := hown
      · cases hg
      · cases hg
        exact ⟨h3.1, cur, _, _, hb', hD⟩
  unfold madeAtW execOp
  cases A with
  | none =>
    obtain ⟨rfl, rfl⟩ := hA rfl
    have hrun := run_append_owned_none (P := Try.prog) (w := w) m 28 o.type 5 i0 1 Try.underlying28 hi v l1.length (l1.map B) hown
    simp only [ho, resolve, invoke, builtin, Sem.run_bind, Sem.run_pure, Result.andThen_ok, List.map_toArray, List.map_cons, List.map_nil, hs, hx, List.length_nil, hrun]
    exact fin _ _ (by simpa using hown) ⟨rfl, rfl, rfl, Nat.le_refl _, fun _ _ _ => rfl⟩
  | some ad =>
    obtain ⟨v', w', hrun, h2, h3, _⟩ := run_append_own (P := Try.prog) w m 28 o.type 5 i0 (.int .u8 0) 1 1 Try.underlying28 hi hz0 hz1 hz2 rfl (by decide) v l1.length (l1.map B) hown ad l2.length c (l2.map B) (by simp) hr.news (B_one l2) (by unfold maxLen; omega) (by omega) hbase
    simp only [ho, resolve, invoke, builtin, Sem.run_bind, Sem.run_pure, Result.andThen_ok, List.map_toArray, List.map_cons, List.map_nil, hs, hx, hrun]
    exact fin _ _ h2 h3
theorem Gots.kept {d : List UInt8} {n : Nat} {A : Option Addr} {D : List TypeId} {w w' : World} (h : Gots d n A w) (hd : 5 ∉ D) (hk : Kept m D w w') : Gots d n A w' := by
  refine ⟨fun h0 => ?_, fun h0 => ?_, h.lo, h.nn⟩
  · obtain ⟨b, o, cur, rfl, hb, hle⟩ := h.room h0
    obtain ⟨b', o', e, hlt, hj⟩ := h.rd h0
    cases e
    refine ⟨b, o, rfl, Nat.lt_of_lt_of_le hlt hk.size, fun j hj' => ?_⟩
    rw [bk_cell (hk.row hb hd), ← bk_cell hb]
    exact hj j hj'
  · obtain ⟨b, o, cur, e, hb, hle⟩ := h.room h0
    exact ⟨b, o, cur, e, hk.row hb hd, hle⟩
/-- A call hands back a value with bytes in it. -/
def MadeW.gots (m : Nat) (f : Option Addr → Value) (d : List UInt8) : MadeW m where
  T v := ∃ A, v = f A
  R v w := ∃ A, v = f A ∧ Gots d m A w
  D := []
  O := [5]
  inh := ⟨_, none, rfl⟩
  mono := fun D v w w' hd hk ⟨A, e, h⟩ => ⟨A, e, h.kept (fun h' => hd _ h' (by simp)) hk⟩
theorem gots_T {M : MadeW m} {f : Option Addr → Value} {d : List UInt8} {v : Value} (HM : Hid (M = MadeW.gots m f d)) (h : M.T v) : ∃ A, v = f A := by
  have := HM.out
  subst this
  exact h
theorem gots_R {M : MadeW m} {f : Option Addr → Value} {d : List UInt8} {A : Option Addr} {w : World} (HM : Hid (M = MadeW.gots m f d)) (hf : ∀ A A', f A = f A' → A = A') (h : M.R (f A) w) : Gots d m A w := by
  have := HM.out
  subst this
  obtain ⟨A', e, h⟩ := h
  rw [hf _ _ e]
  exact h
theorem gots_end {M : MadeW m} {f : Option Addr → Value} {d : List UInt8} {A : Option Addr} {w w' : World} (HM : Hid (M = MadeW.gots m f d)) (hb : Below w.heap.size w w') (hm : m ≤ w.heap.size) (h : Gots d m A w') : madeEndW M w (.returned (f A)) w' := by
  have := HM.out
  subst this
  exact ⟨f A, rfl, Kept.of_below hb hm, ⟨A, rfl⟩, A, rfl, h⟩
theorem make_mk {M : MadeW m} {x y : Operand} {k1 k2 : IntKind} {n c : Nat} {dst : Option Tmp} {tt : TypeId} {pos : String} {af : Array Edge} {g : Option (Nat × Bool)} {a : Act} {w : World} (HM : Hid (M = MadeW.fresh m (fun b => .slice (some ⟨b, 0, none⟩) n c)))
    (hx : a.eval x = .int k1 n) (hy : a.eval y = .int k2 c) (h1 : n ≤ c) (h2 : c ≤ 140737488355328) (hm : m ≤ w.heap.size) : madeAtW Try.prog M ⟨dst, .makeSlice 28 x y, tt, pos, af, g⟩ a w := by
  obtain ⟨i, hi1, hz, hs, hb⟩ := info_parts infoB
  have hr := run_make (P := Try.prog) w 28 5 i _ Try.underlying28 hi1 hz k1 k2 n c (by omega) (by omega) (by rw [hb]; omega) (by omega)
  unfold madeAtW execOp
  simp only [hx, hy, Sem.run_bind, hr, Result.andThen_ok]
  exact (fresh_mk (b := w.heap.size) HM ((Below.refl _ _).alloc (Nat.le_refl _) _) hm hm :)
def Ent.own (k : Nat) {M : MadeW m} {D : List TypeId} {l : List UInt8} (HM : Hid (M = MadeW.own m D l)) : Ent m := ⟨k, fun _ => M, D, [5], [], fun _ => by have := HM.out; subst this; exact ⟨rfl, rfl⟩⟩
def Ent.gots (k : Nat) {M : MadeW m} {f : Option Addr → Value} {d : List UInt8} (HM : Hid (M = MadeW.gots m f d)) : Ent m := ⟨k, fun _ => M, [], [5], [], fun _ => by have := HM.out; subst this; exact ⟨rfl, rfl⟩⟩
theorem Gots.lower {d : List UInt8} {n n' : Nat} {A : Option Addr} {w : World} (h : Gots d n A w) (hn : n' ≤ n) : Gots d n' A w := ⟨h.rd, h.room, fun b j hr => Nat.le_trans hn (h.lo b j hr), h.nn⟩
end
end Go.Proofs.Ytbfiakikhkiefaa

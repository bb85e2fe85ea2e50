/- Streams: an end of writing: bytes are written. -/
import Derived.Test.YtjnfdpakpdahkaaZ9
import Derived.Deep.RegionLaw
namespace Go.Proofs.Ytjnfdpakpdahkaa
open Go.RowKit
set_option maxRecDepth 100000
set_option maxHeartbeats 1000000
theorem own_slice {w : World} {n m : Nat} {v : Value} {xs : List Value} (h : w.ownsRow n 5 1 v m xs) : ∃ A c, v = .slice A m c := by
  rcases h.2 with ⟨q, q1⟩ | ⟨_, _, _, q, _⟩
  · exact ⟨none, 0, by rw [q, q1]⟩
  · exact ⟨_, _, q⟩
/-- Bytes are put behind a row of one's own, whether the first or the second are there. -/
theorem run_app {w : World} (n : Nat) (v : Value) (l m : List UInt8) (hown : w.ownsRow n 5 1 v l.length (l.map B)) (A : Option Addr) (c : Nat) (hr : Rd w w.heap.size A m) (hA : A = none → m = [] ∧ c = 0) (hn : n ≤ w.heap.size) (hl : l.length + m.length < 2 ^ 46) (ty : TypeId) :
    ∃ v' w', (Builtin.append_ #[23, 23] ty #[v, .slice A m.length c]).run Try.prog w = .ok v' w' ∧ w'.ownsRow n 5 1 v' (l ++ m).length ((l ++ m).map B) ∧ w.grownBy w' v.ownBlock ∧ (v'.ownBlock = v.ownBlock ∨ v'.ownBlock = some w.heap.size) := by
  obtain ⟨i0, hi, hz0, hz1, hz2⟩ := info_parts infoB
  cases A with
  | none =>
    obtain ⟨rfl, rfl⟩ := hA rfl
    refine ⟨v, w, ?_, by simpa using hown, ⟨rfl, rfl, rfl, Nat.le_refl _, fun _ _ _ => rfl⟩, .inl rfl⟩
    obtain ⟨A, c, rfl⟩ := own_slice hown
    cases A with
    | none =>
      have : l.length = 0 ∧ c = 0 := by
        rcases hown.2 with ⟨q, q1⟩ | ⟨_, _, _, q, _⟩
        · simp at q; exact ⟨q1, q.2⟩
        · simp at q
      obtain ⟨h1, rfl⟩ := this
      rw [h1]
      simp [Builtin.append_, run_underlying (P := Try.prog) Try.underlying23, sizeOf, typeInfo, hi, Builtin.lenOf, Builtin.firstCells, loadCells, loadCellsFrom]
    | some ad =>
      have hlc : l.length ≤ c := by
        rcases hown.2 with ⟨q, q1⟩ | ⟨_, _, _, q, _, _, q2, _⟩
        · simp at q
        · simp at q; omega
      simp [Builtin.append_, run_underlying (P := Try.prog) Try.underlying23, sizeOf, typeInfo, hi, Builtin.lenOf, Builtin.firstCells, loadCells, loadCellsFrom, hlc, storeCells]
  | some ad =>
    obtain ⟨v', w', h1, h2, h3, _, h5⟩ := run_append_own_at (P := Try.prog) w n 23 ty 5 i0 (.int .u8 0) 1 1 Try.underlying23 hi hz0 hz1 hz2 rfl (by decide) v l.length (l.map B) hown ad m.length c (m.map B) (by simp) hr.news (B_one m) (by unfold maxLen; omega) (by omega) hn
    exact ⟨v', w', h1, by rw [List.length_append, List.map_append]; exact h2, h3, h5⟩
theorem step_app {w : World} {ops : Array Oper} {o : Oper} {a : Act} {K : Act → World → Prop} {Q : Exit → Act → World → Prop} {E : Prop} (hgd : o.guard = none) (s x : Operand)
    (ho : o.op = .call { callee := .builtin .append, args := #[s, x], argTypes := #[23, 23] })
    (n : Nat) (v : Value) (l m : List UInt8) (k : Nat) (hs : a.eval s = v) (hown : w.ownsRow n 5 1 v l.length (l.map B)) (A : Option Addr) (c : Nat) (hx : a.eval x = .slice A k c) (hk : k = m.length) (hr : Rd w w.heap.size A m) (hA : A = none → m = [] ∧ c = 0) (hn : n ≤ w.heap.size) (hl : l.length + m.length < 2 ^ 46)
    (h : ∀ A' N' c' w', w'.ownsRow n 5 1 (.slice A' N' c') (l ++ m).length ((l ++ m).map B) → w.grownBy w' v.ownBlock → ((Value.slice A' N' c').ownBlock = v.ownBlock ∨ (Value.slice A' N' c').ownBlock = some w.heap.size) → K (a.put o.dst (.slice A' N' c')) w') :
    if Region.wanted o (yielded ops a.tmps) = true then Oper.wp Try.prog o a w K Q else E := by
  have hw : Region.wanted o (yielded ops a.tmps) = true := by simp [Region.wanted, hgd]
  rw [if_pos hw]
  subst hk
  obtain ⟨v', w', h1, h2, h3, h4⟩ := run_app n v l m hown A c hr hA hn hl o.type
  unfold Oper.wp execOp
  simp only [ho, resolve, invoke, builtin, Sem.run_bind, Sem.run_pure, Result.andThen_ok, List.map_toArray, List.map_cons, List.map_nil, hs, hx, h1]
  obtain ⟨A', c', rfl⟩ := own_slice h2
  exact h _ _ _ w' h2 h3 h4
theorem out_app {n x : Nat} {v v' : Value} {o : On} {w w1 w2 : World} {m : List UInt8} (h : OutB w n x v o) (hn : n ≤ w.heap.size) (hb : Below w.heap.size w w1) (hl : o.b.length + m.length ≤ 8192)
    (hown : w2.ownsRow n 5 1 v' (o.b ++ m).length ((o.b ++ m).map B)) (hg : w1.grownBy w2 v.ownBlock) (ha : v'.ownBlock = v.ownBlock ∨ v'.ownBlock = some w1.heap.size) :
    OutB (w2.setCell ⟨x, 1, none⟩ v') n x v' { o with b := o.b ++ m } ∧ (∀ k, v'.ownBlock = some k → v.ownBlock = some k ∨ w.heap.size ≤ k) ∧ Tn (Fo x v) w (w2.setCell ⟨x, 1, none⟩ v') := by
  have h1 := h.below hb
  have lx := bk_lt h1.box
  have hnew : ∀ k, v'.ownBlock = some k → v.ownBlock = some k ∨ w1.heap.size ≤ k := fun k hk => by
    rcases ha with ha | ha
    · exact .inl (ha ▸ hk)
    · rw [ha] at hk
      cases hk
      exact .inr (Nat.le_refl _)
  have hx' : v'.ownBlock ≠ some x := fun e => by
    rcases hnew x e with h2 | h2
    · exact h.vx h2
    · omega
  have k2 : bk w2 x = some (.cells (outC o v) 64 (0, 0)) := (hg.block x lx (fun e => h.vx e.symm)).trans h1.box
  refine ⟨⟨?_, ?_, by simpa using hl, h.f32, hx', h.nx⟩, fun k hk => (hnew k hk).imp id (fun q => Nat.le_trans hb.size q), ?_⟩
  · rw [bk_setCell_same, k2]
    rfl
  · exact own_turn hown fun k hk => bk_setCell_other _ _ _ _ _ (fun e1 => hx' (e1 ▸ hk))
  · refine Tn.trans (F := Fo x v) ((Tn.of hb).trans (Tn.grown (F := fun k => v.ownBlock = some k) hg fun k hk => hk) fun j hj => .inl (.inr hj)) (G := fun k => k = x) ⟨rfl, rfl, rfl, by simp, fun k hk hx => bk_setCell_other _ _ _ _ _ hx⟩ fun j hj => .inl (.inl hj)
def On.takes (o : On) (b : List UInt8) : Nat := min b.length (8192 - o.b.length)
theorem owrite_any (n x : Nat) (v : Value) (o : On) (w : World) (h : OutB w n x v o) (hn : n ≤ w.heap.size) (he : o.ended = false) (A : Option Addr) (b : List UInt8) (c : Nat) (hr : Rd w w.heap.size A b) (hA : A = none → b = [] ∧ c = 0) (hbc : b.length ≤ c) (hbl : b.length < 4294967296) :
    Calls Try.prog 18 #[.pointer (some ⟨x, 0, none⟩), .slice A b.length c] w fun r w' => r = .returned (.tuple #[.int .i64 (o.takes b : Int), .int .i64 0]) ∧ ∃ v', OutB w' n x v' { o with b := o.b ++ b.take (o.takes b) } ∧ (∀ k, v'.ownBlock = some k → v.ownBlock = some k ∨ w.heap.size ≤ k) ∧ Tn (Fo x v) w w' := by
  have C := h.there
  have HB := Lib.hid h
  have c1 := bk_cell h.box 1
  have c2 := bk_cell h.box 2
  simp [outC, he] at c1 c2
  have lx := bk_lt h.box
  obtain ⟨A0, c0, rfl⟩ := own_slice h.row
  obtain ⟨N, hN⟩ : ∃ N, N = o.takes b := ⟨_, rfl⟩
  have hrm := h.room
  have hNb : N ≤ b.length ∧ N + o.b.length ≤ 8192 := by subst hN; unfold On.takes; omega
  have hmin : (if (8192 : Int) - (o.b.length : Int) < (b.length : Int) then (8192 : Int) - (o.b.length : Int) else (b.length : Int)) = (N : Int) := by
    subst hN
    unfold On.takes
    rw [Nat.min_def]
    split <;> split <;> omega
  have HR := Lib.hid hr
  have HA := Lib.hid hA
  have HN0 := Lib.hid hn
  have HE := Lib.hid he
  rw [← hN]
  clear h hr hA hN hn he
  go_enter Try.func18, Try.ntmps18
  go_wp2_with fail
  refine (C.out).mono ?_
  rintro e w0 ⟨rfl, hw⟩
  subst hw
  have hNc : N ≤ c := by omega
  have hNcI : (N : Int) ≤ (c : Int) := by omega
  have hNcT : ¬ ((c : Int) < (N : Int)) := by omega
  have HRT := Lib.hid (HR.out.take (m := N))
  go_upto_region 6 with fail
  go_region_law (refine step_app rfl (.tmp 29) (.tmp 32) rfl n _ o.b (b.take N) N (by simp [Act.eval, Act.put]) HB.out.row A c (by simp [Act.eval, Act.put]) (by simp; omega) HRT.out (fun e => by simp [HA.out e]) HN0.out (by simp; omega) ?_; intro A4 N4 c4 w4 hown4 hgrow4 hat4; have k4 := hgrow4.block x (show x < w.drew.heap.size from lx) (fun e => HB.out.vx e.symm); have k5 : bk w4 x = some (.cells (outC o (.slice A0 o.b.length c0)) 64 (0, 0)) := k4.trans HB.out.box; have fr := bk_frozen k5 1; have e1 := bk_cell k5 1; simp [outC] at e1; have l4 := bk_lt k5; have FIN := Lib.hid (out_app HB.out HN0.out (Below.refl _ _).drew (by have := hNb.2; simp; omega) hown4 hgrow4 hat4); clear hown4 hgrow4 hat4 k4 k5)
  all_goals
    go_wp2_with fail
    go_ret2
    exact ⟨rfl, _, FIN.out⟩
end Go.Proofs.Ytjnfdpakpdahkaa

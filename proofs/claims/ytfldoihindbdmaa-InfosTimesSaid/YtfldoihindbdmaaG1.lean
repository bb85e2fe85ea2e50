/- Infos: words fed to the document's. -/
import Derived.Test.YtfldoihindbdmaaG0
import Derived.Deep.RegionLaw
namespace Go.Proofs.Ytfldoihindbdmaa
open Go.RowKit
set_option maxRecDepth 100000
set_option maxHeartbeats 2000000
theorem run_appU {w : World} (n : Nat) (v : Value) (l : List Nat) (x : Nat) (hown : w.ownsRow n 23 1 v l.length (l.map U)) (b c : Nat) (hb : w.cell? ⟨b, 0, none⟩ = some (U x)) (hn : n ≤ w.heap.size) (hl : l.length < 2 ^ 40) (ty : TypeId) :
    ∃ A' c' w', (Builtin.append_ #[49, 49] ty #[v, .slice (some ⟨b, 0, none⟩) 1 c]).run Try.prog w = .ok (.slice A' (l.length + 1) c') w' ∧ w'.ownsRow n 23 1 (.slice A' (l.length + 1) c') (l.length + 1) ((l ++ [x]).map U) ∧ w.grownBy w' v.ownBlock ∧ l.length + 1 ≤ c' := by
  obtain ⟨i0, hi, hz0, hz1, hz2⟩ := info_parts infoU
  obtain ⟨v', w', h1, h2, h3, _, h5⟩ := run_append_own_at (P := Try.prog) w n 49 ty 23 i0 (.int .u32 0) 1 4 Try.underlying49 hi hz0 hz1 hz2 rfl (by decide) v l.length (l.map U) hown ⟨b, 0, none⟩ 1 c ([x].map U) rfl (fun j u hu => by
    have hj : j = 0 := by
      have := (List.getElem?_eq_some_iff.1 hu).1
      simp at this; omega
    subst hj
    have : u = U x := by simpa using hu.symm
    rw [this]; exact hb) (U_one [x]) (by unfold maxLen; omega) (by omega) hn
  obtain ⟨A', c', rfl, hc⟩ := own_slS h2
  exact ⟨A', c', w', h1, by rw [List.map_append]; exact h2, h3, hc⟩
theorem step_appU {w : World} {ops : Array Oper} {o : Oper} {a : Act} {K : Act → World → Prop} {Q : Exit → Act → World → Prop} {E : Prop} (hgd : o.guard = none) (s x : Operand)
    (ho : o.op = .call { callee := .builtin .append, args := #[s, x], argTypes := #[49, 49] })
    (n : Nat) (v : Value) (l : List Nat) (y k : Nat) (hs : a.eval s = v) (hk : k = l.length) (hown : w.ownsRow n 23 1 v l.length (l.map U)) (b c : Nat) (hx : a.eval x = .slice (some ⟨b, 0, none⟩) 1 c) (hb : w.cell? ⟨b, 0, none⟩ = some (U y)) (hn : n ≤ w.heap.size) (hl : l.length < 2 ^ 40)
    (h : ∀ A' c' w', w'.ownsRow n 23 1 (.slice A' (l.length + 1) c') (l.length + 1) ((l ++ [y]).map U) → w.grownBy w' v.ownBlock → l.length + 1 ≤ c' → K (a.put o.dst (.slice A' (k + 1) c')) w') :
    if Region.wanted o (yielded ops a.tmps) = true then Oper.wp Try.prog o a w K Q else E := by
  have hw : Region.wanted o (yielded ops a.tmps) = true := by simp [Region.wanted, hgd]
  rw [if_pos hw]
  subst hk
  obtain ⟨A', c', w', h1, h2, h3, h4⟩ := run_appU n v l y hown b c hb hn hl o.type
  unfold Oper.wp execOp
  simp only [ho, resolve, invoke, builtin, Sem.run_bind, Sem.run_pure, Result.andThen_ok, List.map_toArray, List.map_cons, List.map_nil, hs, hx, h1]
  exact h A' c' w' h2 h3 h4
/-- A word more, stored. -/
theorem fed_box {w w1 w2 : World} {m q : Nat} {l : List Nat} {x c c' : Nat} {A A' : Option Addr} (h : RWd w m q l) (hb : bk w q = some (.cells #[.slice A l.length c] 61 (0, 0))) (b1 : Below w.heap.size w w1) (ho : w2.ownsRow m 23 1 (.slice A' (l.length + 1) c') (l.length + 1) ((l ++ [x]).map U)) (hg : w1.grownBy w2 (Value.slice A l.length c).ownBlock) (hc : l.length + 1 ≤ c') (how : w.ownsRow m 23 1 (.slice A l.length c) l.length (l.map U)) (hx : x < 4294967296) (hf : l.length < 256) :
    RWd (w2.setCell ⟨q, 0, none⟩ (.slice A' (l.length + 1) c')) m q (l ++ [x]) ∧ Tn (fun k => k = q ∨ m ≤ k) w (w2.setCell ⟨q, 0, none⟩ (.slice A' (l.length + 1) c')) ∧ w2.frozen? ⟨q, 0, none⟩ = false ∧ q < w2.heap.size ∧ ∃ u, w2.cell? ⟨q, 0, none⟩ = some u := by
  have hq1 := bk_keep b1 (bk_lt hb) hb
  have hbq : bk w2 q = some (.cells #[.slice A l.length c] 61 (0, 0)) := (hg.block q (bk_lt hq1) (fun e => by have h3 := (how.lt q e.symm).1; have h4 := h.lt; omega)).trans hq1
  have t1 : Tn (fun k => k = q ∨ m ≤ k) w w2 := (Tn.of (F := fun k => k = q ∨ m ≤ k) b1).trans (G := fun k => (Value.slice A l.length c).ownBlock = some k) ⟨hg.os, hg.tape, hg.output, hg.size, fun k hk hn => hg.block k hk (fun e => hn e.symm)⟩ fun k hk => .inl (.inr (how.lt k hk).1)
  have hl2 : (l ++ [x]).length = l.length + 1 := by simp
  refine ⟨⟨⟨A', c', ?_, ?_, by rw [hl2]; exact hc⟩, h.lt, fun y hy => ?_, by rw [hl2]; omega, by simp; exact Nat.le_trans h.hm t1.size⟩, t1.set (.inl (.inl rfl)), bk_frozen hbq 0, bk_lt hbq, ⟨_, bk_cell hbq 0⟩⟩
  · rw [bk_setCell_same, hbq, hl2]; rfl
  · rw [hl2]
    exact own_turnS ho fun k hk => (bk_setCell_other _ _ _ _ _ (fun e => by have h3 := (ho.lt k hk).1; have h4 := h.lt; omega))
  · rcases List.mem_append.1 hy with hy | hy
    · exact h.u32 y hy
    · have : y = x := by simpa using hy
      omega
theorem rwfeed_any (m q : Nat) (ws : List Nat) (A : Option Addr) (c : Nat) (w : World) (h : RWd w m q []) (hr : RU w A ws) (hA : 0 < ws.length → ∀ b o, A = some ⟨b, o, none⟩ → b ≠ q ∧ b < m) (hlen : ws.length ≤ 256) :
    Calls Try.prog 22 #[.pointer (some ⟨q, 0, none⟩), .slice A ws.length c] w fun e w' => (∃ n, e = .returned (.int .i64 n)) ∧ RWd w' m q ws ∧ Tn (fun k => k = q ∨ m ≤ k) w w' := by
  have HR := Lib.hid hr
  have HA := Lib.hid hA
  obtain ⟨N, hN⟩ : ∃ N, N = ws.length := ⟨_, rfl⟩
  have HN := Lib.hid hN
  have H := Lib.hid h
  rw [← hN] at hlen ⊢
  clear hr hA hN h
  go_enter Try.func22, Try.ntmps22
  go_wp2_with fail
  go_loopw [5] (fun iv wr => ∃ j : Nat, j ≤ N ∧ iv = .int .i64 j ∧ Hid (RWd wr m q (ws.take j)) ∧ Hid (Tn (fun k => k = q ∨ m ≤ k) w wr)) (fun iv _ => N - (intOf iv).toNat)
  case atStart => exact ⟨0, Nat.zero_le _, rfl, H, Lib.hid (Tn.refl _ _)⟩
  case round =>
    obtain ⟨j, hj, rfl, H', T'⟩ := hrel
    obtain ⟨L, hL⟩ : ∃ L, L = ws.take j := ⟨_, rfl⟩
    rw [← hL] at H'
    have hLl : L.length = j := by rw [hL, List.length_take]; have := HN.out; omega
    obtain ⟨A0, c0, hb0, ho0, hc0⟩ := H'.out.row
    have e0 := bk_cell hb0 0
    simp only [List.getElem?_toArray, List.getElem?_cons_zero] at e0
    have lq := bk_lt hb0
    have HLL := Lib.hid (And.intro hL hLl)
    have HB0 := Lib.hid (And.intro hb0 ho0)
    rw [hLl] at e0
    clear hL hb0 ho0
    by_cases hjN : j < N
    · have d1 : decide ((j : Int) < (N : Int)) = true := by simp; omega
      have d2 : decide ((j : Int) < 256) = true := by simp; omega
      have d2' : decide (j < 256) = true := by simp; omega
      obtain ⟨x, hx⟩ : ∃ x, x = ws[j]'(by rw [← HN.out]; exact hjN) := ⟨_, rfl⟩
      have hru : RU wr A ws := HR.out.turn T'.out (fun h0 b o e hf => by have h1 := HA.out h0 b o e; omega)
      obtain ⟨b, o, rfl, hb, hc, hu⟩ := hru j (by rw [← HN.out]; exact hjN)
      rw [← hx] at hc hu
      have HX := Lib.hid (And.intro hx hu)
      clear hx hu hru
      have hMW : Hid (m ≤ wr.heap.size) := Lib.hid H'.out.hm
      have B5 : Hid (Below wr.heap.size wr (wr.drew.alloc (.cells #[.int .u32 (x : Int)] 23))) := Lib.hid ((Below.refl _ _).drew.alloc (Nat.le_refl _) _)
      have HO5 : Hid ((wr.drew.alloc (.cells #[.int .u32 (x : Int)] 23)).ownsRow m 23 1 (.slice A0 L.length c0) L.length (L.map U)) := Lib.hid (own_turnS HB0.out.2 fun k hk => B5.out.block k (HB0.out.2.lt k hk).2)
      have HX5 : Hid ((wr.drew.alloc (.cells #[.int .u32 (x : Int)] 23)).cell? ⟨wr.heap.size, 0, none⟩ = some (U x)) := Lib.hid (bk_cell (bk_alloc_at _ _ _ rfl) 0)
      have HM5 : Hid (m ≤ (wr.drew.alloc (.cells #[.int .u32 (x : Int)] 23)).heap.size) := Lib.hid (Nat.le_trans hMW.out B5.out.size)
      go_upto_region 3 with fail
      go_region_law (refine step_appU rfl (.tmp 22) (.tmp 27) rfl m (.slice A0 L.length c0) L x j (by simp [Act.eval, Act.put, HLL.out.2]) HLL.out.2.symm HO5.out wr.heap.size 1 (by simp [Act.eval, Act.put]) HX5.out HM5.out (by have := HLL.out.2; omega) ?_; intro A6 c6 w6 ho6 hg6 hc6; obtain ⟨g1, g2, fr6, l6, u6, e6⟩ := fed_box H'.out HB0.out.1 B5.out ho6 hg6 hc6 HB0.out.2 HX.out.2 (by have := HLL.out.2; omega); rw [HLL.out.2] at g1 g2; have FIN := Lib.hid (And.intro g1 g2); clear ho6 hg6 hc6 g1 g2)
      all_goals
        go_wp2_with fail
        obtain ⟨g1, g2⟩ := FIN.out
        exact ⟨⟨j + 1, by omega, rfl, Lib.hid (by rw [List.take_succ_eq_append_getElem (by rw [← HN.out]; exact hjN), ← HLL.out.1, ← HX.out.1]; exact g1), Lib.hid (T'.out.trans g2 fun k hk => .inl hk)⟩, by simp [intOf]; omega⟩
    · obtain rfl : j = N := by omega
      have d1 : decide ((j : Int) < (j : Int)) = false := by simp
      have d2 : decide (j < j) = false := by simp
      have HF : Hid (RWd wr m q ws) := Lib.hid (by have h := H'.out; rw [HLL.out.1, HN.out, List.take_length] at h; exact h)
      go_wp2_with fail
      go_ret
      exact ⟨⟨_, rfl⟩, HF.out, T'.out⟩
end Go.Proofs.Ytfldoihindbdmaa

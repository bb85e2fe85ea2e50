/- Infos: the document's words of chance. -/
import Derived.Test.YtfldoihindbdmaaF14
namespace Go.Proofs.Ytfldoihindbdmaa
open Go.RowKit
set_option maxRecDepth 100000
set_option maxHeartbeats 1000000
def U (n : Nat) : Value := .int .u32 (n : Int)
theorem infoU : (Try.prog.info? 23).map (fun i => (i.zero, i.size, i.bytes)) = some (some (.int .u32 0), 1, 4) := by kernel_rfl
theorem U_one (l : List Nat) : ∀ u ∈ l.map U, u.oneCell' = true := fun u hu => by
  obtain ⟨x, _, rfl⟩ := List.mem_map.1 hu
  rfl
/-- The words that wait: a box at q, an own row behind m. -/
structure RWd (w : World) (m q : Nat) (l : List Nat) : Prop where
  row : ∃ A c, bk w q = some (.cells #[.slice A l.length c] 61 (0, 0)) ∧ w.ownsRow m 23 1 (.slice A l.length c) l.length (l.map U) ∧ l.length ≤ c
  lt : q < m
  u32 : ∀ x ∈ l, x < 4294967296
  few : l.length ≤ 256
  hm : m ≤ w.heap.size
theorem own_turnA {w w' : World} {n : Nat} {e : TypeId} {s m : Nat} {v : Value} {xs : List Value} (h : w.ownsRow n e s v m xs) (ht : ∀ k, n ≤ k → k < w.heap.size → w'.heap[k]? = w.heap[k]?) : w'.ownsRow n e s v m xs := own_turnS h fun k hk => ht k (h.lt k hk).1 (h.lt k hk).2
theorem RWd.keep {F : Nat → Prop} {w w' : World} {m q : Nat} {l : List Nat} (h : RWd w m q l) (ht : Tn F w w') (hF : ∀ k, F k → k < m ∧ k ≠ q) : RWd w' m q l := by
  obtain ⟨A, c, hb, ho, hc⟩ := h.row
  exact ⟨⟨A, c, ht.keep (fun hf => (hF q hf).2 rfl) hb, own_turnA ho fun k hk hl => ht.old k hl fun hf => by have := (hF k hf).1; omega, hc⟩, h.lt, h.u32, h.few, Nat.le_trans h.hm ht.size⟩
theorem own_at {w : World} {n : Nat} {e : TypeId} {m c : Nat} {A : Option Addr} {xs : List Value} (h : w.ownsRow n e 1 (.slice A m c) m xs) (i : Nat) (hi : i < xs.length) : ∃ g, A = some ⟨g, 0, none⟩ ∧ n ≤ g ∧ g < w.heap.size ∧ w.cell? ⟨g, i, none⟩ = some xs[i] ∧ m = xs.length := by
  have hl := h.1
  rcases h.2 with ⟨_, q⟩ | ⟨g, cap, cur, q, hg, hb, _, _, hs, ht⟩
  · omega
  · cases q
    refine ⟨g, rfl, hg, bk_lt hb, ?_, by omega⟩
    rw [bk_cell hb]
    have h1 : (cur.toList.take (m * 1))[i]? = xs[i]? := by rw [ht]
    rw [List.getElem?_take, if_pos (by omega), Array.getElem?_toList] at h1
    rw [h1, List.getElem?_eq_getElem hi]
theorem rwlen_any (m q : Nat) (l : List Nat) (w : World) (h : RWd w m q l) :
    Calls Try.prog 49 #[.pointer (some ⟨q, 0, none⟩)] w fun e w' => e = .returned (.int .i64 ((l.length : Nat) : Int)) ∧ w = w' := by
  obtain ⟨A, c, hb, _, _⟩ := h.row
  have c0 := bk_cell hb 0
  simp at c0
  have lq := bk_lt hb
  obtain ⟨N, hN⟩ : ∃ N, N = l.length := ⟨_, rfl⟩
  rw [← hN] at c0 ⊢
  clear h hb hN
  go_enter Try.func49, Try.ntmps49
  go_wp2_with fail
  go_ret
  exact ⟨rfl, rfl⟩
theorem rwnext_any (m q : Nat) (l : List Nat) (w : World) (h : RWd w m q l) :
    Calls Try.prog 64 #[.pointer (some ⟨q, 0, none⟩)] w fun e w' => e = .returned (.int .u32 ((l.headD 0 : Nat) : Int)) ∧ RWd w' m q l.tail ∧ Tn (fun k => k = q) w w' := by
  obtain ⟨A, c, hb, ho, hc⟩ := h.row
  have c0 := bk_cell hb 0
  simp at c0
  have lq := bk_lt hb
  have HH := Lib.hid h
  cases l with
  | nil =>
    clear h hb ho
    go_enter Try.func64, Try.ntmps64
    go_wp2_with fail
    go_ret
    exact ⟨rfl, HH.out, Tn.refl _ _⟩
  | cons a t =>
    obtain ⟨g, rfl, hg, hgl, hga, _⟩ := own_at ho 0 (by simp)
    have hga' : w.cell? ⟨g, 0, none⟩ = some (.int .u32 (a : Int)) := hga
    obtain ⟨N, hN⟩ : ∃ N, N = t.length := ⟨_, rfl⟩
    have hN1 : (a :: t).length = N + 1 := by simp [hN]
    rw [hN1] at c0 hc
    have n1 : ((N : Int) + 1 == 0) = false := beq_eq_false_iff_ne.2 (by omega)
    have hne : g ≠ q := by have := h.lt; omega
    have HO := Lib.hid ho
    have HB := Lib.hid hb
    have HN := Lib.hid hN
    have fr := bk_frozen hb 0
    obtain ⟨i0, hi, hz0, hz1, hz2⟩ := info_parts infoU
    have HI := Lib.hid (And.intro hi (And.intro hz0 (And.intro hz1 hz2)))
    have hcut : Hid (∀ j u, (t.map U)[j]? = some u → w.cell? ((⟨g, 1, none⟩ : Addr).add j) = some u) := Lib.hid fun j u hu => by
      have hj : ((⟨g, 1, none⟩ : Addr).add j) = ⟨g, j + 1, none⟩ := by
        unfold Addr.add
        split
        · rename_i h0; subst h0; rfl
        · simp [Nat.add_comm]
      have hlt : j < t.length := by
        have := (List.getElem?_eq_some_iff.1 hu).1
        simpa using this
      obtain ⟨g', e', _, _, h5, _⟩ := own_at HO.out (j + 1) (by simp; omega)
      cases e'
      rw [hj, h5]
      simp at hu ⊢
      obtain ⟨x, hx, rfl⟩ := hu
      have hx' : x = t[j] := by rw [List.getElem?_eq_getElem hlt] at hx; exact (Option.some.inj hx).symm
      rw [hx']
    have FIN : Hid (∀ v' w', w'.ownsRow m 23 1 v' N (t.map U) → w.grownBy w' (Value.slice none 0 0).ownBlock → ∃ A' c', v' = .slice A' N c' ∧ RWd (w'.setCell ⟨q, 0, none⟩ (.slice A' N c')) m q t ∧ Tn (fun k => k = q) w (w'.setCell ⟨q, 0, none⟩ (.slice A' N c')) ∧ w'.frozen? ⟨q, 0, none⟩ = false ∧ q < w'.heap.size ∧ ∃ u, w'.cell? ⟨q, 0, none⟩ = some u) := Lib.hid fun v' w' h1 h2 => by
      obtain ⟨A', c', rfl, hc'⟩ := own_slS h1
      have hbq : bk w' q = some (.cells #[.slice (some ⟨g, 0, none⟩) (N + 1) c] 61 (0, 0)) := (h2.block q (bk_lt HB.out) (fun e => by cases e)).trans (by rw [← hN1]; exact HB.out)
      have t1 : Tn (fun k => k = q) w w' := ⟨h2.os, h2.tape, h2.output, h2.size, fun k hk _ => h2.block k hk (fun e => by cases e)⟩
      refine ⟨A', c', rfl, ⟨⟨A', c', ?_, ?_, by rw [← HN.out]; exact hc'⟩, HH.out.lt, fun x hx => HH.out.u32 x (by simp [hx]), by have := HH.out.few; simp at this; omega, by simp; exact Nat.le_trans HH.out.hm h2.size⟩, t1.set (.inl rfl), bk_frozen hbq 0, bk_lt hbq, ⟨_, bk_cell hbq 0⟩⟩
      · rw [bk_setCell_same, hbq, ← HN.out]; rfl
      · rw [← HN.out]
        exact own_turnS h1 fun k hk => (bk_setCell_other _ _ _ _ _ (fun e => by have h3 := (h1.lt k hk).1; have h4 := HH.out.lt; omega))
    have hmw := h.hm
    have HMW := Lib.hid hmw
    have few := h.few
    have hN2 : N ≤ 255 := by rw [hN1] at few; omega
    have HN2 := Lib.hid hN2
    have ha := h.u32 a (by simp)
    clear h hb ho hga hN hmw few hi hz0 hz1 hz2
    by_cases h1 : c = 1
    · subst h1
      have hN0 : N = 0 := by omega
      have ht0 : t = [] := List.eq_nil_of_length_eq_zero (by rw [← HN.out]; exact hN0)
      subst hN0
      go_enter Try.func64, Try.ntmps64
      go_wp2_with (at_builtin; refine wpList_append_own _ rfl _ _ 49 rfl m 23 i0 (.int .u32 0) 1 4 Try.underlying49 HI.out.1 HI.out.2.1 HI.out.2.2.1 HI.out.2.2.2 rfl (by decide) _ 0 [] rfl (World.ownsRow_nil _ _ _ _) ⟨g, 0, none⟩ 0 0 (t.map U) rfl (by rw [ht0]; rfl) (by rw [ht0]; intro j u hu; simp at hu) (U_one t) (by decide) (by decide) HMW.out ?_)
      intro v' w' h2 h3 _
      obtain ⟨A', c', rfl, hF1, hF2, fr', lq', u, hu⟩ := FIN.out v' w' (by rw [ht0]; exact h2) h3
      have HF := Lib.hid (And.intro hF1 hF2)
      clear hF1 hF2 FIN h2 h3
      go_wp2_with fail
      go_ret
      exact ⟨rfl, HF.out⟩
    · have h2c : ¬ (c = 1) := h1
      have h3c : 1 ≤ c := by omega
      go_enter Try.func64, Try.ntmps64
      go_wp2_with (at_builtin; refine wpList_append_own _ rfl _ _ 49 rfl m 23 i0 (.int .u32 0) 1 4 Try.underlying49 HI.out.1 HI.out.2.1 HI.out.2.2.1 HI.out.2.2.2 rfl (by decide) _ 0 [] rfl (World.ownsRow_nil _ _ _ _) ⟨g, 1, none⟩ N (c - 1) (t.map U) (by simp [Act.eval, Act.put]) (by rw [HN.out]; simp) hcut.out (U_one t) (by have := HN2.out; unfold maxLen; omega) (by have := HN2.out; omega) HMW.out ?_)
      intro v' w' h2 h3 _
      obtain ⟨A', c', rfl, hF1, hF2, fr', lq', u, hu⟩ := FIN.out v' w' h2 h3
      have HF := Lib.hid (And.intro hF1 hF2)
      clear hF1 hF2 FIN h2 h3
      go_wp2_with fail
      go_ret
      exact ⟨rfl, HF.out⟩
theorem RWd.head {w : World} {m q : Nat} {l : List Nat} (h : RWd w m q l) : l.headD 0 < 4294967296 := by
  cases l with
  | nil => decide
  | cons a t => exact h.u32 a (by simp)
theorem rwbelow_any (m q : Nat) (l : List Nat) (n : Nat) (w : World) (h : RWd w m q l) (hn : n < 4294967296) :
    Calls Try.prog 66 #[.pointer (some ⟨q, 0, none⟩), .int .u32 (n : Int)] w fun e w' => e = .returned (.int .u32 ((belT (l.headD 0) n : Nat) : Int)) ∧ RWd w' m q l.tail ∧ Tn (fun k => k = q) w w' := by
  have C := Lib.hid (rwnext_any m q l w h)
  have hx := h.head
  obtain ⟨x, hxx⟩ : ∃ x, x = l.headD 0 := ⟨_, rfl⟩
  rw [← hxx] at C hx ⊢
  obtain ⟨r, hr⟩ : ∃ r, r = belT x n := ⟨_, rfl⟩
  have hm : x * n < 18446744073709551616 := Nat.lt_of_le_of_lt (Nat.mul_le_mul (Nat.le_sub_one_of_lt hx) (Nat.le_sub_one_of_lt hn)) (by decide)
  obtain ⟨z, hz⟩ : ∃ z, z = x * n := ⟨_, rfl⟩
  have hz' : (x : Int) * (n : Int) = (z : Int) := by rw [hz]; rfl
  have hr' : r = z / 4294967296 := by rw [hr, hz]; rfl
  rw [← hz] at hm
  rw [← hr]
  have m0 : (z : Int) % 18446744073709551616 = (z : Int) := by omega
  have m1 : (z : Int) / 4294967296 = (r : Int) := by omega
  have m3 : (z : Int).tdiv 4294967296 = (r : Int) := by rw [Int.tdiv_eq_ediv_of_nonneg (by omega)]; omega
  have m2 : (r : Int) % 4294967296 = (r : Int) := by omega
  clear h hxx hr hz hr'
  go_enter Try.func66, Try.ntmps66
  go_wp2_with fail
  refine C.out.mono ?_
  rintro e w1 ⟨rfl, h1, t1⟩
  go_wp2_with fail
  go_ret
  exact ⟨rfl, h1, t1⟩
end Go.Proofs.Ytfldoihindbdmaa

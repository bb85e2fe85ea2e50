/- Infos: words are fed. -/
import Derived.Test.YtfldoihindbdmaaF13
namespace Go.Proofs.Ytfldoihindbdmaa
open Go.RowKit
set_option maxRecDepth 100000
set_option maxHeartbeats 1000000
theorem zeroWd : Try.zeroCells84.setIfInBounds 258 (.bool true) = wdC (List.replicate 256 0) 0 0 := by kernel_rfl
theorem wnew_any (w : World) : Calls Try.prog 17 #[] w fun e w' => e = .returned (.pointer (some ⟨w.heap.size, 0, none⟩)) ∧ WdR w' w.heap.size (List.replicate 256 0) 0 [] ∧ Below w.heap.size w w' := by
  have H : Hid (WdR (w.alloc (.cells (Try.zeroCells84.setIfInBounds 258 (.bool true)) 84 (0, 0))) w.heap.size (List.replicate 256 0) 0 []) := Lib.hid ⟨by rw [zeroWd]; exact bk_alloc_at _ _ _ rfl, by simp, by decide, by simp, fun i h => by simp at h, fun x h => by simp at h⟩
  go_enter Try.func17, Try.ntmps17
  go_wp2_with fail
  go_ret
  exact ⟨rfl, H.out, (Below.refl _ _).alloc (Nat.le_refl _) _⟩
/-- A slice reads as words. -/
def RU (w : World) (A : Option Addr) (l : List Nat) : Prop :=
  ∀ k (h : k < l.length), ∃ b o, A = some ⟨b, o, none⟩ ∧ b < w.heap.size ∧ w.cell? ⟨b, o + k, none⟩ = some (.int .u32 (l[k] : Int)) ∧ l[k] < 4294967296
theorem RU.turn {F : Nat → Prop} {w w' : World} {A : Option Addr} {l : List Nat} (h : RU w A l) (ht : Tn F w w') (hA : 0 < l.length → ∀ b o, A = some ⟨b, o, none⟩ → ¬ F b) : RU w' A l := fun k hk => by
  obtain ⟨b, o, e, hlt, hc, hu⟩ := h k hk
  refine ⟨b, o, e, Nat.lt_of_lt_of_le hlt ht.size, ?_, hu⟩
  rw [← hc]
  have h' : w'.heap[b]? = w.heap[b]? := ht.old b hlt (hA (by omega) b o e)
  simp only [World.cell?, h']
theorem WdR.snoc {w w1 : World} {g f k x : Nat} {R l : List Nat} (h : WdR w g R f l) (hl : l.length < 256) (hx : x < 4294967296) (hk : k = (f + l.length) % 256) (hb : Below w.heap.size w w1) :
    WdR ((w1.setCell ⟨g, k, none⟩ (.int .u32 (x : Int))).setCell ⟨g, 257, none⟩ (.int .i64 ((l.length + 1 : Nat) : Int))) g (R.set k x) f (l ++ [x]) := by
  have hkR : k < R.length := by rw [h.ring]; omega
  have k1 := bk_keep hb (bk_lt h.box) h.box
  have hf := h.f256
  refine ⟨?_, by rw [List.length_set]; exact h.ring, h.f256, by simp; omega, fun i hi => ?_, fun y hy => ?_⟩
  · rw [bk_setCell_same, bk_setCell_same, k1]
    simp only [Option.map_some, putObj_cells]
    rw [wdC_setk _ _ hkR, wdC_set257 (by rw [List.length_set]; exact h.ring), List.length_append]
    rfl
  · by_cases hil : i < l.length
    · rw [List.getElem_append_left hil, ← h.at' i hil, List.getElem?_set, if_neg (by omega)]
    · have e : i = l.length := by rw [List.length_append] at hi; simp at hi; omega
      subst e
      rw [← hk, List.getElem?_set, if_pos rfl, if_pos hkR]
      simp
  · rw [List.mem_append] at hy
    rcases hy with hy | hy
    · exact h.u32 y hy
    · simp at hy; rw [hy]; exact hx
theorem WdB.head2 {w : World} {p : Option Addr} {l : List Nat} (h : WdB w p l) : l.tail.headD 0 < 4294967296 := by
  rcases h with ⟨_, rfl⟩ | ⟨g, R, f, _, h⟩
  · decide
  · match l, h with
    | [], _ => show (0 : Nat) < 4294967296; decide
    | [_], _ => show (0 : Nat) < 4294967296; decide
    | _ :: b :: _, h => exact h.u32 b (by simp)
theorem wfeed_any (g f : Nat) (R l ws : List Nat) (A : Option Addr) (c : Nat) (w : World) (h : WdR w g R f l) (hr : RU w A ws) (hA : 0 < ws.length → ∀ b o, A = some ⟨b, o, none⟩ → b ≠ g) (hlen : l.length + ws.length ≤ 256) :
    Calls Try.prog 18 #[.pointer (some ⟨g, 0, none⟩), .slice A ws.length c] w fun e w' => (∃ n, e = .returned (.int .i64 n)) ∧ (∃ R', WdR w' g R' f (l ++ ws)) ∧ Tn (fun j => j = g) w w' := by
  have HH := Lib.hid h
  have HR := Lib.hid hr
  have HA := Lib.hid hA
  have c258 := (bk_cell h.box 258).trans (wdC_made h.ring)
  have lg := bk_lt h.box
  clear h hr hA
  obtain ⟨N, hN⟩ : ∃ N, N = ws.length := ⟨_, rfl⟩
  rw [← hN]
  have HN := Lib.hid hN
  rw [← hN] at hlen
  clear hN
  go_enter Try.func18, Try.ntmps18
  go_wp2_with fail
  go_loopw [5, 6, 18] (fun _ _ i wr => ∃ (j : Nat) (R' : List Nat), j ≤ N ∧ i = .int .i64 j ∧ Hid (WdR wr g R' f (l ++ ws.take j)) ∧ Hid (Tn (fun q => q = g) w wr)) (fun _ _ i _ => N - (intOf i).toNat)
  case atStart => exact ⟨0, R, Nat.zero_le _, rfl, Lib.hid (by rw [List.take_zero, List.append_nil]; exact HH.out), Lib.hid (Tn.refl _ _)⟩
  case round =>
    obtain ⟨j, R', hj, rfl, H', T'⟩ := hrel
    by_cases hjN : j < N
    · have d1 : decide ((j : Int) < (N : Int)) = true := by simp; omega
      obtain ⟨x, hx⟩ : ∃ x, x = ws[j]'(by rw [← HN.out]; exact hjN) := ⟨_, rfl⟩
      obtain ⟨b, o, rfl, hb, hc, hu⟩ := (HR.out.turn T'.out HA.out) j (by rw [← HN.out]; exact hjN)
      rw [← hx] at hc hu
      obtain ⟨L, hL⟩ : ∃ L, L = l ++ ws.take j := ⟨_, rfl⟩
      rw [← hL] at H'
      have hLl : L.length = l.length + j := by rw [hL, List.length_append, List.length_take]; have := HN.out; omega
      obtain ⟨m, hm⟩ : ∃ m, m = L.length := ⟨_, rfl⟩
      have hm256 : m < 256 := by omega
      have c257 := (bk_cell H'.out.box 257).trans (wdC_many H'.out.ring)
      rw [← hm] at c257
      have n1 : ((m : Int) == 256) = false := beq_eq_false_iff_ne.2 (by omega)
      have lgr := bk_lt H'.out.box
      obtain ⟨k, hk⟩ : ∃ k, k = (f + m) % 256 := ⟨_, rfl⟩
      have CP := Lib.hid (place_any g f m k R' _ wr H'.out.box H'.out.ring H'.out.f256 (by omega) hk.symm)
      have hsn : ∀ w1, Below wr.heap.size wr w1 → _ := fun w1 b1 => H'.out.snoc (x := x) (k := k) (by omega) hu (by rw [hk, hm]) b1
      have HSN := Lib.hid hsn
      have HX := Lib.hid hx; have HLL := Lib.hid hL; have HM := Lib.hid hm
      have hk256 : k < 256 := by omega
      obtain ⟨j2, hj2⟩ : ∃ y, y = j + 1 := ⟨_, rfl⟩
      have HJ2 := Lib.hid hj2
      have e1 : (j : Int) + 1 = (j2 : Int) := by omega
      clear hsn hx hL hm hk hLl hj2
      go_wp2_with fail
      refine CP.out.mono ?_
      rintro e w1 ⟨rfl, b1⟩
      have HS := Lib.hid (HSN.out w1 b1)
      have k1 := bk_keep b1 (bk_lt H'.out.box) H'.out.box
      have c257' := (bk_cell k1 257).trans (wdC_many H'.out.ring)
      rw [← HM.out] at c257'
      have fr1 := bk_frozen k1 k
      have fr2 := bk_frozen k1 257
      have l1 := bk_lt k1
      have ck := (bk_cell k1 k).trans (wdC_ring (List.getElem?_eq_getElem (show k < R'.length by rw [H'.out.ring]; exact hk256)))
      have hk7 : ¬ k = 257 := by omega
      have T1 := Lib.hid (T'.out.trans ((Tn.of b1 (F := fun q => q = g)).set (g := g) (i := k) (v := .int .u32 (x : Int)) (.inl rfl)) fun q hq => .inl hq)
      clear b1 CP HSN k1 hc hb
      go_wp2_with fail
      have HS2 : Hid (WdR ((w1.setCell ⟨g, k, none⟩ (.int .u32 (x : Int))).setCell ⟨g, 257, none⟩ (.int .i64 ((m : Int) + 1))) g (R'.set k x) f (L ++ [x])) := Lib.hid (by have h := HS.out; rw [← HM.out] at h; exact h)
      have eL : l ++ ws.take j2 = L ++ [x] := by
        rw [HJ2.out, List.take_succ_eq_append_getElem (by rw [← HN.out]; exact hjN), ← List.append_assoc, ← HLL.out, ← HX.out]
      exact ⟨⟨j2, R'.set k x, by have := HJ2.out; omega, rfl, Lib.hid (by rw [eL]; exact HS2.out), Lib.hid (T1.out.set (.inl rfl))⟩, by have := HJ2.out; simp [intOf]; omega⟩
    · obtain rfl : j = N := by omega
      have d1 : decide ((j : Int) < (j : Int)) = false := by simp
      have HF : Hid (WdR wr g R' f (l ++ ws)) := Lib.hid (by have h := H'.out; rw [HN.out, List.take_length] at h; exact h)
      go_wp2_with fail
      go_ret
      exact ⟨⟨_, rfl⟩, ⟨_, HF.out⟩, T'.out⟩
end Go.Proofs.Ytfldoihindbdmaa

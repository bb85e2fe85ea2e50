/- Selects: the list of rules; which is better. -/
import Derived.Test.YtcoonncedlbbkaaDoorX5
namespace Go.Proofs.YtcoonncedlbbkaaDoor
open Go.RowKit Ad
set_option maxRecDepth 100000
set_option maxHeartbeats 1000000
def fv (f : Nat) : Value := .func (.func f) #[] #[]
def ruC (kb : Nat) : Array Value := #[fv 25, fv 27, fv 28, .func (.func 29) #[] #[.pointer (some ⟨kb, 0, none⟩)], fv 30, fv 31]
theorem rules_any (g : Nat) (w : World) :
    Calls Tryd.prog 15 #[.pointer (some ⟨g, 0, none⟩)] w fun e w' => e = .returned (.slice (some ⟨w.heap.size + 1, 0, none⟩) 6 6) ∧ bk w' w.heap.size = some (.cells #[.pointer (some ⟨g, 0, none⟩)] 44 (0, 0)) ∧ bk w' (w.heap.size + 1) = some (.cells (ruC w.heap.size) 73 (0, 0)) ∧ Below w.heap.size w w' := by
  have hmf : ∀ (fn : Fn) (first cap : Array Value) (w : World), (Instr.makeFunc fn first cap).run Tryd.prog w = .ok (.func fn first cap) w := fun _ _ _ _ => rfl
  go_enter Tryd.func15, Tryd.ntmps15
  go_wp2_with fail
  go_ret
  refine ⟨by simp, ?_, ?_, ?_⟩
  · exact (bk_alloc_past _ _ _ (by simp)).trans (bk_alloc_at _ _ _ rfl)
  · exact bk_alloc_at _ _ _ (by simp)
  ·
    (repeat (first | exact Below.refl _ _ | assumption | refine Below.drew ?_ | refine bdrewN ?_ _ | refine Below.alloc ?_ (by first | omega | (simp <;> omega) | (simp only [World.size_alloc] <;> omega)) _ | refine below_setRow ?_ (by first | omega | (simp <;> omega)) _ | refine Below.setCell ?_ (by first | omega | (simp <;> omega)) _))
def rl (dst : List UInt8) (a b : Cd) : List Int :=
  [byI (a.a == dst) (b.a == dst), scI (scope a.a) (scope b.a) (scope dst), byI b.d a.d, byI (label a.a == label dst) (label b.a == label dst), byI a.t b.t, cmI dst a b]
def firstPos : List Int → Bool
  | [] => false
  | n :: r => if n = 0 then firstPos r else decide (0 < n)
def better (dst : List UInt8) (a b : Cd) : Bool := firstPos (rl dst a b)
theorem firstPos_drop : ∀ (l : List Int) (k : Nat), (∀ j, j < k → l.getD j 0 = 0) → firstPos l = firstPos (l.drop k)
  | _, 0, _ => rfl
  | [], k + 1, _ => by simp
  | x :: r, k + 1, h => by
    rw [List.drop_succ_cons, ← firstPos_drop r k (fun j hj => by have := h (j + 1) (by omega); simpa using this)]
    have := h 0 (by omega)
    simp at this
    simp [firstPos, this]
theorem firstPos_at (l : List Int) (k : Nat) (hk : k < l.length) (h : ∀ j, j < k → l.getD j 0 = 0) (hn : l.getD k 0 ≠ 0) : firstPos l = decide (0 < l.getD k 0) := by
  rw [firstPos_drop l k h, List.drop_eq_getElem_cons hk]
  have e : l.getD k 0 = l[k] := by rw [List.getD_eq_getElem?_getD, List.getElem?_eq_getElem hk]; rfl
  rw [e] at hn ⊢
  simp [firstPos, hn]
theorem firstPos_end (l : List Int) (k : Nat) (hk : l.length = k) (h : ∀ j, j < k → l.getD j 0 = 0) : firstPos l = false := by
  rw [firstPos_drop l k h, List.drop_eq_nil_of_le (by omega)]
  rfl
/-- The book stands, or is filled; who holds it. -/
structure Bs (g kb rs : Nat) (w : World) : Prop where
  book : Bn g w ∨ Bf g w
  hkb : bk w kb = some (.cells #[.pointer (some ⟨g, 0, none⟩)] 44 (0, 0))
  hrs : bk w rs = some (.cells (ruC kb) 73 (0, 0))
  nk : kb ≠ g
  nr : rs ≠ g
theorem Bs.lt {g kb rs : Nat} {w : World} (h : Bs g kb rs w) : g < w.heap.size := by
  rcases h.book with h | ⟨_, _, _, h, _⟩
  · exact bk_lt h.2
  · exact bk_lt h
theorem Bs.below {g kb rs n : Nat} {w w' : World} (h : Bs g kb rs w) (hb : Below n w w') (hn : w.heap.size ≤ n) : Bs g kb rs w' :=
  ⟨h.book.imp (fun h => h.below hb hn) (fun h => h.below hb hn), bk_keep hb (Nat.lt_of_lt_of_le (bk_lt h.hkb) hn) h.hkb, bk_keep hb (Nat.lt_of_lt_of_le (bk_lt h.hrs) hn) h.hrs, h.nk, h.nr⟩
theorem Bs.gb {g kb rs : Nat} {w w' : World} (h : Bs g kb rs w) (hb : Gb g w w') (hf : Bn g w' ∨ Bf g w') : Bs g kb rs w' :=
  ⟨hf, hb.keep h.nk h.hkb, hb.keep h.nr h.hrs, h.nk, h.nr⟩
theorem GK.gb {g : Nat} {w w' : World} (h : GK w) (hb : Gb g w w') (hg : 0 < g) : GK w' := by
  obtain ⟨c, t, fr, h1, h2⟩ := h
  exact ⟨c, t, fr, hb.keep (by omega) h1, h2⟩
/-- Every rule is told by its function. -/
theorem rule_at (g kb rs : Nat) (dst : List UInt8) (hd : dst.length = 16) (a b : Cd) (k : Nat) (hk : k < 6) :
    ∃ (f : FuncId) (cap : Array Value), xt (ruC kb) k 1 = #[.func (.func f) #[] cap] ∧ (∀ (args : Array Value) (w : World), (callFunc f args).run Tryd.prog w = .ok (.enter f args) w) ∧ ∀ w, GK w → Bs g kb rs w →
      Calls Tryd.prog f (#[av dst, .agg a.row, .agg b.row] ++ cap) w fun e w' => e = .returned (.int .i64 ((rl dst a b).getD k 0)) ∧ Bs g kb rs w' ∧ Gb g w w' := by
  have key : ∀ (w w' : World) (v : Int) (z : Int) (e : Ending), z = v → Bs g kb rs w → (e = .returned (.int .i64 v) ∧ Below w.heap.size w w') → e = .returned (.int .i64 z) ∧ Bs g kb rs w' ∧ Gb g w w' := fun w w' v z e hz hb h => by
    subst hz
    exact ⟨h.1, hb.below h.2 (Nat.le_refl _), Gb.of h.2⟩
  obtain rfl | rfl | rfl | rfl | rfl | rfl : k = 0 ∨ k = 1 ∨ k = 2 ∨ k = 3 ∨ k = 4 ∨ k = 5 := by omega
  · exact ⟨25, #[], rfl, fun _ _ => by kernel_rfl, fun w h1 h2 => (rule1_any dst hd a b w).mono fun e w' h => key w w' _ _ e rfl h2 h⟩
  · exact ⟨27, #[], rfl, fun _ _ => by kernel_rfl, fun w h1 h2 => (rule2_any dst hd a b w h1).mono fun e w' h => key w w' _ _ e rfl h2 h⟩
  · exact ⟨28, #[], rfl, fun _ _ => by kernel_rfl, fun w h1 h2 => (rule3_any dst hd a b w).mono fun e w' h => key w w' _ _ e rfl h2 h⟩
  · refine ⟨29, #[.pointer (some ⟨kb, 0, none⟩)], rfl, fun _ _ => by kernel_rfl, fun w h1 h2 => (rule4_any g kb dst hd a b w h1 h2.book _ h2.hkb h2.nk).mono fun e w' h => ⟨h.1, h2.gb h.2.2 (.inr h.2.1), h.2.2⟩⟩
  · exact ⟨30, #[], rfl, fun _ _ => by kernel_rfl, fun w h1 h2 => (rule5_any dst hd a b w).mono fun e w' h => key w w' _ _ e rfl h2 h⟩
  · exact ⟨31, #[], rfl, fun _ _ => by kernel_rfl, fun w h1 h2 => (rule6_any dst hd a b w).mono fun e w' h => key w w' _ _ e rfl h2 h⟩
theorem better_any (g kb rs : Nat) (dst : List UInt8) (hd : dst.length = 16) (a b : Cd) (w : World) (hk : GK w) (hb : Bs g kb rs w) :
    Calls Tryd.prog 16 #[.slice (some ⟨rs, 0, none⟩) 6 6, av dst, .agg a.row, .agg b.row] w fun e w' => e = .returned (.bool (better dst a b)) ∧ Bs g kb rs w' ∧ Gb g w w' := by
  have hw0 : 0 < w.heap.size := by obtain ⟨c, t, fr, h1, _⟩ := hk; exact bk_lt h1
  have g0 : 0 < g := by rcases hb.book with h | h <;> exact h.1
  have hgw := hb.lt
  have ba : Below w.heap.size w (B3 w dst a b) := by
    unfold B3
    (repeat (first | exact Below.refl _ _ | assumption | refine Below.drew ?_ | refine bdrewN ?_ _ | refine Below.alloc ?_ (by first | omega | (simp <;> omega) | (simp only [World.size_alloc] <;> omega)) _ | refine below_setRow ?_ (by first | omega | (simp <;> omega)) _ | refine Below.setCell ?_ (by first | omega | (simp <;> omega)) _))
  have k0 : bk (B3 w dst a b) w.heap.size = some (.cells (List.map B dst).toArray 23 (0, 0)) := (bk_alloc_past _ _ _ (by simp; omega)).trans ((bk_alloc_past _ _ _ (by simp)).trans (bk_alloc_at _ _ _ rfl))
  have k1 : bk (B3 w dst a b) (w.heap.size + 1) = some (.cells a.row 33 (0, 0)) := (bk_alloc_past _ _ _ (by simp)).trans (bk_alloc_at _ _ _ (by simp))
  have k2 : bk (B3 w dst a b) (w.heap.size + 2) = some (.cells b.row 33 (0, 0)) := bk_alloc_at _ _ _ (by simp)
  have sz : (B3 w dst a b).heap.size = w.heap.size + 3 := by simp
  have HS := Lib.hid (And.intro ba (And.intro k0 (And.intro k1 (And.intro k2 (And.intro (hk.below ba hw0) (hb.below ba (Nat.le_refl _)))))))
  clear ba k0 k1 k2 hk hb
  obtain ⟨r, hr⟩ : ∃ r, r = rl dst a b := ⟨_, rfl⟩
  have hrl : r.length = 6 := by rw [hr]; rfl
  have HR := Lib.hid hr
  have HB : Hid (better dst a b = firstPos r) := by rw [hr]; exact Lib.hid rfl
  clear hr
  go_enter Tryd.func16, Tryd.ntmps16
  go_wp2_with fail
  go_loopw [10, 11, 14] (fun _ _ i wr => ∃ k : Nat, k ≤ 6 ∧ i = .int .i64 k ∧ Hid (Gb g (B3 w dst a b) wr) ∧ Hid (Bs g kb rs wr) ∧ Hid (∀ j, j < k → r.getD j 0 = 0)) (fun _ _ i _ => 6 - (intOf i).toNat)
  case atStart => exact ⟨0, by omega, rfl, Lib.hid (Gb.refl _ _), Lib.hid HS.out.2.2.2.2.2, Lib.hid fun j h => by omega⟩
  case round =>
    obtain ⟨k, hk, rfl, BR, SR, HJ⟩ := hrel
    have BB : Hid (Gb g w wr) := Lib.hid ((Gb.of HS.out.1).trans BR.out)
    by_cases hk6 : k < 6
    · have d1 : decide ((k : Int) < 6) = true := by simp; omega
      obtain ⟨f, cap, hf, he, hc⟩ := rule_at g kb rs dst hd a b k hk6
      have kr := SR.out.hrs
      have lr := bk_lt kr
      have hs : k + 1 ≤ (ruC kb).size := by show k + 1 ≤ 6; omega
      have HC := Lib.hid hc; have HE := Lib.hid he
      clear hc he
      go_upto_region 4 with fail
      rw [stRow_some _ 1 _ _ _ #[.func (.func f) #[] cap] #[.nilFunc] _ rfl rfl rfl]
      have kc : bk ((wr.alloc (.cells #[.nilFunc] 73 (0, 0))).setRow wr.heap.size #[.func (.func f) #[] cap]) wr.heap.size = some (.cells #[.func (.func f) #[] cap] 73 (0, 0)) := by
        rw [bk_setRow_same, bk_alloc_at _ _ _ rfl]; rfl
      have bc : Below wr.heap.size wr ((wr.alloc (.cells #[.nilFunc] 73 (0, 0))).setRow wr.heap.size #[.func (.func f) #[] cap]) :=
        below_setRow ((Below.refl _ _).alloc (Nat.le_refl _) _) (Nat.le_refl _) _
      generalize (wr.alloc (.cells #[.nilFunc] 73 (0, 0))).setRow wr.heap.size #[.func (.func f) #[] cap] = w4 at *
      obtain ⟨x, hx⟩ : ∃ x, x = wr.heap.size := ⟨_, rfl⟩
      rw [← hx] at kc ⊢
      have hgx : g < x := by rw [hx]; exact SR.out.lt
      have S4 := Lib.hid (SR.out.below bc (Nat.le_refl _))
      have B4 := Lib.hid (BB.out.trans (Gb.of bc))
      have P4 : Gb g (B3 w dst a b) w4 := BR.out.trans (Gb.of bc)
      have j0 := P4.keep (by omega) HS.out.2.1
      have j1 := P4.keep (by omega) HS.out.2.2.1
      have j2 := P4.keep (by omega) HS.out.2.2.2.1
      have G4 : GK w4 := HS.out.2.2.2.2.1.gb P4 g0
      have l0 := bk_lt j0; have l1 := bk_lt j1; have l2 := bk_lt j2; have l3 := bk_lt kc
      have cf := bk_cell kc 0
      have C := Lib.hid (HC.out w4 G4 S4.out)
      have P5 := Lib.hid P4
      clear kr lr hs hf bc G4 P4 hx HC SR BR
      apply_assumption
      go_wp2_with fail
      rw [HE.out, Oper.upon_enter]
      refine C.out.mono ?_
      rintro e w5 ⟨rfl, S5, B5⟩
      have B6 := Lib.hid (B4.out.trans B5)
      have P6 := Lib.hid (P5.out.trans B5)
      have S6 := Lib.hid S5
      obtain ⟨n, hn⟩ : ∃ n, n = r.getD k 0 := ⟨_, rfl⟩
      rw [← HR.out, ← hn]
      have HN := Lib.hid hn
      clear C HE B4 S4 P5 B5 S5 hn cf kc l0 l1 l2 l3 j0 j1 j2 hgx
      by_cases hz : n = 0
      · have d2 : (n != 0) = false := by simp [hz]
        go_wp2_with fail
        refine ⟨⟨k + 1, by omega, by go_num, P6, S6, Lib.hid fun j hj => ?_⟩, by simp [intOf]; omega⟩
        by_cases hjk : j < k
        · exact HJ.out j hjk
        · obtain rfl : j = k := by omega
          rw [← HN.out, hz]
      · have d2 : (n != 0) = true := by simp [hz]
        have HL : Hid (better dst a b = decide (0 < n)) := Lib.hid (by
          rw [HB.out, firstPos_at r k (by rw [hrl]; exact hk6) HJ.out (by rw [← HN.out]; exact hz), ← HN.out])
        go_wp2_with fail
        go_ret
        exact ⟨by rw [HL.out]; rfl, S6.out, B6.out⟩
    · obtain rfl : k = 6 := by omega
      have d1 : decide (((6 : Nat) : Int) < 6) = false := by simp
      have HL : Hid (better dst a b = false) := Lib.hid (HB.out.trans (firstPos_end r 6 hrl HJ.out))
      go_wp2_with fail
      go_ret
      exact ⟨by rw [HL.out]; rfl, SR.out, BB.out⟩
end Go.Proofs.YtcoonncedlbbkaaDoor

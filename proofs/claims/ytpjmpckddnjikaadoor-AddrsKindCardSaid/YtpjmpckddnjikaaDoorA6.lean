/- The addresses' functions: within a prefix, solicited, of a prefix. -/
import Derived.Test.YtpjmpckddnjikaaDoorA5
namespace Go.Proofs.YtpjmpckddnjikaaDoor
open Go.RowKit Ad
set_option maxRecDepth 100000
@[go_sem ↓] theorem cpBytes (dst : Option Tmp) (x y : Operand) (t : TypeId) (pos : String) (af : Array Edge) (gd : Option (Nat × Bool)) (a : Act) (w : World) (K : Act → World → Prop) (Q : Exit → Act → World → Prop) :
    Oper.wp Tryd.prog ⟨dst, .call { callee := .builtin .copy, args := #[x, y], argTypes := #[47, 47] }, t, pos, af, gd⟩ a w K Q =
      cpPtr (wpHid Tryd.prog ⟨dst, .call { callee := .builtin .copy, args := #[x, y], argTypes := #[47, 47] }, t, pos, af, gd⟩ a w K Q) w (fun n w' => K (a.put dst (.int .i64 n)) w') (a.eval x) (a.eval y) :=
  wp_copy_bk 47 47 5 Tryd.underlying47 (by kernel_rfl) dst x y t pos af gd a w K Q
/-- The solicited address. -/
def solic (l : List UInt8) : List UInt8 := splB (knownA 6) 13 (sl l 13 3)
theorem solic_any (l : List UInt8) (h : l.length = 16) (w : World) (hg : GK w) :
    Calls Tryd.prog 27 #[av l] w fun e w' => e = .returned (av (solic l)) ∧ Below w.heap.size w w' := by
  obtain ⟨c, t, fr, hk, hc⟩ := hg
  have hlt := bk_lt hk
  obtain ⟨hs0, hx0⟩ := known_ex hc
  have hx := hx0 6 (by omega)
  have hs : 112 ≤ c.size := by omega
  have hl : (knownA 6).length = 16 := rfl
  have hl3 : (sl l 13 3).length = 3 := sl_length l 13 3 (by omega)
  have hl4 : (splB (knownA 6) 13 (sl l 13 3)).length = 16 := by rw [splB_length _ _ _ (by omega)]; rfl
  simp only [Nat.reduceMul] at hx
  clear hc hx0 hs0
  go_enter Tryd.func27, Tryd.ntmps27
  go_wp2
  go_region
  go_wp2
  refine ret_cell rfl rfl rfl ?_ Tryd.underlying23 rfl (by rw [map_size, hl4]; kernel_rfl) ?_
  rotate_left
  · refine ⟨rfl, ?_⟩
    (repeat (first | exact Below.refl _ _ | assumption | refine Below.drew ?_ | refine bdrewN ?_ _ | refine Below.alloc ?_ (by first | omega | (simp <;> omega) | (simp only [World.size_alloc] <;> omega)) _ | refine below_setRow ?_ (by first | omega | (simp <;> omega)) _ | refine Below.setCell ?_ (by first | omega | (simp <;> omega)) _))
  · simp [go_sem]
theorem within_any (a p : List UInt8) (ha : a.length = 16) (hp : p.length = 17) (w : World) :
    Calls Tryd.prog 17 #[av a, av p] w fun e w' => e = .returned (.bool (decide (min (p.getD 16 0).toNat 128 ≤ common a (sl p 0 16)))) ∧ Below w.heap.size w w' := by
  have hsl : (sl p 0 16).length = 16 := sl_length _ _ _ (by omega)
  have CC := Lib.hid (common_any a (sl p 0 16) ha hsl)
  obtain ⟨n, hn⟩ : ∃ n, n = p.getD 16 0 := ⟨_, rfl⟩
  have hnl := n.toNat_lt
  obtain ⟨c, hcd⟩ : ∃ c, c = common a (sl p 0 16) := ⟨_, rfl⟩
  have hcl : c ≤ 128 := by rw [hcd]; exact common_le _ _
  rw [← hcd] at CC
  have h16 : p[16] = n := by rw [hn]; simp [List.getD_eq_getElem?_getD, hp]
  have HF : Hid (decide (min (p.getD 16 0).toNat 128 ≤ common a (sl p 0 16)) = decide ((min (n.toNat : Int) 128) ≤ (c : Int))) := by
    unfold Hid; rw [← hn, ← hcd, decide_eq_decide]; omega
  rw [HF.out]
  clear HF hcd hn
  go_enter Tryd.func17, Tryd.ntmps17
  go_wp2
  refine wp_region_later (w.heap.size + 2) (by kernel_rfl) (by kernel_rfl) ?_
  repeat (go_big_quiet_step (((rename_i xq; exact later_call xq (by simp) (CC.out xq.w)))))
  (first | refine wpQuiet_nil ?_ | (go_big_quiet_want; (try go_big_quiet_op); trace_state; fail))
  intro w1 hw'
  have q1 := later_elim hw'
  clear hw'
  go_wp2
  go_ret
  refine ⟨rfl, ?_⟩
  exact (((Below.refl _ _).alloc (Nat.le_refl _) _).alloc (by simp) _).trans (q1.mono (by omega))
end Go.Proofs.YtpjmpckddnjikaaDoor

/- The addresses' functions: within a prefix, solicited, of a prefix. -/
import Derived.Test.YtcoonncedlbbkaaDoorA5
namespace Go.Proofs.YtcoonncedlbbkaaDoor
open Go.RowKit Ad
set_option maxRecDepth 100000
theorem within_any (a p : List UInt8) (ha : a.length = 16) (hp : p.length = 17) (w : World) :
    Calls Tryd.prog 35 #[av a, av p] w fun e w' => e = .returned (.bool (decide (min (p.getD 16 0).toNat 128 ≤ common a (sl p 0 16)))) ∧ Below w.heap.size w w' := by
  have hsl : (sl p 0 16).length = 16 := sl_length _ _ _ (by omega)
  have CC := Lib.hid (common_any a (sl p 0 16) ha hsl)
  obtain ⟨n, hn⟩ : ∃ n, n = p.getD 16 0 := ⟨_, rfl⟩
  have hnl := n.toNat_lt
  obtain ⟨c, hcd⟩ : ∃ c, c = common a (sl p 0 16) := ⟨_, rfl⟩
  have hcl : c ≤ 128 := by rw [hcd]; exact common_le _ _
  rw [← hcd] at CC
  have h16 : p[16] = n := by rw [hn]; simp [List.getD_eq_getElem?_getD, hp]
  have HF : Hid (decide (min (p.getD 16 0).toNat 128 ≤ common a (sl p 0 16)) = decide ((min (n.toNat : Int) 128) ≤ (c : Int))) := by
    unfold Hid; rw [← hn, ← hcd, decide_eq_decide]; omega
  rw [HF.out]
  clear HF hcd hn
  go_enter Tryd.func35, Tryd.ntmps35
  go_wp2
  refine wp_region_later (w.heap.size + 2) (by kernel_rfl) (by kernel_rfl) ?_
  repeat (go_big_quiet_step (((rename_i xq; exact later_call xq (by simp) (CC.out xq.w)))))
  (first | refine wpQuiet_nil ?_ | (go_big_quiet_want; (try go_big_quiet_op); trace_state; fail))
  intro w1 hw'
  have q1 := later_elim hw'
  clear hw'
  go_wp2
  go_ret
  refine ⟨rfl, ?_⟩
  exact (((Below.refl _ _).alloc (Nat.le_refl _) _).alloc (by simp) _).trans (q1.mono (by omega))
end Go.Proofs.YtcoonncedlbbkaaDoor

/- IdentsSum: the hash of whatever bytes is the chapter's; they stay. -/
import Derived.Test.YtmdalmegogfanaaDoorJ3
import Derived.Test.YtmdalmegogfanaaDoorI6
namespace Go.Proofs.YtmdalmegogfanaaDoor
open Go.RowKit
set_option maxRecDepth 100000
theorem eqB32 (a b : List UInt8) (ha : a.length = 32) (hb : b.length = 32) (w : World) : (Op.equalIn 10000 37 (.agg (List.map B a).toArray) (.agg (List.map B b).toArray)).run Tryd.prog w = .ok (a == b) w :=
  run_equalIn_bytes w 9998 37 5 32 Tryd.underlying37 Tryd.underlying5 (fun _ => by kernel_rfl) a b ha hb
set_option maxHeartbeats 1000000 in
theorem identsSum_walk (A : Option Addr) (b : List UInt8) (c : Nat) (w : World) (h : Rd w w.heap.size A b) (hA : A = none → b = [] ∧ c = 0) (_hl : b.length < 2 ^ 63) (hg : GE w) :
    Calls Tryd.prog 5 #[.slice A b.length c] w fun e w' => e = .returned (.bool true) ∧ Below w.heap.size w w' := by
  have hw1 : 1 < w.heap.size := by obtain ⟨_, _, h⟩ := hg.each; exact bk_lt h
  have HG := Lib.hid hg
  by_cases hs : b.length ≤ 1000
  · have d1 : decide (1000 < (b.length : Int)) = false := by simp; omega
    have d1' : ¬ (1000 < b.length) := by omega
    have C1 := Lib.hid (twinBytes_any A b c w h (by omega))
    have RI := Lib.hid h; have HA := Lib.hid hA
    obtain ⟨ds, hds⟩ : ∃ ds, ds = digest b := ⟨_, rfl⟩
    have hdl : ds.length = 32 := by rw [hds]; exact digest_length b
    have E : ∀ w, (Op.equalIn 10000 37 (.agg (List.map B ds).toArray) (.agg (List.map B ds).toArray)).run Tryd.prog w = .ok true w := fun w => by
      rw [eqB32 ds ds hdl hdl w, beq_self_eq_true]
    have HDS := Lib.hid hds
    clear h hA hds hdl hg
    go_enter Tryd.func5, Tryd.ntmps5
    go_wp2_with fail
    refine C1.out.mono ?_
    rintro e w1 ⟨rfl, k1, b1⟩
    have C2 := sum_any (some ⟨w.heap.size, 0, none⟩) b (b.length + 4) w1 (Rd.of_bk k1 (bk_lt k1) (tw_head b 199)) (fun h => by cases h) (by omega) (HG.out.below b1 hw1)
    rw [← HDS.out] at C2
    replace C2 := Lib.hid C2
    have K1 := Lib.hid k1; have B1 := Lib.hid b1
    clear C1 k1 b1
    go_wp2_with fail
    refine C2.out.mono ?_
    rintro e w2 ⟨rfl, b2⟩
    have K2 := Lib.hid (bk_keep b2 (bk_lt K1.out) K1.out)
    have B2 := Lib.hid (B1.out.trans (b2.mono B1.out.size))
    have C3 := rsum_any A b c w2 ((RI.out.below B2.out (Nat.le_refl _)).mono B2.out.size) HA.out (by omega)
    rw [← HDS.out] at C3
    replace C3 := Lib.hid C3
    clear K1 B1 C2 b2
    go_wp2_with fail
    refine C3.out.mono ?_
    rintro e w3 ⟨rfl, b3⟩
    have K3 := Lib.hid (bk_keep b3 (bk_lt K2.out) K2.out)
    have B3 := Lib.hid (B2.out.trans (b3.mono B2.out.size))
    have C4 := Lib.hid (leftBytes_any A b c w.heap.size w3 ((RI.out.below B3.out (Nat.le_refl _)).mono B3.out.size) (by omega) K3.out)
    clear K2 B2 C3 b3
    go_wp2_with fail
    refine C4.out.mono ?_
    rintro e w4 ⟨rfl, b4⟩
    have B4 := Lib.hid (B3.out.trans (b4.mono B3.out.size))
    have C5 := Lib.hid (lives15_any w4 (HG.out.below B4.out hw1))
    clear K3 B3 C4 b4
    go_wp2_with fail
    refine C5.out.mono ?_
    rintro e w5 ⟨rfl, b5⟩
    go_wp2_with fail
    go_ret
    exact ⟨rfl, B4.out.trans (b5.mono B4.out.size)⟩
  · have d1 : decide (1000 < (b.length : Int)) = true := by simp; omega
    have d1' : 1000 < b.length := by omega
    have C5 := Lib.hid (lives15_any w hg)
    clear h hA hg
    go_enter Tryd.func5, Tryd.ntmps5
    go_wp2_with fail
    refine C5.out.mono ?_
    rintro e w5 ⟨rfl, b5⟩
    go_wp2_with fail
    go_ret
    exact ⟨rfl, b5⟩
end Go.Proofs.YtmdalmegogfanaaDoor

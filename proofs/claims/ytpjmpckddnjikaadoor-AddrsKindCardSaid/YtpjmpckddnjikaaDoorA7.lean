/- The chapter's own answers. -/
import Derived.Test.YtpjmpckddnjikaaDoorA2
import Derived.Test.YtpjmpckddnjikaaDoorA6
namespace Go.Proofs.YtpjmpckddnjikaaDoor
open Go.RowKit Ad
set_option maxRecDepth 100000
theorem sc1 (w : World) (hg : GK w) : Calls Tryd.prog 15 #[Value.agg #[Value.int IntKind.u8 0, Value.int IntKind.u8 0, Value.int IntKind.u8 0, Value.int IntKind.u8 0, Value.int IntKind.u8 0, Value.int IntKind.u8 0, Value.int IntKind.u8 0, Value.int IntKind.u8 0, Value.int IntKind.u8 0, Value.int IntKind.u8 0, Value.int IntKind.u8 0, Value.int IntKind.u8 0, Value.int IntKind.u8 0, Value.int IntKind.u8 0, Value.int IntKind.u8 0, Value.int IntKind.u8 1]] w fun e w' => e = .returned (.int .i64 2) ∧ Below w.heap.size w w' :=
  scope_any [0, 0, 0, 0, 0, 0, 0, 0, 0, 0, 0, 0, 0, 0, 0, 1] rfl w hg
theorem sc2 (w : World) (hg : GK w) : Calls Tryd.prog 15 #[Value.agg #[Value.int IntKind.u8 255, Value.int IntKind.u8 5, Value.int IntKind.u8 0, Value.int IntKind.u8 0, Value.int IntKind.u8 0, Value.int IntKind.u8 0, Value.int IntKind.u8 0, Value.int IntKind.u8 0, Value.int IntKind.u8 0, Value.int IntKind.u8 0, Value.int IntKind.u8 0, Value.int IntKind.u8 0, Value.int IntKind.u8 0, Value.int IntKind.u8 0, Value.int IntKind.u8 0, Value.int IntKind.u8 2]] w fun e w' => e = .returned (.int .i64 5) ∧ Below w.heap.size w w' :=
  scope_any [255, 5, 0, 0, 0, 0, 0, 0, 0, 0, 0, 0, 0, 0, 0, 2] rfl w hg
theorem sc3 (w : World) (hg : GK w) : Calls Tryd.prog 15 #[Value.agg #[Value.int IntKind.u8 254, Value.int IntKind.u8 191, Value.int IntKind.u8 0, Value.int IntKind.u8 0, Value.int IntKind.u8 0, Value.int IntKind.u8 0, Value.int IntKind.u8 0, Value.int IntKind.u8 0, Value.int IntKind.u8 0, Value.int IntKind.u8 0, Value.int IntKind.u8 0, Value.int IntKind.u8 0, Value.int IntKind.u8 0, Value.int IntKind.u8 0, Value.int IntKind.u8 0, Value.int IntKind.u8 1]] w fun e w' => e = .returned (.int .i64 2) ∧ Below w.heap.size w w' :=
  scope_any [254, 191, 0, 0, 0, 0, 0, 0, 0, 0, 0, 0, 0, 0, 0, 1] rfl w hg
theorem sc4 (w : World) (hg : GK w) : Calls Tryd.prog 15 #[Value.agg #[Value.int IntKind.u8 254, Value.int IntKind.u8 192, Value.int IntKind.u8 0, Value.int IntKind.u8 0, Value.int IntKind.u8 0, Value.int IntKind.u8 0, Value.int IntKind.u8 0, Value.int IntKind.u8 0, Value.int IntKind.u8 0, Value.int IntKind.u8 0, Value.int IntKind.u8 0, Value.int IntKind.u8 0, Value.int IntKind.u8 0, Value.int IntKind.u8 0, Value.int IntKind.u8 0, Value.int IntKind.u8 1]] w fun e w' => e = .returned (.int .i64 14) ∧ Below w.heap.size w w' :=
  scope_any [254, 192, 0, 0, 0, 0, 0, 0, 0, 0, 0, 0, 0, 0, 0, 1] rfl w hg
theorem sc5 (w : World) (hg : GK w) : Calls Tryd.prog 15 #[Value.agg #[Value.int IntKind.u8 0, Value.int IntKind.u8 0, Value.int IntKind.u8 0, Value.int IntKind.u8 0, Value.int IntKind.u8 0, Value.int IntKind.u8 0, Value.int IntKind.u8 0, Value.int IntKind.u8 0, Value.int IntKind.u8 0, Value.int IntKind.u8 0, Value.int IntKind.u8 0, Value.int IntKind.u8 0, Value.int IntKind.u8 0, Value.int IntKind.u8 0, Value.int IntKind.u8 0, Value.int IntKind.u8 0]] w fun e w' => e = .returned (.int .i64 0) ∧ Below w.heap.size w w' :=
  scope_any [0, 0, 0, 0, 0, 0, 0, 0, 0, 0, 0, 0, 0, 0, 0, 0] rfl w hg
theorem so1 (w : World) (hg : GK w) : Calls Tryd.prog 27 #[Value.agg #[Value.int IntKind.u8 32, Value.int IntKind.u8 1, Value.int IntKind.u8 13, Value.int IntKind.u8 184, Value.int IntKind.u8 0, Value.int IntKind.u8 0, Value.int IntKind.u8 0, Value.int IntKind.u8 0, Value.int IntKind.u8 0, Value.int IntKind.u8 0, Value.int IntKind.u8 0, Value.int IntKind.u8 1, Value.int IntKind.u8 0, Value.int IntKind.u8 2, Value.int IntKind.u8 0, Value.int IntKind.u8 171]] w fun e w' => e = .returned (.agg #[Value.int IntKind.u8 255, Value.int IntKind.u8 2, Value.int IntKind.u8 0, Value.int IntKind.u8 0, Value.int IntKind.u8 0, Value.int IntKind.u8 0, Value.int IntKind.u8 0, Value.int IntKind.u8 0, Value.int IntKind.u8 0, Value.int IntKind.u8 0, Value.int IntKind.u8 0, Value.int IntKind.u8 1, Value.int IntKind.u8 255, Value.int IntKind.u8 2, Value.int IntKind.u8 0, Value.int IntKind.u8 171]) ∧ Below w.heap.size w w' :=
  solic_any [32, 1, 13, 184, 0, 0, 0, 0, 0, 0, 0, 1, 0, 2, 0, 171] rfl w hg
theorem co1 (w : World) : Calls Tryd.prog 10 #[Value.agg #[Value.int IntKind.u8 0, Value.int IntKind.u8 0, Value.int IntKind.u8 0, Value.int IntKind.u8 0, Value.int IntKind.u8 0, Value.int IntKind.u8 0, Value.int IntKind.u8 0, Value.int IntKind.u8 0, Value.int IntKind.u8 0, Value.int IntKind.u8 0, Value.int IntKind.u8 0, Value.int IntKind.u8 0, Value.int IntKind.u8 0, Value.int IntKind.u8 0, Value.int IntKind.u8 0, Value.int IntKind.u8 1], Value.agg #[Value.int IntKind.u8 0, Value.int IntKind.u8 0, Value.int IntKind.u8 0, Value.int IntKind.u8 0, Value.int IntKind.u8 0, Value.int IntKind.u8 0, Value.int IntKind.u8 0, Value.int IntKind.u8 0, Value.int IntKind.u8 0, Value.int IntKind.u8 0, Value.int IntKind.u8 0, Value.int IntKind.u8 0, Value.int IntKind.u8 0, Value.int IntKind.u8 0, Value.int IntKind.u8 0, Value.int IntKind.u8 3]] w fun e w' => e = .returned (.int .i64 126) ∧ Below w.heap.size w w' :=
  common_any [0, 0, 0, 0, 0, 0, 0, 0, 0, 0, 0, 0, 0, 0, 0, 1] [0, 0, 0, 0, 0, 0, 0, 0, 0, 0, 0, 0, 0, 0, 0, 3] rfl rfl w
theorem ma1 (w : World) : Calls Tryd.prog 9 #[Value.agg #[Value.int IntKind.u8 255, Value.int IntKind.u8 255, Value.int IntKind.u8 0, Value.int IntKind.u8 0, Value.int IntKind.u8 0, Value.int IntKind.u8 0, Value.int IntKind.u8 0, Value.int IntKind.u8 0, Value.int IntKind.u8 0, Value.int IntKind.u8 0, Value.int IntKind.u8 0, Value.int IntKind.u8 0, Value.int IntKind.u8 0, Value.int IntKind.u8 0, Value.int IntKind.u8 0, Value.int IntKind.u8 0], Value.int IntKind.u8 9] w fun e w' => e = .returned (.agg #[Value.int IntKind.u8 255, Value.int IntKind.u8 128, Value.int IntKind.u8 0, Value.int IntKind.u8 0, Value.int IntKind.u8 0, Value.int IntKind.u8 0, Value.int IntKind.u8 0, Value.int IntKind.u8 0, Value.int IntKind.u8 0, Value.int IntKind.u8 0, Value.int IntKind.u8 0, Value.int IntKind.u8 0, Value.int IntKind.u8 0, Value.int IntKind.u8 0, Value.int IntKind.u8 0, Value.int IntKind.u8 0]) ∧ Below w.heap.size w w' :=
  masked_any [255, 255, 0, 0, 0, 0, 0, 0, 0, 0, 0, 0, 0, 0, 0, 0] rfl 9 w
theorem lives_any (w : World) (hg : GK w) : Calls Tryd.prog 12 #[] w fun e w' => e = .returned (.bool true) ∧ Below w.heap.size w w' := by
  have e1 : ∀ w, (Op.equalIn 10000 23 (.agg #[Value.int IntKind.u8 255, Value.int IntKind.u8 2, Value.int IntKind.u8 0, Value.int IntKind.u8 0, Value.int IntKind.u8 0, Value.int IntKind.u8 0, Value.int IntKind.u8 0, Value.int IntKind.u8 0, Value.int IntKind.u8 0, Value.int IntKind.u8 0, Value.int IntKind.u8 0, Value.int IntKind.u8 1, Value.int IntKind.u8 255, Value.int IntKind.u8 2, Value.int IntKind.u8 0, Value.int IntKind.u8 171]) (.agg #[Value.int IntKind.u8 255, Value.int IntKind.u8 2, Value.int IntKind.u8 0, Value.int IntKind.u8 0, Value.int IntKind.u8 0, Value.int IntKind.u8 0, Value.int IntKind.u8 0, Value.int IntKind.u8 0, Value.int IntKind.u8 0, Value.int IntKind.u8 0, Value.int IntKind.u8 0, Value.int IntKind.u8 1, Value.int IntKind.u8 255, Value.int IntKind.u8 2, Value.int IntKind.u8 0, Value.int IntKind.u8 171])).run Tryd.prog w = .ok true w := fun w => eqAddr [255, 2, 0, 0, 0, 0, 0, 0, 0, 0, 0, 1, 255, 2, 0, 171] [255, 2, 0, 0, 0, 0, 0, 0, 0, 0, 0, 1, 255, 2, 0, 171] rfl rfl w
  have e2 : ∀ w, (Op.equalIn 10000 23 (.agg #[Value.int IntKind.u8 255, Value.int IntKind.u8 128, Value.int IntKind.u8 0, Value.int IntKind.u8 0, Value.int IntKind.u8 0, Value.int IntKind.u8 0, Value.int IntKind.u8 0, Value.int IntKind.u8 0, Value.int IntKind.u8 0, Value.int IntKind.u8 0, Value.int IntKind.u8 0, Value.int IntKind.u8 0, Value.int IntKind.u8 0, Value.int IntKind.u8 0, Value.int IntKind.u8 0, Value.int IntKind.u8 0]) (.agg #[Value.int IntKind.u8 255, Value.int IntKind.u8 128, Value.int IntKind.u8 0, Value.int IntKind.u8 0, Value.int IntKind.u8 0, Value.int IntKind.u8 0, Value.int IntKind.u8 0, Value.int IntKind.u8 0, Value.int IntKind.u8 0, Value.int IntKind.u8 0, Value.int IntKind.u8 0, Value.int IntKind.u8 0, Value.int IntKind.u8 0, Value.int IntKind.u8 0, Value.int IntKind.u8 0, Value.int IntKind.u8 0])).run Tryd.prog w = .ok true w := fun w => eqAddr [255, 128, 0, 0, 0, 0, 0, 0, 0, 0, 0, 0, 0, 0, 0, 0] [255, 128, 0, 0, 0, 0, 0, 0, 0, 0, 0, 0, 0, 0, 0, 0] rfl rfl w
  have hw0 : 0 < w.heap.size := by obtain ⟨c, t, fr, h1, _⟩ := hg; exact bk_lt h1
  have HG := Lib.hid hg; clear hg
  go_enter Tryd.func12, Tryd.ntmps12
  go_wp2_with fail
  refine (sc1 _ HG.out).mono ?_
  rintro e w1 ⟨rfl, b1⟩
  go_wp2_with fail
  refine (sc2 _ (HG.out.below b1 hw0)).mono ?_
  rintro e w2 ⟨rfl, b2⟩
  have b2 := b1.trans (b2.mono b1.size)
  go_wp2_with fail
  refine (sc3 _ (HG.out.below b2 hw0)).mono ?_
  rintro e w3 ⟨rfl, b3⟩
  have b3 := b2.trans (b3.mono b2.size)
  go_wp2_with fail
  refine (sc4 _ (HG.out.below b3 hw0)).mono ?_
  rintro e w4 ⟨rfl, b4⟩
  have b4 := b3.trans (b4.mono b3.size)
  go_wp2_with fail
  refine (sc5 _ (HG.out.below b4 hw0)).mono ?_
  rintro e w5 ⟨rfl, b5⟩
  have q1 := b4.trans (b5.mono b4.size)
  clear b1 b2 b3 b4 b5
  have s1 := q1.size
  have q2 := q1.alloc s1 (.cells #[Value.int IntKind.u8 32, Value.int IntKind.u8 1, Value.int IntKind.u8 13, Value.int IntKind.u8 184, Value.int IntKind.u8 0, Value.int IntKind.u8 0, Value.int IntKind.u8 0, Value.int IntKind.u8 0, Value.int IntKind.u8 0, Value.int IntKind.u8 0, Value.int IntKind.u8 0, Value.int IntKind.u8 1, Value.int IntKind.u8 0, Value.int IntKind.u8 2, Value.int IntKind.u8 0, Value.int IntKind.u8 171] 23)
  go_wp2_with fail
  refine (so1 _ (HG.out.below q2 hw0)).mono ?_
  rintro e w6 ⟨rfl, b6⟩
  have q3 := q2.trans (b6.mono q2.size)
  go_wp2_with fail
  refine (co1 _).mono ?_
  rintro e w7 ⟨rfl, b7⟩
  have q4 := q3.trans (b7.mono q3.size)
  go_wp2_with fail
  refine (ma1 _).mono ?_
  rintro e w8 ⟨rfl, b8⟩
  go_wp2_with fail
  go_ret
  exact ⟨rfl, q4.trans (b8.mono q4.size)⟩
end Go.Proofs.YtpjmpckddnjikaaDoor

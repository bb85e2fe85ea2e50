/- Headers: lives. -/
import Derived.Test.YtbfiakikhkiefaaH10
import Derived.Test.YtbfiakikhkiefaaS31
namespace Go.Proofs.Ytbfiakikhkiefaa
open Go.RowKit
set_option maxRecDepth 100000
set_option maxHeartbeats 2000000
@[go_sem ↓] theorem bwPacket (dst : Option Tmp) (ps : Array (Nat × Operand)) (t : TypeId) (pos : String) (af : Array Edge) (g : Option (Nat × Bool)) (a : Act) (w : World) (K : Act → World → Prop) (Q : Exit → Act → World → Prop) :
    Oper.wp Try.prog ⟨dst, .build 30 ps, t, pos, af, g⟩ a w K Q = bldTo (wpHid Try.prog ⟨dst, .build 30 ps, t, pos, af, g⟩ a w K Q) (fun c => K (a.put dst (.agg c)) w) (Try.prog.built 30 (ps.toList.map fun x => (x.1, a.eval x.2))) :=
  wp_build_bk 30 dst ps t pos af g a w K Q
@[go_sem ↓] theorem bqPacket (dst : Option Tmp) (ps : Array (Nat × Operand)) (t : TypeId) (pos : String) (af : Array Edge) (g : Option (Nat × Bool)) (a : Act) (m : Nat) (W : World) (K : Act → Prop) :
    Oper.quiet Try.prog ⟨dst, .build 30 ps, t, pos, af, g⟩ a (fun w' => ∃ x : Later m W, w' = x.w) K = bldTo (quietHid0 Try.prog ⟨dst, .build 30 ps, t, pos, af, g⟩ a (fun w' => ∃ x : Later m W, w' = x.w) K) (fun c => K (a.put dst (.agg c))) (Try.prog.built 30 (ps.toList.map fun x => (x.1, a.eval x.2))) :=
  quiet_build_bk 30 dst ps t pos af g a _ ⟨W, ⟨W, Below.refl _ _⟩, rfl⟩ K
def pk58 : Pk := ⟨List.replicate 16 0, List.replicate 16 0, 255, false, false, 0, 0, false, 58, rfl, rfl, by decide, by decide⟩
@[go_sem] theorem built58 (A : Option Addr) : Try.prog.built 30 [(5, .int .u8 58), (2, .int .u8 255), (6, .slice A 2 2)] = some (pkC pk58 A 2 2) := by kernel_rfl
@[go_sem] theorem builtF (a b : Nat) : Try.prog.built 47 [(0, .int .u8 (a : Int)), (1, .int .u32 (b : Int))] = some (faultC a b) := by kernel_rfl
@[go_sem] theorem builtF1 : Try.prog.built 47 [(0, .int .u8 1), (1, .int .u32 40)] = some (faultC 1 40) := by kernel_rfl
@[go_sem] theorem builtF2 : Try.prog.built 47 [(0, .int .u8 2), (1, .int .u32 50)] = some (faultC 2 50) := by kernel_rfl
@[go_sem] theorem builtF3 : Try.prog.built 47 [(0, .int .u8 0), (1, .int .u32 43)] = some (faultC 0 43) := by kernel_rfl
def want9 : List UInt8 := [96, 0, 0, 0, 0, 2, 58, 255] ++ List.replicate 32 0 ++ [1, 2]
theorem lives9_any (w : World) : Calls Try.prog 9 #[] w fun e w' => e = .returned (.bool true) ∧ Below w.heap.size w w' := by
  go_enter Try.func9, Try.ntmps9
  go_wp2_with fail
  have a0 : Below w.heap.size w (w.alloc (.cells (List.map B [1, 2]).toArray 5 (0, 0))) := (by (repeat (first | exact Below.refl _ _ | assumption | refine Below.drew ?_ | refine bdrewN ?_ _ | refine Below.alloc ?_ (by first | omega | (simp <;> omega) | (simp only [World.size_alloc] <;> omega)) _ | refine below_setRow ?_ (by first | omega | (simp <;> omega)) _ | refine Below.setCell ?_ (by first | omega | (simp <;> omega)) _)))
  have C := hput_any pk58 (some ⟨w.heap.size, 0, none⟩) [1, 2] 2 (w.alloc (.cells (List.map B [1, 2]).toArray 5 (0, 0))) (Rd.lit w [1, 2] 5) (fun h => by cases h) (by decide)
  refine C.mono ?_
  rintro e w1 ⟨hp, hb⟩
  unfold PutGot at hp
  rw [if_neg (by decide)] at hp
  obtain ⟨A1, c1, rfl, ho1⟩ := hp
  have hG := Gots.of_own ho1
  rw [show pkB pk58 [1, 2] = want9 by decide +kernel] at *
  have bb := a0.trans (hb.mono a0.size)
  have R1 := Lib.hid hG.rd
  clear ho1
  have F := Lib.hid bb
  clear C a0 hb hG bb
  obtain ⟨W9, hW9⟩ : ∃ W, W = want9 := ⟨_, rfl⟩
  rw [← hW9] at R1 ⊢
  have h42 : W9.length = 42 := by rw [hW9]; rfl
  have HW9 := Lib.hid hW9
  clear hW9
  go_wp2_with (at_builtin; refine append_zeros rfl _ _ rfl w1.heap.size ⟨w1.heap.size, 0, none⟩ [96, 0, 0, 0, 0, 2, 58, 255] 8 8 rfl rfl rfl (Rd.lit w1 [96, 0, 0, 0, 0, 2, 58, 255] 5) (own_lit [96, 0, 0, 0, 0, 2, 58, 255] (by simp)) 32 rfl (by simp) (by simp) ?_)
  intro v2 w2 ho2 b2
  have a2 : Below w1.heap.size w1 (w1.alloc (.cells (List.map B [96, 0, 0, 0, 0, 2, 58, 255]).toArray 5 (0, 0))) := (by (repeat (first | exact Below.refl _ _ | assumption | refine Below.drew ?_ | refine bdrewN ?_ _ | refine Below.alloc ?_ (by first | omega | (simp <;> omega) | (simp only [World.size_alloc] <;> omega)) _ | refine below_setRow ?_ (by first | omega | (simp <;> omega)) _ | refine Below.setCell ?_ (by first | omega | (simp <;> omega)) _)))
  have bb := a2.trans (b2.mono (Nat.le_succ _))
  have R2 := Lib.hid (R1.out.below bb (Nat.le_refl _))
  have F2 := Lib.hid (F.out.trans (bb.mono F.out.size))
  have HO2 := Lib.hid ho2
  have s2 := bb.size
  have sF := F.out.size
  clear R1 F a2 b2 bb ho2
  go_wp2_with (at_builtin; refine append_rd rfl _ _ rfl w1.heap.size v2 40 _ rfl (HO2.out.alloc _) (some ⟨w2.heap.size, 0, none⟩) [1, 2] 2 rfl (fun h => by cases h) (Rd.lit w2 [1, 2] 5) (by simp) (by simp; omega) ?_)
  intro v3 w3 ho3 hg3
  have a3 : Below w1.heap.size w2 (w2.alloc (.cells (List.map B [1, 2]).toArray 5 (0, 0))) := (Below.refl _ _).alloc s2 _
  have bb : Below w1.heap.size w2 w3 := a3.trans ((Below.refl _ _).grown hg3 (by simp; omega) (fun k hk => (HO2.out.lt k hk).1))
  have ho3' : w3.ownsRow w1.heap.size 5 1 v3 want9.length (want9.map B) := ho3
  rw [← HW9.out] at ho3'
  obtain ⟨A3, c3, rfl, hR3, _, hc3⟩ := Rd.of_own ho3' rfl
  have R4 := Lib.hid (R2.out.below bb (Nat.le_refl _))
  have F3 := Lib.hid (F2.out.trans (bb.mono sF))
  have R3 := Lib.hid hR3
  have s3 := Nat.le_trans s2 bb.size
  clear F2 R2 HO2 a3 bb ho3 hg3 ho3' hR3
  have CB := sameBytes_any A1 A3 W9 W9 c1 c3 w3 (R4.out.mono s3) R3.out (by rw [h42]; decide) (by rw [h42]; decide)
  rw [beq_self_eq_true, h42] at CB
  have HCB := Lib.hid CB
  clear CB
  go_wp2_with fail
  refine HCB.out.mono ?_
  rintro e w4 ⟨rfl, b4⟩
  have F4 := Lib.hid (F3.out.trans (b4.mono F3.out.size))
  clear HCB b4 F3 R4 R3
  go_wp2_with fail
  have a5 : Below w4.heap.size w4 (w4.alloc (.cells (List.map B [59, 0, 1, 4, 0, 0, 0, 0]).toArray 5 (0, 0))) := (by (repeat (first | exact Below.refl _ _ | assumption | refine Below.drew ?_ | refine bdrewN ?_ _ | refine Below.alloc ?_ (by first | omega | (simp <;> omega) | (simp only [World.size_alloc] <;> omega)) _ | refine below_setRow ?_ (by first | omega | (simp <;> omega)) _ | refine Below.setCell ?_ (by first | omega | (simp <;> omega)) _)))
  refine (chain25_any 60 (some ⟨w4.heap.size, 0, none⟩) [59, 0, 1, 4, 0, 0, 0, 0] 8 40 59 0 (w4.alloc (.cells (List.map B [59, 0, 1, 4, 0, 0, 0, 0]).toArray 5 (0, 0))) (Rd.lit w4 _ 5) (fun h => by cases h) (by decide) (by decide) (by decide) ⟨59, [], false, false, 0, 0, false, 0, 0, 0⟩ (by decide +kernel) rfl rfl rfl rfl rfl rfl).mono ?_
  rintro e w5 ⟨rfl, b5⟩
  have F5 := Lib.hid (F4.out.trans ((a5.trans (b5.mono a5.size)).mono F4.out.size))
  clear a5 b5 F4
  have s5 := F5.out.size
  go_wp2_with fail
  have a6 : Below w5.heap.size w5 (w5.alloc (.cells (List.map B [58, 0, 5, 2, 0, 0, 1, 0, 7]).toArray 5 (0, 0))) := (by (repeat (first | exact Below.refl _ _ | assumption | refine Below.drew ?_ | refine bdrewN ?_ _ | refine Below.alloc ?_ (by first | omega | (simp <;> omega) | (simp only [World.size_alloc] <;> omega)) _ | refine below_setRow ?_ (by first | omega | (simp <;> omega)) _ | refine Below.setCell ?_ (by first | omega | (simp <;> omega)) _)))
  have R6 := Lib.hid (Rd.lit w5 [58, 0, 5, 2, 0, 0, 1, 0, 7] 5)
  refine (chain_any 0 (some ⟨w5.heap.size, 0, none⟩) [58, 0, 5, 2, 0, 0, 1, 0, 7] 9 40 true (w5.alloc (.cells (List.map B [58, 0, 5, 2, 0, 0, 1, 0, 7]).toArray 5 (0, 0))) R6.out (fun h => by cases h) (by decide) (by decide) (by decide)).mono ?_
  rintro e w6 ⟨A6, c6, rfl, hG6, b6⟩
  rw [show chain true 0 [58, 0, 5, 2, 0, 0, 1, 0, 7] 40 (if 40 = 40 then 6 else 40 - 8) (40 == 40) false = ⟨58, [7], true, false, 0, 0, false, 0, 0, 0⟩ by decide +kernel] at *
  have F6 := Lib.hid (F5.out.trans ((a6.trans (b6.mono a6.size)).mono F5.out.size))
  have R7 := Lib.hid hG6.rd
  have R8 := Lib.hid (R6.out.below b6 (Nat.le_refl _))
  have s6 := b6.size
  clear F5 a6 b6 hG6 R6
  rw [show tlV ⟨58, [7], true, false, 0, 0, false, 0, 0, 0⟩ A6 c6 = .tuple #[.int .u8 58, .slice A6 1 c6, .bool true, .agg (fragC false 0 0 false), .agg (faultC 0 0), .int .i64 0] from rfl]
  go_wp2_with fail
  have a7 : Below w6.heap.size w6 (((w6.alloc (.cells (fragC false 0 0 false) 27 (0, 0))).alloc (.cells (faultC 0 0) 47 (0, 0))).alloc (.cells (List.map B [7]).toArray 5 (0, 0))) := (by (repeat (first | exact Below.refl _ _ | assumption | refine Below.drew ?_ | refine bdrewN ?_ _ | refine Below.alloc ?_ (by first | omega | (simp <;> omega) | (simp only [World.size_alloc] <;> omega)) _ | refine below_setRow ?_ (by first | omega | (simp <;> omega)) _ | refine Below.setCell ?_ (by first | omega | (simp <;> omega)) _)))
  have l7 : Rd (((w6.alloc (.cells (fragC false 0 0 false) 27 (0, 0))).alloc (.cells (faultC 0 0) 47 (0, 0))).alloc (.cells (List.map B [7]).toArray 5 (0, 0))) (((w6.alloc (.cells (fragC false 0 0 false) 27 (0, 0))).alloc (.cells (faultC 0 0) 47 (0, 0))).alloc (.cells (List.map B [7]).toArray 5 (0, 0))).heap.size (some ⟨w6.heap.size + 1 + 1, 0, none⟩) [7] := by
    have h := Rd.lit ((w6.alloc (.cells (fragC false 0 0 false) 27 (0, 0))).alloc (.cells (faultC 0 0) 47 (0, 0))) [7] 5
    simpa using h
  have CB := sameBytes_any A6 (some ⟨w6.heap.size + 1 + 1, 0, none⟩) [7] [7] c6 1 (((w6.alloc (.cells (fragC false 0 0 false) 27 (0, 0))).alloc (.cells (faultC 0 0) 47 (0, 0))).alloc (.cells (List.map B [7]).toArray 5 (0, 0))) ((R7.out.below a7 (Nat.le_refl _)).mono a7.size) l7 (by decide) (by decide)
  rw [beq_self_eq_true] at CB
  refine CB.mono ?_
  rintro e w7 ⟨rfl, b7⟩
  have bb := a7.trans (b7.mono a7.size)
  have F7 := Lib.hid (F6.out.trans (bb.mono F6.out.size))
  have R9 := Lib.hid ((R8.out.below (bb.mono s6) (Nat.le_refl _)).mono (Nat.le_trans s6 bb.size))
  clear a7 l7 CB b7 bb R8 R7 F6
  go_wp2_with fail
  refine (wrong26_any 0 (some ⟨w5.heap.size, 0, none⟩) [58, 0, 5, 2, 0, 0, 1, 0, 7] 9 48 1 40 w7 R9.out (fun h => by cases h) (by decide) (by decide) (by decide) (tlF 1 40 false) (by decide +kernel) rfl (by decide)).mono ?_
  rintro e w8 ⟨rfl, b8⟩
  have F8 := Lib.hid (F7.out.trans (b8.mono F7.out.size))
  clear b8 F7 R9
  go_wp2_with fail
  have a9 : Below w8.heap.size w8 (w8.alloc (.cells (List.map B [58, 0, 194, 4, 0, 0, 0, 0]).toArray 5 (0, 0))) := (by (repeat (first | exact Below.refl _ _ | assumption | refine Below.drew ?_ | refine bdrewN ?_ _ | refine Below.alloc ?_ (by first | omega | (simp <;> omega) | (simp only [World.size_alloc] <;> omega)) _ | refine below_setRow ?_ (by first | omega | (simp <;> omega)) _ | refine Below.setCell ?_ (by first | omega | (simp <;> omega)) _)))
  have R9 := Lib.hid (Rd.lit w8 [58, 0, 194, 4, 0, 0, 0, 0] 5)
  refine (chain_any 60 (some ⟨w8.heap.size, 0, none⟩) [58, 0, 194, 4, 0, 0, 0, 0] 8 48 true (w8.alloc (.cells (List.map B [58, 0, 194, 4, 0, 0, 0, 0]).toArray 5 (0, 0))) R9.out (fun h => by cases h) (by decide) (by decide) (by decide)).mono ?_
  rintro e w9 ⟨A9, c9, rfl, _, b9⟩
  rw [show chain true 60 [58, 0, 194, 4, 0, 0, 0, 0] 48 (if 48 = 40 then 6 else 48 - 8) (48 == 40) false = tlE 8 by decide +kernel] at *
  have F9 := Lib.hid (F8.out.trans ((a9.trans (b9.mono a9.size)).mono F8.out.size))
  have R10 := Lib.hid ((R9.out.below b9 (Nat.le_refl _)).mono b9.size)
  clear F8 a9 b9 R9
  rw [show tlV (tlE 8) A9 c9 = .tuple #[.int .u8 0, .slice A9 0 c9, .bool false, .agg (fragC false 0 0 false), .agg (faultC 0 0), .int .i64 8] from rfl]
  go_wp2_with fail
  have a10 : Below w9.heap.size w9 ((w9.alloc (.cells (fragC false 0 0 false) 27 (0, 0))).alloc (.cells (faultC 0 0) 47 (0, 0))) := (by (repeat (first | exact Below.refl _ _ | assumption | refine Below.drew ?_ | refine bdrewN ?_ _ | refine Below.alloc ?_ (by first | omega | (simp <;> omega) | (simp only [World.size_alloc] <;> omega)) _ | refine below_setRow ?_ (by first | omega | (simp <;> omega)) _ | refine Below.setCell ?_ (by first | omega | (simp <;> omega)) _)))
  refine (wrong26_any 60 (some ⟨w8.heap.size, 0, none⟩) [58, 0, 194, 4, 0, 0, 0, 0] 8 48 2 50 ((w9.alloc (.cells (fragC false 0 0 false) 27 (0, 0))).alloc (.cells (faultC 0 0) 47 (0, 0))) ((R10.out.below a10 (Nat.le_refl _)).mono a10.size) (fun h => by cases h) (by decide) (by decide) (by decide) (tlF 2 50 false) (by decide +kernel) rfl (by decide)).mono ?_
  rintro e w10 ⟨rfl, b10⟩
  have F10 := Lib.hid (F9.out.trans ((a10.trans (b10.mono a10.size)).mono F9.out.size))
  clear F9 a10 b10 R10
  go_wp2_with fail
  have a11 : Below w10.heap.size w10 (w10.alloc (.cells (List.map B [58, 0, 0, 1, 0, 0, 0, 0]).toArray 5 (0, 0))) := (by (repeat (first | exact Below.refl _ _ | assumption | refine Below.drew ?_ | refine bdrewN ?_ _ | refine Below.alloc ?_ (by first | omega | (simp <;> omega) | (simp only [World.size_alloc] <;> omega)) _ | refine below_setRow ?_ (by first | omega | (simp <;> omega)) _ | refine Below.setCell ?_ (by first | omega | (simp <;> omega)) _)))
  refine (wrong26_any 43 (some ⟨w10.heap.size, 0, none⟩) [58, 0, 0, 1, 0, 0, 0, 0] 8 40 0 43 (w10.alloc (.cells (List.map B [58, 0, 0, 1, 0, 0, 0, 0]).toArray 5 (0, 0))) (Rd.lit w10 _ 5) (fun h => by cases h) (by decide) (by decide) (by decide) (tlF 0 43 false) (by decide +kernel) rfl (by decide)).mono ?_
  rintro e w11 ⟨rfl, b11⟩
  have F11 := Lib.hid (F10.out.trans ((a11.trans (b11.mono a11.size)).mono F10.out.size))
  clear F10 a11 b11
  go_wp2_with fail
  go_ret
  exact ⟨rfl, F11.out⟩
end Go.Proofs.Ytbfiakikhkiefaa

/- AddrsBits: the law's walk. -/
import Derived.Test.YtpjmpckddnjikaaDoorA7
import Derived.Test.YtpjmpckddnjikaaDoorA10
import Derived.Test.YtpjmpckddnjikaaDoorA12
namespace Go.Proofs.YtpjmpckddnjikaaDoor
open Go.RowKit Ad
set_option maxRecDepth 100000
@[go_sem ↓] theorem ldPfx (dst : Option Tmp) (x : Operand) (t : TypeId) (pos : String) (af : Array Edge) (g : Option (Nat × Bool)) (a : Act) (w : World) (K : Act → World → Prop) (Q : Exit → Act → World → Prop) :
    Oper.wp Tryd.prog ⟨dst, .load 33 x, t, pos, af, g⟩ a w K Q = ldPtr (wpHid Tryd.prog ⟨dst, .load 33 x, t, pos, af, g⟩ a w K Q) 17 w (fun c => K (a.put dst (.agg c)) w) (a.eval x) :=
  wp_load_bk 33 17 _ Tryd.underlying33 rfl (by kernel_rfl) dst x t pos af g a w K Q
@[go_sem ↓] theorem stPfx (dst : Option Tmp) (x y : Operand) (t : TypeId) (pos : String) (af : Array Edge) (g : Option (Nat × Bool)) (a : Act) (w : World) (K : Act → World → Prop) (Q : Exit → Act → World → Prop) :
    Oper.wp Tryd.prog ⟨dst, .store 33 x y, t, pos, af, g⟩ a w K Q = stPtr (wpHid Tryd.prog ⟨dst, .store 33 x y, t, pos, af, g⟩ a w K Q) 17 w (fun w' => K (a.put dst undef) w') (a.eval x) (a.eval y) :=
  wp_store_bk 33 17 (by kernel_rfl) dst x y t pos af g a w K Q
@[go_sem ↓] theorem qlPfx (dst : Option Tmp) (x : Operand) (t : TypeId) (pos : String) (af : Array Edge) (g : Option (Nat × Bool)) (a : Act) (m : Nat) (W : World) (K : Act → Prop) :
    Oper.quiet Tryd.prog ⟨dst, .load 33 x, t, pos, af, g⟩ a (fun w' => ∃ x : Later m W, w' = x.w) K =
      ldLater (quietHid Tryd.prog ⟨dst, .load 33 x, t, pos, af, g⟩ a (fun w' => ∃ x : Later m W, w' = x.w) K) m 17 W (fun c => K (a.put dst (.agg c))) (a.eval x) :=
  quiet_load_bk 33 17 _ Tryd.underlying33 rfl (by kernel_rfl) dst x t pos af g a m W K
@[go_sem ↓] theorem ldIid (dst : Option Tmp) (x : Operand) (t : TypeId) (pos : String) (af : Array Edge) (g : Option (Nat × Bool)) (a : Act) (w : World) (K : Act → World → Prop) (Q : Exit → Act → World → Prop) :
    Oper.wp Tryd.prog ⟨dst, .load 39 x, t, pos, af, g⟩ a w K Q = ldPtr (wpHid Tryd.prog ⟨dst, .load 39 x, t, pos, af, g⟩ a w K Q) 8 w (fun c => K (a.put dst (.agg c)) w) (a.eval x) :=
  wp_load_bk 39 8 _ Tryd.underlying39 rfl (by kernel_rfl) dst x t pos af g a w K Q
@[go_sem ↓] theorem stIid (dst : Option Tmp) (x y : Operand) (t : TypeId) (pos : String) (af : Array Edge) (g : Option (Nat × Bool)) (a : Act) (w : World) (K : Act → World → Prop) (Q : Exit → Act → World → Prop) :
    Oper.wp Tryd.prog ⟨dst, .store 39 x y, t, pos, af, g⟩ a w K Q = stPtr (wpHid Tryd.prog ⟨dst, .store 39 x y, t, pos, af, g⟩ a w K Q) 8 w (fun w' => K (a.put dst undef) w') (a.eval x) (a.eval y) :=
  wp_store_bk 39 8 (by kernel_rfl) dst x y t pos af g a w K Q
@[go_sem ↓] theorem qlIid (dst : Option Tmp) (x : Operand) (t : TypeId) (pos : String) (af : Array Edge) (g : Option (Nat × Bool)) (a : Act) (m : Nat) (W : World) (K : Act → Prop) :
    Oper.quiet Tryd.prog ⟨dst, .load 39 x, t, pos, af, g⟩ a (fun w' => ∃ x : Later m W, w' = x.w) K =
      ldLater (quietHid Tryd.prog ⟨dst, .load 39 x, t, pos, af, g⟩ a (fun w' => ∃ x : Later m W, w' = x.w) K) m 8 W (fun c => K (a.put dst (.agg c))) (a.eval x) :=
  quiet_load_bk 39 8 _ Tryd.underlying39 rfl (by kernel_rfl) dst x t pos af g a m W K
set_option maxHeartbeats 2000000 in
theorem addrsBits_walk (l : List UInt8) (h : l.length = 16) (m : List UInt8) (hm : m.length = 16) (z : List UInt8) (hz : z.length = 9) (w : World) (hg : GK w) :
    Calls Tryd.prog 7 #[av l, av m, av z] w fun e w' => e = .returned (.bool true) ∧ Below w.heap.size w w' := by
  have hw0 : 0 < w.heap.size := by obtain ⟨c, t, fr, h1, _⟩ := hg; exact bk_lt h1
  have HG := Lib.hid hg; clear hg
  obtain ⟨x, hx⟩ : ∃ x, x = z.getD 0 0 := ⟨_, rfl⟩
  have h0 : z[0] = x := by rw [hx]; simp [List.getD_eq_getElem?_getD, hz]
  obtain ⟨p, hp⟩ : ∃ p, p = appB m [x] := ⟨_, rfl⟩
  have hpl : p.length = 17 := by rw [hp, appB_length, hm]; rfl
  obtain ⟨d, hd⟩ : ∃ d, d = sl z 1 8 := ⟨_, rfl⟩
  have hdl : d.length = 8 := by rw [hd]; exact sl_length _ _ _ (by omega)
  have c1 := common_any l m h hm
  have c2 := rcommon_any l m h hm
  have c3 := masked_any l h x
  have c4 := rmasked_any l h x
  have c5 := within_any l p h hpl
  have c6 := rwithin_any l p h hpl
  have c7 := of_any p d hpl hdl
  have c8 := rof_any p d hpl hdl
  have q1 := eqAddr (masked l x.toNat) (masked l x.toNat) (masked_length _ _) (masked_length _ _)
  have q2 := eqAddr (ofB p d) (ofB p d) (ofB_length _ _ hpl hdl) (ofB_length _ _ hpl hdl)
  simp only [beq_self_eq_true] at q1 q2
  generalize common l m = c at *
  generalize masked l x.toNat = ml at *
  generalize ofB p d = o at *
  generalize decide (min (p.getD 16 0).toNat 128 ≤ common l (sl p 0 16)) = b at *
  have C1 := Lib.hid c1; have C2 := Lib.hid c2; have C3 := Lib.hid c3; have C4 := Lib.hid c4; have C5 := Lib.hid c5; have C6 := Lib.hid c6; have C7 := Lib.hid c7; have C8 := Lib.hid c8
  have hp' : appB m [x] = p := hp.symm
  have hd' : sl z 1 8 = d := hd.symm
  clear c1 c2 c3 c4 c5 c6 c7 c8 hx hp hd
  go_enter Tryd.func7, Tryd.ntmps7
  go_wp2
  refine wp_region_later (w.heap.size + 4) (by kernel_rfl) (by kernel_rfl) ?_
  repeat (go_big_quiet_step (((rename_i xq; first | (with_reducible exact later_call xq (by simp) (C1.out xq.w)) | (with_reducible exact later_call xq (by simp) (C2.out xq.w)) | (with_reducible exact later_call xq (by simp) (C3.out xq.w)) | (with_reducible exact later_call xq (by simp) (C4.out xq.w)) | (with_reducible exact later_call xq (by simp) (C5.out xq.w)) | (with_reducible exact later_call xq (by simp) (C6.out xq.w)) | (with_reducible exact later_call xq (by simp) (C7.out xq.w)) | (with_reducible exact later_call xq (by simp) (C8.out xq.w)) | (with_reducible exact later_call xq (by simp) (lives_any xq.w (HG.out.below (n := w.heap.size) (((((((Below.refl _ _).alloc (Nat.le_refl _) _).alloc (by simp) _).alloc (by simp <;> omega) _).alloc (by simp <;> omega) _).trans (xq.h.mono (by omega)))) hw0)))))))
  (first | refine wpQuiet_nil ?_ | (go_big_quiet_want; (try go_big_quiet_op); trace_state; fail))
  intro w1 hw'
  have q1 := later_elim hw'
  clear hw'
  go_wp2
  go_ret
  exact ⟨rfl, (((((Below.refl _ _).alloc (Nat.le_refl _) _).alloc (by simp) _).alloc (by simp <;> omega) _).alloc (by simp <;> omega) _).trans (q1.mono (by omega))⟩
end Go.Proofs.YtpjmpckddnjikaaDoor

/- Headers: chain, wrong, number. -/
import Derived.Test.YtbfiakikhkiefaaH9
namespace Go.Proofs.Ytbfiakikhkiefaa
open Go.RowKit
set_option maxRecDepth 100000
set_option maxHeartbeats 2000000
@[go_sem ↓] theorem bwFault (dst : Option Tmp) (ps : Array (Nat × Operand)) (t : TypeId) (pos : String) (af : Array Edge) (g : Option (Nat × Bool)) (a : Act) (w : World) (K : Act → World → Prop) (Q : Exit → Act → World → Prop) :
    Oper.wp Try.prog ⟨dst, .build 47 ps, t, pos, af, g⟩ a w K Q = bldTo (wpHid Try.prog ⟨dst, .build 47 ps, t, pos, af, g⟩ a w K Q) (fun c => K (a.put dst (.agg c)) w) (Try.prog.built 47 (ps.toList.map fun x => (x.1, a.eval x.2))) :=
  wp_build_bk 47 dst ps t pos af g a w K Q
@[go_sem ↓] theorem bqFault (dst : Option Tmp) (ps : Array (Nat × Operand)) (t : TypeId) (pos : String) (af : Array Edge) (g : Option (Nat × Bool)) (a : Act) (m : Nat) (W : World) (K : Act → Prop) :
    Oper.quiet Try.prog ⟨dst, .build 47 ps, t, pos, af, g⟩ a (fun w' => ∃ x : Later m W, w' = x.w) K = bldTo (quietHid0 Try.prog ⟨dst, .build 47 ps, t, pos, af, g⟩ a (fun w' => ∃ x : Later m W, w' = x.w) K) (fun c => K (a.put dst (.agg c))) (Try.prog.built 47 (ps.toList.map fun x => (x.1, a.eval x.2))) :=
  quiet_build_bk 47 dst ps t pos af g a _ ⟨W, ⟨W, Below.refl _ _⟩, rfl⟩ K
@[go_sem] theorem builtFault_none : Try.prog.built 47 [] = some (faultC 0 0) := by kernel_rfl
@[go_sem] theorem fragC_sz {a : Bool} {b c : Nat} {d : Bool} : (fragC a b c d).size = 4 := id rfl
@[go_sem] theorem faultC_sz {a b : Nat} : (faultC a b).size = 2 := id rfl
@[go_sem] theorem fragC_on {a : Bool} {b c : Nat} {d : Bool} : ones (fragC a b c d).toList = true := id rfl
@[go_sem] theorem faultC_on {a b : Nat} : ones (faultC a b).toList = true := id rfl
@[go_sem] theorem fragC_all {a : Bool} {b c : Nat} {d : Bool} : xt (fragC a b c d) 0 4 = fragC a b c d := id rfl
@[go_sem] theorem faultC_all {a b : Nat} : xt (faultC a b) 0 2 = faultC a b := id rfl
@[go_sem] theorem fragC_0 {a : Bool} {b c : Nat} {d : Bool} : (fragC a b c d)[0]? = some (.bool a) := id rfl
@[go_sem] theorem fragC_0' {a : Bool} {b c : Nat} {d : Bool} (h : 0 < (fragC a b c d).size) : (fragC a b c d)[0] = .bool a := id rfl
theorem chain25_any (nx : UInt8) (A : Option Addr) (b : List UInt8) (c at' : Nat) (last : UInt8) (many : Nat) (w : World) (h : Rd w w.heap.size A b) (hA : A = none → b = [] ∧ c = 0) (hc : b.length ≤ c) (hl : b.length < 2 ^ 30) (hat : at' < 2 ^ 32)
    (R : Tl) (hR : chain false nx b at' (if at' = 40 then 6 else at' - 8) (at' == 40) false = R) (h1 : R.last = last) (h2 : R.rest.length = many) (h3 : R.fi = false) (h4 : R.code = 0) (h5 : R.fat = 0) (h6 : R.e = 0) :
    Calls Try.prog 25 #[B nx, .slice A b.length c, .int .u32 (at' : Int), B last, .int .i64 (many : Int)] w fun e w' => e = .returned (.bool true) ∧ Below w.heap.size w w' := by
  have HC := Lib.hid (chain_any nx A b c at' false w h hA hc hl hat)
  have hv : ∀ A' c', tlV R A' c' = .tuple #[B last, .slice A' many c', .bool R.al, .agg (fragC false R.fid R.fo R.fm), .agg (faultC 0 0), .int .i64 0] := fun A' c' => by unfold tlV; rw [h1, h2, h3, h4, h5, h6]; rfl
  have HV := Lib.hid hv; have HR := Lib.hid hR
  have q := fun w => eqFault 0 0 w
  clear h hA hc hR h1 h2 h3 h4 h5 h6 hv
  generalize R.al = x1 at *
  generalize R.fid = x2 at *
  generalize R.fo = x3 at *
  generalize R.fm = x4 at *
  go_enter Try.func25, Try.ntmps25
  go_wp2_with fail
  refine HC.out.mono ?_
  rintro e w1 ⟨A', c', rfl, _, hb⟩
  rw [HR.out, HV.out]
  go_wp2_with fail
  go_ret
  refine ⟨rfl, hb.trans ?_⟩
  have := hb.size
  (repeat (first | exact Below.refl _ _ | assumption | refine Below.drew ?_ | refine bdrewN ?_ _ | refine Below.alloc ?_ (by first | omega | (simp <;> omega) | (simp only [World.size_alloc] <;> omega)) _ | refine below_setRow ?_ (by first | omega | (simp <;> omega)) _ | refine Below.setCell ?_ (by first | omega | (simp <;> omega)) _))
theorem wrong26_any (nx : UInt8) (A : Option Addr) (b : List UInt8) (c at' co fa : Nat) (w : World) (h : Rd w w.heap.size A b) (hA : A = none → b = [] ∧ c = 0) (hc : b.length ≤ c) (hl : b.length < 2 ^ 30) (hat : at' < 2 ^ 32)
    (R : Tl) (hR : chain false nx b at' (if at' = 40 then 6 else at' - 8) (at' == 40) false = R) (h1 : R = tlF co fa false) (h2 : fa < 4294967295) :
    Calls Try.prog 26 #[B nx, .slice A b.length c, .int .u32 (at' : Int), .agg (faultC co fa)] w fun e w' => e = .returned (.bool true) ∧ Below w.heap.size w w' := by
  have HC : Hid (∀ w', Below w.heap.size w w' → Calls Try.prog 18 #[B nx, .slice A b.length c, .int .u32 (at' : Int), .bool false] w' fun e w'' => ∃ A' c', e = .returned (tlV R A' c') ∧ Below w'.heap.size w' w'') := Lib.hid fun w' hb =>
    (chain_any nx A b c at' false w' ((h.below hb (Nat.le_refl _)).mono hb.size) hA hc hl hat).mono fun e w'' ⟨A', c', he, _, hb'⟩ => ⟨A', c', by rw [he, hR], hb'⟩
  have hv : ∀ A' c', tlV R A' c' = .tuple #[B 0, .slice A' 0 c', .bool false, .agg (fragC false 0 0 false), .agg (faultC co fa), .int .i64 7] := fun A' c' => by rw [h1]; unfold tlV tlF; rw [show min fa 4294967295 = fa by omega]; rfl
  have HV := Lib.hid hv
  have q := fun w => eqFault co fa w
  clear h hA hc hR h1 h2 hv
  go_enter Try.func26, Try.ntmps26
  have a0 : Below w.heap.size w (w.alloc (.cells (faultC co fa) 47 (0, 0))) := (by (repeat (first | exact Below.refl _ _ | assumption | refine Below.drew ?_ | refine bdrewN ?_ _ | refine Below.alloc ?_ (by first | omega | (simp <;> omega) | (simp only [World.size_alloc] <;> omega)) _ | refine below_setRow ?_ (by first | omega | (simp <;> omega)) _ | refine Below.setCell ?_ (by first | omega | (simp <;> omega)) _)))
  have k0 : bk (w.alloc (.cells (faultC co fa) 47 (0, 0))) w.heap.size = some (.cells (faultC co fa) 47 (0, 0)) := bk_alloc_at _ _ _ rfl
  go_wp2_with fail
  refine (HC.out _ a0).mono ?_
  rintro e w1 ⟨A', c', rfl, hb⟩
  rw [HV.out]
  have bb := a0.trans (hb.mono a0.size)
  have k1 := bk_keep hb (bk_lt k0) k0
  have l1 := bk_lt k1
  have hs := bb.size
  clear a0 k0 hb HC HV
  go_wp2_with fail
  go_ret
  refine ⟨rfl, bb.trans ?_⟩
  (repeat (first | exact Below.refl _ _ | assumption | refine Below.drew ?_ | refine bdrewN ?_ _ | refine Below.alloc ?_ (by first | omega | (simp <;> omega) | (simp only [World.size_alloc] <;> omega)) _ | refine below_setRow ?_ (by first | omega | (simp <;> omega)) _ | refine Below.setCell ?_ (by first | omega | (simp <;> omega)) _))
/-- A header's number? -/
def hdr (n : UInt8) : Bool := n == 0 || n == 43 || n == 44 || n == 59 || n == 60
theorem number21_any (n : UInt8) (w : World) : Calls Try.prog 21 #[B n] w fun e w' => e = .returned (.bool (hdr n)) ∧ Below w.heap.size w w' := by
  have t : ∀ k : UInt8, ((n.toNat : Int) == (k.toNat : Int)) = (n == k) := fun k => by rw [Bool.eq_iff_iff]; simp [← UInt8.toNat_inj]; omega
  have t0 := t 0; have t1 := t 43; have t2 := t 44; have t3 := t 59; have t4 := t 60
  simp only [show ((0 : UInt8).toNat : Int) = 0 from rfl, show ((43 : UInt8).toNat : Int) = 43 from rfl, show ((44 : UInt8).toNat : Int) = 44 from rfl, show ((59 : UInt8).toNat : Int) = 59 from rfl, show ((60 : UInt8).toNat : Int) = 60 from rfl] at t0 t1 t2 t3 t4
  have HH : Hid (hdr n = (n == 0 || n == 43 || n == 44 || n == 59 || n == 60)) := Lib.hid rfl
  generalize hdr n = r at *
  generalize (n == 0) = b0 at *
  generalize (n == 43) = b1 at *
  generalize (n == 44) = b2 at *
  generalize (n == 59) = b3 at *
  generalize (n == 60) = b4 at *
  clear t
  go_enter Try.func21, Try.ntmps21
  cases b0 <;> cases b1 <;> cases b2 <;> cases b3 <;> cases b4
  all_goals
    go_wp2_with fail
    go_ret
    exact ⟨by rw [HH.out]; rfl, Below.refl _ _⟩
end Go.Proofs.Ytbfiakikhkiefaa

import Derived.Test.YtbfiakikhkiefaaMgG
/- Headers: the document's fault, header, options. -/
namespace Go.Proofs.Ytbfiakikhkiefaa
open Go.RowKit
set_option maxRecDepth 100000
set_option maxHeartbeats 2000000
@[go_sem ↓] theorem ldTold (dst : Option Tmp) (x : Operand) (t : TypeId) (pos : String) (af : Array Edge) (g : Option (Nat × Bool)) (a : Act) (w : World) (K : Act → World → Prop) (Q : Exit → Act → World → Prop) :
    Oper.wp Try.prog ⟨dst, .load 51 x, t, pos, af, g⟩ a w K Q = ldPtr (wpHid Try.prog ⟨dst, .load 51 x, t, pos, af, g⟩ a w K Q) 10 w (fun c => K (a.put dst (.agg c)) w) (a.eval x) :=
  wp_load_bk 51 10 _ Try.underlying51 rfl (by kernel_rfl) dst x t pos af g a w K Q
@[go_sem ↓] theorem stTold (dst : Option Tmp) (x y : Operand) (t : TypeId) (pos : String) (af : Array Edge) (g : Option (Nat × Bool)) (a : Act) (w : World) (K : Act → World → Prop) (Q : Exit → Act → World → Prop) :
    Oper.wp Try.prog ⟨dst, .store 51 x y, t, pos, af, g⟩ a w K Q = stPtr (wpHid Try.prog ⟨dst, .store 51 x y, t, pos, af, g⟩ a w K Q) 10 w (fun w' => K (a.put dst undef) w') (a.eval x) (a.eval y) :=
  wp_store_bk 51 10 (by kernel_rfl) dst x y t pos af g a w K Q
@[go_sem ↓] theorem qlTold (dst : Option Tmp) (x : Operand) (t : TypeId) (pos : String) (af : Array Edge) (g : Option (Nat × Bool)) (a : Act) (m : Nat) (W : World) (K : Act → Prop) :
    Oper.quiet Try.prog ⟨dst, .load 51 x, t, pos, af, g⟩ a (fun w' => ∃ x : Later m W, w' = x.w) K =
      ldLater (quietHid Try.prog ⟨dst, .load 51 x, t, pos, af, g⟩ a (fun w' => ∃ x : Later m W, w' = x.w) K) m 10 W (fun c => K (a.put dst (.agg c))) (a.eval x) :=
  quiet_load_bk 51 10 _ Try.underlying51 rfl (by kernel_rfl) dst x t pos af g a m W K
@[go_sem ↓] theorem bwTold (dst : Option Tmp) (ps : Array (Nat × Operand)) (t : TypeId) (pos : String) (af : Array Edge) (g : Option (Nat × Bool)) (a : Act) (w : World) (K : Act → World → Prop) (Q : Exit → Act → World → Prop) :
    Oper.wp Try.prog ⟨dst, .build 51 ps, t, pos, af, g⟩ a w K Q = bldTo (wpHid Try.prog ⟨dst, .build 51 ps, t, pos, af, g⟩ a w K Q) (fun c => K (a.put dst (.agg c)) w) (Try.prog.built 51 (ps.toList.map fun x => (x.1, a.eval x.2))) :=
  wp_build_bk 51 dst ps t pos af g a w K Q
@[go_sem ↓] theorem bqTold (dst : Option Tmp) (ps : Array (Nat × Operand)) (t : TypeId) (pos : String) (af : Array Edge) (g : Option (Nat × Bool)) (a : Act) (m : Nat) (W : World) (K : Act → Prop) :
    Oper.quiet Try.prog ⟨dst, .build 51 ps, t, pos, af, g⟩ a (fun w' => ∃ x : Later m W, w' = x.w) K = bldTo (quietHid0 Try.prog ⟨dst, .build 51 ps, t, pos, af, g⟩ a (fun w' => ∃ x : Later m W, w' = x.w) K) (fun c => K (a.put dst (.agg c))) (Try.prog.built 51 (ps.toList.map fun x => (x.1, a.eval x.2))) :=
  quiet_build_bk 51 dst ps t pos af g a _ ⟨W, ⟨W, Below.refl _ _⟩, rfl⟩ K
@[go_sem ↓] theorem bwFrag (dst : Option Tmp) (ps : Array (Nat × Operand)) (t : TypeId) (pos : String) (af : Array Edge) (g : Option (Nat × Bool)) (a : Act) (w : World) (K : Act → World → Prop) (Q : Exit → Act → World → Prop) :
    Oper.wp Try.prog ⟨dst, .build 27 ps, t, pos, af, g⟩ a w K Q = bldTo (wpHid Try.prog ⟨dst, .build 27 ps, t, pos, af, g⟩ a w K Q) (fun c => K (a.put dst (.agg c)) w) (Try.prog.built 27 (ps.toList.map fun x => (x.1, a.eval x.2))) :=
  wp_build_bk 27 dst ps t pos af g a w K Q
@[go_sem ↓] theorem bqFrag (dst : Option Tmp) (ps : Array (Nat × Operand)) (t : TypeId) (pos : String) (af : Array Edge) (g : Option (Nat × Bool)) (a : Act) (m : Nat) (W : World) (K : Act → Prop) :
    Oper.quiet Try.prog ⟨dst, .build 27 ps, t, pos, af, g⟩ a (fun w' => ∃ x : Later m W, w' = x.w) K = bldTo (quietHid0 Try.prog ⟨dst, .build 27 ps, t, pos, af, g⟩ a (fun w' => ∃ x : Later m W, w' = x.w) K) (fun c => K (a.put dst (.agg c))) (Try.prog.built 27 (ps.toList.map fun x => (x.1, a.eval x.2))) :=
  quiet_build_bk 27 dst ps t pos af g a _ ⟨W, ⟨W, Below.refl _ _⟩, rfl⟩ K
/-- What a chain tells, as a row. -/
def tdC (t : Tl) (v : Value) : Array Value := #[B t.last, v, .bool t.al, .bool t.fi, .int .u32 (t.fid : Int), .int .u16 (t.fo : Int), .bool t.fm, .int .u8 (t.code : Int), .int .u32 (t.fat : Int), .int .i64 (t.e : Int)]
theorem tdC_size (t : Tl) (v : Value) : (tdC t v).size = 10 := rfl
def nilV : Value := .slice none 0 0
def tlA (al : Bool) : Tl := ⟨0, [], al, false, 0, 0, false, 0, 0, 0⟩
@[go_sem] theorem builtTd_0 : Try.prog.built 51 [] = some (tdC (tlA false) nilV) := by kernel_rfl
@[go_sem] theorem builtTd_5 : Try.prog.built 51 [(5, .int .i64 5)] = some (tdC (tlE 5) nilV) := by kernel_rfl
@[go_sem] theorem builtTd_4 : Try.prog.built 51 [(5, .int .i64 4)] = some (tdC (tlE 4) nilV) := by kernel_rfl
@[go_sem] theorem builtTd_8 : Try.prog.built 51 [(5, .int .i64 8)] = some (tdC (tlE 8) nilV) := by kernel_rfl
@[go_sem] theorem builtTd_f (co fa : Nat) (al : Bool) : Try.prog.built 51 [(2, .bool al), (4, .agg (faultC co fa)), (5, .int .i64 7)] = some (tdC ⟨0, [], al, false, 0, 0, false, co, fa, 7⟩ nilV) := by kernel_rfl
@[go_sem] theorem builtTd_r (x : UInt8) (v : Option Addr) (n c : Nat) (al : Bool) : Try.prog.built 51 [(0, .int .u8 (x.toNat : Int)), (1, .slice v n c), (2, .bool al)] = some (tdC ⟨x, [], al, false, 0, 0, false, 0, 0, 0⟩ (.slice v n c)) := by kernel_rfl
@[go_sem] theorem builtTd_59 (al : Bool) : Try.prog.built 51 [(0, .int .u8 59), (2, .bool al)] = some (tdC ⟨59, [], al, false, 0, 0, false, 0, 0, 0⟩ nilV) := by kernel_rfl
@[go_sem] theorem builtTd_p (x : UInt8) (v : Option Addr) (n c : Nat) (al fi : Bool) (fid fo : Nat) (fm : Bool) : Try.prog.built 51 [(0, .int .u8 (x.toNat : Int)), (1, .slice v n c), (2, .bool al), (3, .agg (fragC fi fid fo fm))] = some (tdC ⟨x, [], al, fi, fid, fo, fm, 0, 0, 0⟩ (.slice v n c)) := by kernel_rfl
@[go_sem] theorem builtF9 (a : Nat) (b : Int) : Try.prog.built 47 [(0, .int .u8 (a : Int)), (1, .int .u32 b)] = some #[.int .u8 (a : Int), .int .u32 b] := by kernel_rfl
@[go_sem] theorem tdC_ones (t : Tl) (A : Option Addr) (n c : Nat) : ones (tdC t (.slice A n c)).toList = true := id rfl
@[go_sem] theorem tdC_ones' (t : Tl) : ones (tdC t nilV).toList = true := id rfl
@[go_sem] theorem tdC_sz (t : Tl) (v : Value) : (tdC t v).size = 10 := id rfl
@[go_sem] theorem tdC_all (t : Tl) (v : Value) : xt (tdC t v) 0 10 = tdC t v := id rfl
theorem faulty9_any (co fa : Nat) (al : Bool) (w : World) (hfa : fa < 2 ^ 64) :
    Calls Try.prog 49 #[.int .u8 (co : Int), .int .u64 (fa : Int), .bool al] w fun e w' => e = .returned (.agg (tdC (tlF co fa al) nilV)) ∧ Below w.heap.size w w' := by
  by_cases hb : 4294967295 < fa
  · have d1 : decide ((4294967295 : Int) < (fa : Int)) = true := by simp; omega
    have d2 : decide (4294967295 < fa) = true := by simp; omega
    have hm : tlF co fa al = ⟨0, [], al, false, 0, 0, false, co, 4294967295, 7⟩ := by unfold tlF; rw [show min fa 4294967295 = 4294967295 by omega]
    rw [hm]
    have bf := builtTd_f co 4294967295 al
    have bg : (#[.int .u8 (co : Int), .int .u32 4294967295] : Array Value) = faultC co 4294967295 := rfl
    clear hm hfa hb
    go_enter Try.func49, Try.ntmps49
    go_wp2_with fail
    refine ret_cell (cs := tdC ⟨0, [], al, false, 0, 0, false, co, 4294967295, 7⟩ nilV) rfl rfl rfl ?_ Try.underlying51 rfl (by kernel_rfl) ?_
    rotate_left
    · exact ⟨rfl, (by (repeat (first | exact Below.refl _ _ | assumption | refine Below.drew ?_ | refine bdrewN ?_ _ | refine Below.alloc ?_ (by first | omega | (simp <;> omega) | (simp only [World.size_alloc] <;> omega)) _ | refine below_setRow ?_ (by first | omega | (simp <;> omega)) _ | refine Below.setCell ?_ (by first | omega | (simp <;> omega)) _)))⟩
    · rw [bk_alloc_at _ _ _ rfl]; rfl
  · have d1 : decide ((4294967295 : Int) < (fa : Int)) = false := by simp; omega
    have d2 : decide (4294967295 < fa) = false := by simp; omega
    have d3 : IntKind.u32.wrap (fa : Int) = (fa : Int) := by rw [IntKind.wrap_u32]; omega
    have hm : tlF co fa al = ⟨0, [], al, false, 0, 0, false, co, fa, 7⟩ := by unfold tlF; rw [show min fa 4294967295 = fa by omega]
    rw [hm]
    have bf := builtTd_f co fa al
    have bg : (#[.int .u8 (co : Int), .int .u32 (fa : Int)] : Array Value) = faultC co fa := rfl
    clear hm hfa hb
    go_enter Try.func49, Try.ntmps49
    go_wp2_with fail
    refine ret_cell (cs := tdC ⟨0, [], al, false, 0, 0, false, co, fa, 7⟩ nilV) rfl rfl rfl ?_ Try.underlying51 rfl (by kernel_rfl) ?_
    rotate_left
    · exact ⟨rfl, (by (repeat (first | exact Below.refl _ _ | assumption | refine Below.drew ?_ | refine bdrewN ?_ _ | refine Below.alloc ?_ (by first | omega | (simp <;> omega) | (simp only [World.size_alloc] <;> omega)) _ | refine below_setRow ?_ (by first | omega | (simp <;> omega)) _ | refine Below.setCell ?_ (by first | omega | (simp <;> omega)) _)))⟩
    · rw [bk_alloc_at _ _ _ rfl]; rfl
theorem header9_any (A : Option Addr) (b : List UInt8) (c least : Nat) (w : World) (hr : Rd w w.heap.size A b) (hc : b.length ≤ c) (h1 : 2 ≤ least) (hl : least < 8) (hb40 : b.length < 2 ^ 40) :
    Calls Try.prog 50 #[.slice A b.length c, .int .i64 (least : Int)] w fun e w' => e = .returned (if b.length < least ∨ b.length < hsz b then .slice none 0 0 else .slice A (hsz b) c) ∧ w = w' := by
  obtain ⟨z, hz⟩ : ∃ z, z = hsz b := ⟨_, rfl⟩
  rw [← hz]
  by_cases hlt : b.length < least
  · have d1 : decide ((b.length : Int) < (least : Int)) = true := by simp; omega
    have d2 : decide (b.length < least) = true := by simp; omega
    rw [if_pos (.inl hlt)]
    clear hr hz
    go_enter Try.func50, Try.ntmps50
    go_wp2_with fail
    go_ret
    exact ⟨rfl, rfl⟩
  · have d1 : decide ((b.length : Int) < (least : Int)) = false := by simp; omega
    have d2 : decide (b.length < least) = false := by simp; omega
    have d5 : decide ((b.length : Int) < 2) = false := by simp; omega
    have d6 : decide (b.length < 2) = false := by simp; omega
    obtain ⟨bb, o, rfl, hbn, hcl⟩ := hr (by omega)
    have u1 := hcl 1 (by omega)
    obtain ⟨y, hy⟩ : ∃ y, y = b[1] := ⟨_, rfl⟩
    rw [← hy] at u1
    have h1i : (1 : Int) < (b.length : Int) := by omega
    have hy8 := y.toNat_lt
    have f1 : IntKind.i64.wrap (y.toNat : Int) = (y.toNat : Int) := by rw [IntKind.wrap_i64]; omega
    have f2 : IntKind.i64.wrap ((y.toNat : Int) + 1) = (y.toNat : Int) + 1 := by rw [IntKind.wrap_i64]; omega
    have hzy : z = 8 * (y.toNat + 1) := by
      rw [hz, hy]; unfold hsz at8
      rw [List.getD_eq_getElem?_getD, List.getElem?_eq_getElem (by omega)]; rfl
    have f3 : IntKind.i64.wrap (8 * ((y.toNat : Int) + 1)) = (z : Int) := by rw [IntKind.wrap_i64]; omega
    clear hcl hz hy hzy
    by_cases hgt : b.length < z
    · have d3 : decide ((b.length : Int) < (z : Int)) = true := by simp; omega
      have d4 : decide (b.length < z) = true := by simp; omega
      rw [if_pos (.inr hgt)]
      go_enter Try.func50, Try.ntmps50
      go_wp2_with fail
      go_ret
      exact ⟨rfl, rfl⟩
    · have d3 : decide ((b.length : Int) < (z : Int)) = false := by simp; omega
      have d4 : decide (b.length < z) = false := by simp; omega
      rw [if_neg (show ¬ (b.length < least ∨ b.length < z) by omega)]
      have zc : (z : Int) ≤ (c : Int) := by omega
      have zc' : z ≤ c := by omega
      go_enter Try.func50, Try.ntmps50
      go_wp2_with fail
      go_ret
      exact ⟨rfl, rfl⟩
end Go.Proofs.Ytbfiakikhkiefaa
/- Headers: the document's options. -/
namespace Go.Proofs.Ytbfiakikhkiefaa
open Go.RowKit
set_option maxRecDepth 100000
set_option maxHeartbeats 4000000
def optT (r : Nat × Nat × Bool) (p : Nat) : Tl := if r.1 = 0 then tlA r.2.2 else if r.1 = 7 then tlF 2 (p + r.2.1) r.2.2 else tlE r.1
/-- What options stand on: the result's row, the row that is gathered. -/
structure Op9 (w wr : World) (a : Bool) : Prop where
  f : Below w.heap.size w wr
  k0 : bk wr w.heap.size = some (.cells (tdC (tlA false) nilV) 51 (0, 0))
  k1 : bk wr (w.heap.size + 1) = some (.cells (tdC (tlA a) nilV) 51 (0, 0))
theorem Op9.set {w wr : World} {a : Bool} (h : Op9 w wr a) (b : Bool) : Op9 w (wr.setCell ⟨w.heap.size + 1, 2, none⟩ (.bool b)) b :=
  ⟨h.f.setCell (by simp) _, (bk_setCell_other _ _ _ _ _ (by omega)).trans h.k0, by rw [bk_setCell_same, h.k1]; rfl⟩
theorem Op9.ret {w wr : World} {a : Bool} (h : Op9 w wr a) (t : Tl) : Below w.heap.size w (wr.setRow w.heap.size (tdC t nilV)) ∧ (bk (wr.setRow w.heap.size (tdC t nilV)) w.heap.size).bind rowOf = some (tdC t nilV) :=
  ⟨below_setRow h.f (Nat.le_refl _) _, by rw [bk_setRow_same, h.k0]; rfl⟩
theorem options9_any (A : Option Addr) (h : List UInt8) (c p : Nat) (hop mc : Bool) (w : World) (hr : Rd w w.heap.size A h) (h2 : 2 ≤ h.length) (hl : h.length < 2 ^ 40) (hp : p < 2 ^ 60) :
    Calls Try.prog 51 #[.slice A h.length c, .int .u64 (p : Int), .bool hop, .bool mc] w fun e w' => e = .returned (.agg (tdC (optT (opt h hop mc 2 false) p) nilV)) ∧ Below w.heap.size w w' := by
  obtain ⟨r, hrr⟩ : ∃ r, r = opt h hop mc 2 false := ⟨_, rfl⟩
  obtain ⟨R, hR⟩ : ∃ R, R = optT r p := ⟨_, rfl⟩
  rw [← hrr, ← hR]
  have HRR := Lib.hid hrr; have HRD := Lib.hid hr
  have HR := Lib.hid hR
  clear hrr hr hR
  obtain ⟨n, hn⟩ : ∃ n, n = h.length := ⟨_, rfl⟩
  rw [← hn] at hl h2 ⊢
  have HN := Lib.hid hn
  clear hn
  go_enter Try.func51, Try.ntmps51
  go_upto_region 2 with fail
  have OB0 : Hid (Op9 w ((w.alloc (.cells (tdC (tlA false) nilV) 51 (0, 0))).alloc (.cells (tdC (tlA false) nilV) 51 (0, 0))) false) := Lib.hid (by
    have k0 : bk ((w.alloc (.cells (tdC (tlA false) nilV) 51 (0, 0))).alloc (.cells (tdC (tlA false) nilV) 51 (0, 0))) w.heap.size = some (.cells (tdC (tlA false) nilV) 51 (0, 0)) := (bk_alloc_past _ _ _ (by simp)).trans (bk_alloc_at _ _ _ rfl)
    have k1 : bk ((w.alloc (.cells (tdC (tlA false) nilV) 51 (0, 0))).alloc (.cells (tdC (tlA false) nilV) 51 (0, 0))) (w.heap.size + 1) = some (.cells (tdC (tlA false) nilV) 51 (0, 0)) := bk_alloc_at _ _ _ (by simp)
    exact ⟨(by (repeat (first | exact Below.refl _ _ | assumption | refine Below.drew ?_ | refine bdrewN ?_ _ | refine Below.alloc ?_ (by first | omega | (simp <;> omega) | (simp only [World.size_alloc] <;> omega)) _ | refine below_setRow ?_ (by first | omega | (simp <;> omega)) _ | refine Below.setCell ?_ (by first | omega | (simp <;> omega)) _))), k0, k1⟩)
  change Code.wp _ _ _ _ ((w.alloc (.cells (tdC (tlA false) nilV) 51 (0, 0))).alloc (.cells (tdC (tlA false) nilV) 51 (0, 0)))
  generalize (w.alloc (.cells (tdC (tlA false) nilV) 51 (0, 0))).alloc (.cells (tdC (tlA false) nilV) 51 (0, 0)) = w1 at *
  go_wp2_with fail
  go_loopw [10] (fun v wr => ∃ (i : Nat) (a : Bool), i ≤ n ∧ v = .int .i64 i ∧ Hid (r = opt h hop mc i a) ∧ Hid (Op9 w wr a)) (fun v _ => n - (intOf v).toNat)
  case atStart => exact ⟨2, false, h2, rfl, HRR, OB0⟩
  case round =>
    obtain ⟨i, a, hi, rfl, HO, OB⟩ := hrel
    have HE := Lib.hid (HO.out.trans (opt_eq _ _ _ i a))
    by_cases hlt : i < n
    · have d1 : decide ((i : Int) < (n : Int)) = true := by simp; omega
      have d1' : decide (i < n) = true := by simp; omega
      have hRW : Rd wr w.heap.size A h := HRD.out.below OB.out.f (Nat.le_refl _)
      obtain ⟨bb, o, rfl, hbn, hcl⟩ := hRW (by rw [← HN.out]; omega)
      have HCL := Lib.hid hcl
      clear hRW hcl
      have u := HCL.out i (by rw [← HN.out]; exact hlt)
      have hil : (i : Int) < (n : Int) := by omega
      obtain ⟨k, hk⟩ : ∃ k, k = at8 h i := ⟨_, rfl⟩
      have hk2 : h[i]'(by rw [← HN.out]; exact hlt) = k := by rw [hk]; unfold at8; rw [List.getD_eq_getElem?_getD, List.getElem?_eq_getElem]; rfl
      rw [hk2] at u
      replace HE := Lib.hid (HE.out.trans (if_neg (by rw [← HN.out]; omega)))
      rw [← hk] at HE
      have hk8 := k.toNat_lt
      obtain ⟨j1, hj1⟩ : ∃ j, j = i + 1 := ⟨_, rfl⟩
      have i1 : IntKind.i64.wrap ((i : Int) + 1) = (j1 : Int) := by rw [IntKind.wrap_i64]; omega
      have HK := Lib.hid hk.symm
      have HJ := Lib.hid hj1
      rw [← hj1] at HE
      clear hk hk2 hj1
      have q0 := OB.out.k0; have q1 := OB.out.k1; have l0 := bk_lt q0; have l1 := bk_lt q1
      have c12 := bk_cell OB.out.k1 2
      simp [tdC, tlA] at c12
      have z12 := bk_frozen OB.out.k1 2
      by_cases hk0 : k.toNat = 0
      · have hk0' : (k.toNat : Int) = 0 := by omega
        have hke : k = 0 := UInt8.toNat_inj.1 hk0
        replace HE := Lib.hid (HE.out.trans (if_pos hke))
        clear hke
        go_wp2_with fail
        have := HJ.out
        refine ⟨⟨j1, a, by omega, rfl, HE, OB⟩, by simp [intOf]; omega⟩
      · have hk0' : ¬ (k.toNat : Int) = 0 := by omega
        have hke : ¬ k = 0 := fun e => hk0 (by rw [e]; rfl)
        replace HE := Lib.hid (HE.out.trans (if_neg hke))
        clear hke
        have i2 : IntKind.i64.wrap ((i : Int) + 2) = (i : Int) + 2 := by rw [IntKind.wrap_i64]; omega
        by_cases h1e : j1 < n
        · have d2 : decide ((n : Int) ≤ (j1 : Int)) = false := by simp; omega
          have d2' : decide (n ≤ j1) = false := by simp; omega
          have u1 := HCL.out j1 (by rw [← HN.out]; exact h1e)
          have hjl : (j1 : Int) < (n : Int) := by omega
          obtain ⟨m, hm⟩ : ∃ m, m = at8 h (i + 1) := ⟨_, rfl⟩
          have hm2 : h[j1]'(by rw [← HN.out]; exact h1e) = m := by rw [hm, ← HJ.out]; unfold at8; rw [List.getD_eq_getElem?_getD, List.getElem?_eq_getElem]; rfl
          rw [hm2] at u1
          obtain ⟨e2, he2⟩ : ∃ e, e = oend h i := ⟨_, rfl⟩
          have he2m : e2 = i + 2 + m.toNat := by rw [he2, oend, ← hm]
          rw [← he2] at HE
          have HM := Lib.hid hm.symm
          have hm8 := m.toNat_lt
          have m0 : IntKind.i64.wrap (m.toNat : Int) = (m.toNat : Int) := by rw [IntKind.wrap_i64]; omega
          have i3 : IntKind.i64.wrap ((i : Int) + 2 + (m.toNat : Int)) = (e2 : Int) := by rw [IntKind.wrap_i64]; omega
          have HE2 := Lib.hid he2m
          clear hm hm2 he2 he2m
          by_cases h2e : e2 ≤ n
          · have d3 : decide ((n : Int) < (e2 : Int)) = false := by simp; omega
            have d3' : decide (n < e2) = false := by simp; omega
            replace HE := Lib.hid (HE.out.trans (if_neg (by rw [← HN.out]; omega)))
            have hmea : n - e2 < n - i := by have := HE2.out; omega
            by_cases hk1 : k.toNat = 1
            · have hk1' : (k.toNat : Int) = 1 := by omega
              have hke : k = 1 := UInt8.toNat_inj.1 hk1
              have hoc : oc h hop mc i = 0 := by unfold oc; rw [HK.out, if_pos hke]
              have hoa : oal h hop i = false := by unfold oal; rw [HK.out, hke]; rfl
              replace HE := Lib.hid (HE.out.trans (if_pos hoc))
              rw [hoa, Bool.false_or] at HE
              clear hke hoc hoa
              go_wp2_with fail
              refine ⟨⟨e2, a, h2e, rfl, HE, OB⟩, by simp only [intOf]; exact hmea⟩
            · have hk1' : ¬ (k.toNat : Int) = 1 := by omega
              have hke : ¬ k = 1 := fun e => hk1 (by rw [e]; rfl)
              have HKE := Lib.hid hke
              clear hke
              by_cases hho : hop = true
              · subst hho
                by_cases hk5 : k.toNat = 5
                · have hk5' : (k.toNat : Int) = 5 := by omega
                  by_cases hm2 : m.toNat = 2
                  · have t2 : ((m.toNat : Int) == 2) = true := by rw [beq_iff_eq]; omega
                    have t3 : decide ((m.toNat : Int) = 2) = true := decide_eq_true (by omega)
                    have hoa : oal h true i = true := by
                      unfold oal
                      rw [HK.out, HM.out, UInt8.toNat_inj.1 (show k.toNat = (5 : UInt8).toNat from hk5), UInt8.toNat_inj.1 (show m.toNat = (2 : UInt8).toNat from hm2)]
                      rfl
                    have hoc : oc h true mc i = 0 := by unfold oc; rw [HK.out, if_neg HKE.out, if_pos hoa]
                    replace HE := Lib.hid (HE.out.trans (if_pos hoc))
                    rw [hoa, Bool.true_or] at HE
                    clear hoc hoa hm2
                    have OB2 := Lib.hid (OB.out.set true)
                    go_wp2_with fail
                    refine ⟨⟨e2, true, h2e, rfl, HE, OB2⟩, by simp only [intOf]; exact hmea⟩
                  · have hm2' : ¬ (m.toNat : Int) = 2 := by omega
                    have hoa : oal h true i = false := by
                      unfold oal
                      rw [HM.out, show (m == 2) = false by rw [beq_eq_false_iff_ne]; intro e; exact hm2 (by rw [e]; rfl)]
                      simp
                    have hoc : oc h true mc i = jc k mc := by unfold oc; rw [HK.out, if_neg HKE.out, if_neg (by rw [hoa]; decide)]
                    rw [hoc, hoa, Bool.false_or] at HE
                    clear hoc hoa
                    replace HE := Lib.hid (HE.out.trans (if_pos (by unfold jc; rw [if_pos (by omega)])))
                    go_wp2_with fail
                    refine ⟨⟨e2, a, h2e, rfl, HE, OB⟩, by simp only [intOf]; exact hmea⟩
                · have hk5' : ¬ (k.toNat : Int) = 5 := by omega
                  have hoa : oal h true i = false := by
                    unfold oal
                    rw [HK.out, show (k == 5) = false by rw [beq_eq_false_iff_ne]; intro e; exact hk5 (by rw [e]; rfl)]
                    simp
                  have hoc : oc h true mc i = jc k mc := by unfold oc; rw [HK.out, if_neg HKE.out, if_neg (by rw [hoa]; decide)]
                  rw [hoc, hoa, Bool.false_or] at HE
                  clear hoc hoa
                  by_cases hk64 : k.toNat < 64
                  · have v1 : decide ((k.toNat : Int) < 64) = true := by simp; omega
                    have v1' : decide (k.toNat < 64) = true := by simp; omega
                    replace HE := Lib.hid (HE.out.trans (if_pos (by unfold jc; rw [if_pos hk64])))
                    go_wp2_with fail
                    refine ⟨⟨e2, a, h2e, rfl, HE, OB⟩, by simp only [intOf]; exact hmea⟩
                  · have v1 : decide ((k.toNat : Int) < 64) = false := by simp; omega
                    have v1' : decide (k.toNat < 64) = false := by simp; omega
                    by_cases hk128 : k.toNat < 128
                    · have v2 : decide ((k.toNat : Int) < 128) = true := by simp; omega
                      have v2' : decide (k.toNat < 128) = true := by simp; omega
                      have hj : jc k mc = 8 := by unfold jc; rw [if_neg hk64, if_pos hk128]
                      replace HE := Lib.hid (HE.out.trans (if_neg (by rw [hj]; decide)))
                      rw [hj] at HE
                      clear hj
                      go_wp2_with fail
                      refine ret_cell (cs := tdC (tlE 8) nilV) rfl rfl rfl ?_ Try.underlying51 rfl (by kernel_rfl) ?_
                      rotate_left
                      · exact ⟨by rw [HR.out, HE.out]; rfl, (OB.out.ret (tlE 8)).1⟩
                      · exact (OB.out.ret (tlE 8)).2
                    · have v2 : decide ((k.toNat : Int) < 128) = false := by simp; omega
                      have v2' : decide (k.toNat < 128) = false := by simp; omega
                      by_cases hj8 : 192 ≤ k.toNat ∧ mc = true
                      · have v3 : decide ((192 : Int) ≤ (k.toNat : Int)) = true := by simp; omega
                        have v3' : decide (192 ≤ k.toNat) = true := by simp; omega
                        obtain ⟨_, rfl⟩ := hj8
                        have hj : jc k true = 8 := by unfold jc; rw [if_neg hk64, if_neg hk128, if_pos ⟨by omega, rfl⟩]
                        replace HE := Lib.hid (HE.out.trans (if_neg (by rw [hj]; decide)))
                        rw [hj] at HE
                        clear hj
                        go_wp2_with fail
                        refine ret_cell (cs := tdC (tlE 8) nilV) rfl rfl rfl ?_ Try.underlying51 rfl (by kernel_rfl) ?_
                        rotate_left
                        · exact ⟨by rw [HR.out, HE.out]; rfl, (OB.out.ret (tlE 8)).1⟩
                        · exact (OB.out.ret (tlE 8)).2
                      · have hj : jc k mc = 7 := by unfold jc; rw [if_neg hk64, if_neg hk128, if_neg hj8]
                        replace HE := Lib.hid (HE.out.trans (if_neg (by rw [hj]; decide)))
                        rw [hj] at HE
                        clear hj
                        obtain ⟨q, hq⟩ : ∃ q, q = p + i := ⟨_, rfl⟩
                        have w1 : IntKind.u64.wrap (i : Int) = (i : Int) := by rw [IntKind.wrap_u64]; omega
                        have w2 : IntKind.u64.wrap ((p : Int) + (i : Int)) = (q : Int) := by rw [IntKind.wrap_u64]; omega
                        have C := Lib.hid (faulty9_any 2 q a wr (by omega))
                        have HQ := Lib.hid hq
                        clear hq
                        by_cases hk192 : 192 ≤ k.toNat
                        · have v3 : decide ((192 : Int) ≤ (k.toNat : Int)) = true := by simp; omega
                          have v3' : decide (192 ≤ k.toNat) = true := by simp; omega
                          obtain rfl : mc = false := by cases mc; rfl; exact absurd ⟨hk192, rfl⟩ hj8
                          go_wp2_with fail
                          refine C.out.mono ?_
                          rintro e w2 ⟨rfl, b2⟩
                          have OB2 : Hid (Op9 w w2 a) := Lib.hid ⟨OB.out.f.trans (b2.mono OB.out.f.size), bk_keep b2 l0 OB.out.k0, bk_keep b2 l1 OB.out.k1⟩
                          clear q0 q1 l0 l1 c12 z12 C OB b2
                          have OB := OB2
                          clear OB2
                          have q0 := OB.out.k0
                          have l0 := bk_lt q0
                          go_wp2_with fail
                          rw [HQ.out]
                          refine ret_cell (cs := tdC (tlF 2 (p + i) a) nilV) rfl rfl rfl ?_ Try.underlying51 rfl (by kernel_rfl) ?_
                          rotate_left
                          · exact ⟨by rw [HR.out, HE.out]; rfl, (OB.out.ret (tlF 2 (p + i) a)).1⟩
                          · exact (OB.out.ret (tlF 2 (p + i) a)).2
                        · have v3 : decide ((192 : Int) ≤ (k.toNat : Int)) = false := by simp; omega
                          have v3' : decide (192 ≤ k.toNat) = false := by simp; omega
                          go_wp2_with fail
                          refine C.out.mono ?_
                          rintro e w2 ⟨rfl, b2⟩
                          have OB2 : Hid (Op9 w w2 a) := Lib.hid ⟨OB.out.f.trans (b2.mono OB.out.f.size), bk_keep b2 l0 OB.out.k0, bk_keep b2 l1 OB.out.k1⟩
                          clear q0 q1 l0 l1 c12 z12 C OB b2
                          have OB := OB2
                          clear OB2
                          have q0 := OB.out.k0
                          have l0 := bk_lt q0
                          go_wp2_with fail
                          rw [HQ.out]
                          refine ret_cell (cs := tdC (tlF 2 (p + i) a) nilV) rfl rfl rfl ?_ Try.underlying51 rfl (by kernel_rfl) ?_
                          rotate_left
                          · exact ⟨by rw [HR.out, HE.out]; rfl, (OB.out.ret (tlF 2 (p + i) a)).1⟩
                          · exact (OB.out.ret (tlF 2 (p + i) a)).2
              · obtain rfl : hop = false := by simpa using hho
                have hoa : oal h false i = false := by unfold oal; simp
                have hoc : oc h false mc i = jc k mc := by unfold oc; rw [HK.out, if_neg HKE.out, if_neg (by rw [hoa]; decide)]
                rw [hoc, hoa, Bool.false_or] at HE
                clear hoc hoa
                by_cases hk64 : k.toNat < 64
                · have v1 : decide ((k.toNat : Int) < 64) = true := by simp; omega
                  have v1' : decide (k.toNat < 64) = true := by simp; omega
                  replace HE := Lib.hid (HE.out.trans (if_pos (by unfold jc; rw [if_pos hk64])))
                  go_wp2_with fail
                  refine ⟨⟨e2, a, h2e, rfl, HE, OB⟩, by simp only [intOf]; exact hmea⟩
                · have v1 : decide ((k.toNat : Int) < 64) = false := by simp; omega
                  have v1' : decide (k.toNat < 64) = false := by simp; omega
                  by_cases hk128 : k.toNat < 128
                  · have v2 : decide ((k.toNat : Int) < 128) = true := by simp; omega
                    have v2' : decide (k.toNat < 128) = true := by simp; omega
                    have hj : jc k mc = 8 := by unfold jc; rw [if_neg hk64, if_pos hk128]
                    replace HE := Lib.hid (HE.out.trans (if_neg (by rw [hj]; decide)))
                    rw [hj] at HE
                    clear hj
                    go_wp2_with fail
                    refine ret_cell (cs := tdC (tlE 8) nilV) rfl rfl rfl ?_ Try.underlying51 rfl (by kernel_rfl) ?_
                    rotate_left
                    · exact ⟨by rw [HR.out, HE.out]; rfl, (OB.out.ret (tlE 8)).1⟩
                    · exact (OB.out.ret (tlE 8)).2
                  · have v2 : decide ((k.toNat : Int) < 128) = false := by simp; omega
                    have v2' : decide (k.toNat < 128) = false := by simp; omega
                    by_cases hj8 : 192 ≤ k.toNat ∧ mc = true
                    · have v3 : decide ((192 : Int) ≤ (k.toNat : Int)) = true := by simp; omega
                      have v3' : decide (192 ≤ k.toNat) = true := by simp; omega
                      obtain ⟨_, rfl⟩ := hj8
                      have hj : jc k true = 8 := by unfold jc; rw [if_neg hk64, if_neg hk128, if_pos ⟨by omega, rfl⟩]
                      replace HE := Lib.hid (HE.out.trans (if_neg (by rw [hj]; decide)))
                      rw [hj] at HE
                      clear hj
                      go_wp2_with fail
                      refine ret_cell (cs := tdC (tlE 8) nilV) rfl rfl rfl ?_ Try.underlying51 rfl (by kernel_rfl) ?_
                      rotate_left
                      · exact ⟨by rw [HR.out, HE.out]; rfl, (OB.out.ret (tlE 8)).1⟩
                      · exact (OB.out.ret (tlE 8)).2
                    · have hj : jc k mc = 7 := by unfold jc; rw [if_neg hk64, if_neg hk128, if_neg hj8]
                      replace HE := Lib.hid (HE.out.trans (if_neg (by rw [hj]; decide)))
                      rw [hj] at HE
                      clear hj
                      obtain ⟨q, hq⟩ : ∃ q, q = p + i := ⟨_, rfl⟩
                      have w1 : IntKind.u64.wrap (i : Int) = (i : Int) := by rw [IntKind.wrap_u64]; omega
                      have w2 : IntKind.u64.wrap ((p : Int) + (i : Int)) = (q : Int) := by rw [IntKind.wrap_u64]; omega
                      have C := Lib.hid (faulty9_any 2 q a wr (by omega))
                      have HQ := Lib.hid hq
                      clear hq
                      by_cases hk192 : 192 ≤ k.toNat
                      · have v3 : decide ((192 : Int) ≤ (k.toNat : Int)) = true := by simp; omega
                        have v3' : decide (192 ≤ k.toNat) = true := by simp; omega
                        obtain rfl : mc = false := by cases mc; rfl; exact absurd ⟨hk192, rfl⟩ hj8
                        go_wp2_with fail
                        refine C.out.mono ?_
                        rintro e w2 ⟨rfl, b2⟩
                        have OB2 : Hid (Op9 w w2 a) := Lib.hid ⟨OB.out.f.trans (b2.mono OB.out.f.size), bk_keep b2 l0 OB.out.k0, bk_keep b2 l1 OB.out.k1⟩
                        clear q0 q1 l0 l1 c12 z12 C OB b2
                        have OB := OB2
                        clear OB2
                        have q0 := OB.out.k0
                        have l0 := bk_lt q0
                        go_wp2_with fail
                        rw [HQ.out]
                        refine ret_cell (cs := tdC (tlF 2 (p + i) a) nilV) rfl rfl rfl ?_ Try.underlying51 rfl (by kernel_rfl) ?_
                        rotate_left
                        · exact ⟨by rw [HR.out, HE.out]; rfl, (OB.out.ret (tlF 2 (p + i) a)).1⟩
                        · exact (OB.out.ret (tlF 2 (p + i) a)).2
                      · have v3 : decide ((192 : Int) ≤ (k.toNat : Int)) = false := by simp; omega
                        have v3' : decide (192 ≤ k.toNat) = false := by simp; omega
                        go_wp2_with fail
                        refine C.out.mono ?_
                        rintro e w2 ⟨rfl, b2⟩
                        have OB2 : Hid (Op9 w w2 a) := Lib.hid ⟨OB.out.f.trans (b2.mono OB.out.f.size), bk_keep b2 l0 OB.out.k0, bk_keep b2 l1 OB.out.k1⟩
                        clear q0 q1 l0 l1 c12 z12 C OB b2
                        have OB := OB2
                        clear OB2
                        have q0 := OB.out.k0
                        have l0 := bk_lt q0
                        go_wp2_with fail
                        rw [HQ.out]
                        refine ret_cell (cs := tdC (tlF 2 (p + i) a) nilV) rfl rfl rfl ?_ Try.underlying51 rfl (by kernel_rfl) ?_
                        rotate_left
                        · exact ⟨by rw [HR.out, HE.out]; rfl, (OB.out.ret (tlF 2 (p + i) a)).1⟩
                        · exact (OB.out.ret (tlF 2 (p + i) a)).2
          · have d3 : decide ((n : Int) < (e2 : Int)) = true := by simp; omega
            have d3' : decide (n < e2) = true := by simp; omega
            replace HE := Lib.hid (HE.out.trans (if_pos (.inr (by rw [← HN.out]; omega))))
            go_wp2_with fail
            refine ret_cell (cs := tdC (tlE 4) nilV) rfl rfl rfl ?_ Try.underlying51 rfl (by kernel_rfl) ?_
            rotate_left
            · exact ⟨by rw [HR.out, HE.out]; rfl, (OB.out.ret (tlE 4)).1⟩
            · exact (OB.out.ret (tlE 4)).2
        · have d2 : decide ((n : Int) ≤ (j1 : Int)) = true := by simp; omega
          have d2' : decide (n ≤ j1) = true := by simp; omega
          replace HE := Lib.hid (HE.out.trans (if_pos (.inl (by rw [← HN.out]; have := HJ.out; omega))))
          go_wp2_with fail
          refine ret_cell (cs := tdC (tlE 4) nilV) rfl rfl rfl ?_ Try.underlying51 rfl (by kernel_rfl) ?_
          rotate_left
          · exact ⟨by rw [HR.out, HE.out]; rfl, (OB.out.ret (tlE 4)).1⟩
          · exact (OB.out.ret (tlE 4)).2
    · obtain rfl : i = n := by omega
      have d1 : decide ((i : Int) < (i : Int)) = false := by simp
      replace HE := Lib.hid (HE.out.trans (if_pos (by rw [← HN.out]; omega)))
      have q0 := OB.out.k0; have q1 := OB.out.k1; have l0 := bk_lt q0; have l1 := bk_lt q1
      have c12 := bk_cell OB.out.k1 2
      simp [tdC, tlA] at c12
      have z12 := bk_frozen OB.out.k1 2
      go_wp2_with fail
      refine ret_cell (cs := tdC (tlA a) nilV) rfl rfl rfl ?_ Try.underlying51 rfl (by kernel_rfl) ?_
      rotate_left
      · exact ⟨by rw [HR.out, HE.out]; rfl, (OB.out.ret (tlA a)).1⟩
      · exact (OB.out.ret (tlA a)).2
end Go.Proofs.Ytbfiakikhkiefaa
/- Headers: what the document's Walk hands back. -/
namespace Go.Proofs.Ytbfiakikhkiefaa
open Go.RowKit
set_option maxRecDepth 100000
set_option maxHeartbeats 1000000
def toV (t : Tl) (A : Option Addr) (c : Nat) : Value := .agg (tdC t (.slice A t.rest.length c))
/-- A row that is told, its bytes of a call's own. -/
def Made.td (m : Nat) (t : Tl) : Made m where
  T v := ∃ A c, v = toV t A c
  R v w := ∃ A c, v = toV t A c ∧ Gots t.rest m A w
  mono := fun _ _ _ hb ⟨A, c, h1, h2⟩ => ⟨A, c, h1, h2.below hb⟩
  gives := fun w hm => by
    obtain ⟨v, w', h1, ⟨A, c, rfl, _⟩, A', c', e, h3⟩ := (Made.gt m t.rest).gives w hm
    cases e
    exact ⟨toV t A c, w', h1, ⟨_, _, rfl⟩, _, _, rfl, h3⟩
theorem td_T {m : Nat} {M : Made m} {t : Tl} {v : Value} (HM : Hid (M = Made.td m t)) (h : M.T v) : ∃ A c, v = toV t A c := by
  have := HM.out
  subst this
  exact h
theorem td_R {m : Nat} {M : Made m} {t : Tl} {A : Option Addr} {c : Nat} {w : World} (HM : Hid (M = Made.td m t)) (h : M.R (toV t A c) w) : Gots t.rest m A w := by
  have := HM.out
  subst this
  obtain ⟨A', c', e, hr⟩ := h
  unfold toV tdC at e
  have e2 : Value.slice A t.rest.length c = .slice A' t.rest.length c' := by
    have := congrArg (fun v : Value => match v with | .agg cs => cs[1]? | _ => none) e
    simpa using this
  cases e2
  exact hr
theorem td_end {m : Nat} {M : Made m} {t : Tl} (HM : Hid (M = Made.td m t)) {w w' : World} {A : Option Addr} {c : Nat} (hb : Below w.heap.size w w') (h : Gots t.rest m A w') : madeEnd M w (.returned (toV t A c)) w' := by
  have := HM.out
  subst this
  exact ⟨_, rfl, hb, ⟨A, c, rfl⟩, A, c, rfl, h⟩
theorem append_gt {m : Nat} {M : Made m} {o : Oper} {a : Act} {w : World} {s x : Operand} (ho : o.op = .call { callee := .builtin .append, args := #[s, x], argTypes := #[28, 28] })
    {l : List UInt8} (HM : Hid (M = Made.gt m l)) (hs : a.eval s = .slice none 0 0) {A : Option Addr} {n c : Nat} (hx : a.eval x = .slice A n c) (hn : n = l.length) (hA : A = none → l = [] ∧ c = 0) (hr : Rd w w.heap.size A l)
    (hb : l.length < 2 ^ 47) (hbase : m ≤ w.heap.size) : madeAt Try.prog M o a w := by
  subst hn
  have := HM.out
  subst this
  obtain ⟨i0, hi, hz0, hz1, hz2⟩ := info_parts infoB
  have hown : w.ownsRow w.heap.size 5 1 (.slice none 0 0) ([] : List UInt8).length (([] : List UInt8).map B) := World.ownsRow_nil _ _ _ _
  have fin : ∀ v' w', w'.ownsRow w.heap.size 5 1 v' (0 + l.length) ([] ++ l.map B) → w.grownBy w' none → Below w.heap.size w w' ∧ (Made.gt m l).T v' ∧ (Made.gt m l).R v' w' := fun v' w' h1 h2 => by
    have h1' : w'.ownsRow w.heap.size 5 1 v' l.length (l.map B) := by simpa using h1
    obtain ⟨A', c', rfl, _, _, hle⟩ := Rd.of_own h1' rfl
    refine ⟨(Below.refl _ _).grown h2 (Nat.le_refl _) (fun k hk => by cases hk), ⟨A', c', rfl, hle⟩, A', c', rfl, ?_⟩
    exact Gots.of_own (World.ownsRow.mono h1' hbase)
  unfold madeAt execOp
  cases A with
  | none =>
    obtain ⟨rfl, rfl⟩ := hA rfl
    have hrun := run_append_owned_none (P := Try.prog) (w := w) w.heap.size 28 o.type 5 i0 1 Try.underlying28 hi (.slice none 0 0) 0 [] hown
    simp only [ho, resolve, invoke, builtin, Sem.run_bind, Sem.run_pure, Result.andThen_ok, List.map_toArray, List.map_cons, List.map_nil, hs, hx, List.length_nil, hrun]
    exact fin _ _ (by simpa using hown) ⟨rfl, rfl, rfl, Nat.le_refl _, fun _ _ _ => rfl⟩
  | some ad =>
    obtain ⟨v', w', hrun, h2, h3, _⟩ := run_append_own (P := Try.prog) w w.heap.size 28 o.type 5 i0 (.int .u8 0) 1 1 Try.underlying28 hi hz0 hz1 hz2 rfl (by decide) (.slice none 0 0) 0 [] hown ad l.length c (l.map B) (by simp) hr.news (B_one l) (by unfold maxLen; omega) (by omega) (Nat.le_refl _)
    simp only [ho, resolve, invoke, builtin, Sem.run_bind, Sem.run_pure, Result.andThen_ok, List.map_toArray, List.map_cons, List.map_nil, hs, hx, hrun]
    exact fin _ _ h2 h3
/-- Where a walk stands: its result's row, and what was given. -/
structure Rw (w wr : World) : Prop where
  f : Below w.heap.size w wr
  k : bk wr w.heap.size = some (.cells (tdC (tlA false) nilV) 51 (0, 0))
theorem Rw.next {w wr w' : World} (h : Rw w wr) (hb : Below wr.heap.size wr w') : Rw w w' := ⟨h.f.trans (hb.mono h.f.size), bk_keep hb (bk_lt h.k) h.k⟩
theorem Rw.lt {w wr : World} (h : Rw w wr) : w.heap.size < wr.heap.size := bk_lt h.k
theorem Rw.ret {w wr : World} (h : Rw w wr) (t : Tl) (v : Value) : Below w.heap.size w (wr.setRow w.heap.size (tdC t v)) ∧ (bk (wr.setRow w.heap.size (tdC t v)) w.heap.size).bind rowOf = some (tdC t v) :=
  ⟨below_setRow h.f (Nat.le_refl _) _, by rw [bk_setRow_same, h.k]; rfl⟩
theorem Rw.gots {w wr : World} (_ : Rw w wr) (c : Array Value) {d : List UInt8} {m : Nat} {A : Option Addr} (hm : w.heap.size < m) (hg : Gots d m A wr) : Gots d w.heap.size A (wr.setRow w.heap.size c) :=
  Gots.turn hg (Nat.le_of_lt hm) (by simp [World.setRow]) (fun b hb => bk_setRow_other _ _ _ _ (by omega))
theorem opr_ok (nx : UInt8) (b : List UInt8) (mc : Bool) : (opr nx b mc).1 = 0 ∨ (opr nx b mc).1 = 4 ∨ (opr nx b mc).1 = 7 ∨ (opr nx b mc).1 = 8 := by
  unfold opr opt
  exact opt_ok _ _ _ _ _ _ (by omega)
theorem optT_ok (r : Nat × Nat × Bool) (p : Nat) (h : r.1 = 0 ∨ r.1 = 4 ∨ r.1 = 7 ∨ r.1 = 8) : (optT r p).e = r.1 ∧ (r.1 = 0 → (optT r p).al = r.2.2) := by
  unfold optT
  rcases h with h | h | h | h <;> simp [h, tlA, tlE, tlF]
/-- What a walk answers where its options are wrong. -/
theorem optT_bad (r : Nat × Nat × Bool) (p : Nat) (al : Bool) (h : r.1 = 4 ∨ r.1 = 7 ∨ r.1 = 8) : (if r.1 = 7 then tlF 2 (p + r.2.1) (r.2.2 || al) else tlE r.1) = { optT r p with al := (decide (r.1 = 7)) && (al || (optT r p).al) } := by
  unfold optT
  rcases h with h | h | h <;> simp [h, tlE, tlF, Bool.or_comm]
end Go.Proofs.Ytbfiakikhkiefaa
/- Headers: the document's walk, said. -/
namespace Go.Proofs.Ytbfiakikhkiefaa
open Go.RowKit
set_option maxRecDepth 100000
set_option maxHeartbeats 4000000
@[go_sem] theorem builtFr (fo : Nat) (fm : Bool) : Try.prog.built 27 [(0, .bool true), (2, .int .u16 (fo : Int)), (3, .bool fm)] = some (fragC true 0 fo fm) := by kernel_rfl
@[go_sem ↓] theorem bfTold (dst : Option Tmp) (ps : Array (Nat × Operand)) (t : TypeId) (pos : String) (af : Array Edge) (g : Option (Nat × Bool)) (a : Act) (m : Nat) (W : World) (gs : List (Nat × (World → Prop))) [hne : Nonempty (LaterF m W gs)] (K : Act → Prop) :
    Oper.quiet Try.prog ⟨dst, .build 51 ps, t, pos, af, g⟩ a (fun w' => ∃ x : LaterF m W gs, w' = x.w) K = bldTo (quietHid0 Try.prog ⟨dst, .build 51 ps, t, pos, af, g⟩ a (fun w' => ∃ x : LaterF m W gs, w' = x.w) K) (fun c => K (a.put dst (.agg c))) (Try.prog.built 51 (ps.toList.map fun x => (x.1, a.eval x.2))) :=
  quiet_build_bk 51 dst ps t pos af g a _ (hne.elim fun x => ⟨x.w, x, rfl⟩) K
def nk19 (m z : Nat) (M : Made m) : List (Nat × Made m) := [(5, Made.val (.int .i64 (z : Int))), (9, Made.val (.int .i64 (z : Int))), (19, M)]
def nk15 (m z : Nat) (M : Made m) : List (Nat × Made m) := [(5, Made.val (.int .i64 (z : Int))), (9, Made.val (.int .i64 (z : Int))), (15, M)]
def nk10 (m _ : Nat) (M : Made m) : List (Nat × Made m) := [(10, M)]
def WalkOK (mc : Bool) (N : Nat) : Prop := ∀ (nx : UInt8) (A : Option Addr) (b : List UInt8) (c p told : Nat) (fs al : Bool) (w : World), b.length < N → Rd w w.heap.size A b → (A = none → b = [] ∧ c = 0) → b.length ≤ c → b.length < 2 ^ 30 → p + b.length < 2 ^ 40 → told < 2 ^ 40 →
    Calls Try.prog 36 #[B nx, .slice A b.length c, .int .u64 (p : Int), .int .u64 (told : Int), .bool fs, .bool mc, .bool al] w fun e w' => ∃ A' c', e = .returned (toV (chain mc nx b p told fs al) A' c') ∧
      Gots (chain mc nx b p told fs al).rest w.heap.size A' w' ∧ Below w.heap.size w w'
end Go.Proofs.Ytbfiakikhkiefaa

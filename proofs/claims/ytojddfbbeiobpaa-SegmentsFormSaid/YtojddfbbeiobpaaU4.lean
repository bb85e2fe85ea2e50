/- Checksums: with the pseudo header. -/
import Derived.Test.YtojddfbbeiobpaaU2
import Derived.Test.YtojddfbbeiobpaaU3
import Derived.Deep.RegionHeld3
namespace Go.Proofs.Ytojddfbbeiobpaa
open Go.RowKit
set_option maxRecDepth 100000
@[go_sem ↓] theorem ldAddr (dst : Option Tmp) (x : Operand) (t : TypeId) (pos : String) (af : Array Edge) (g : Option (Nat × Bool)) (a : Act) (w : World) (K : Act → World → Prop) (Q : Exit → Act → World → Prop) :
    Oper.wp Try.prog ⟨dst, .load 23 x, t, pos, af, g⟩ a w K Q = ldPtr (wpHid Try.prog ⟨dst, .load 23 x, t, pos, af, g⟩ a w K Q) 16 w (fun c => K (a.put dst (.agg c)) w) (a.eval x) :=
  wp_load_bk 23 16 _ Try.underlying23 rfl (by kernel_rfl) dst x t pos af g a w K Q
@[go_sem ↓] theorem stAddr (dst : Option Tmp) (x y : Operand) (t : TypeId) (pos : String) (af : Array Edge) (g : Option (Nat × Bool)) (a : Act) (w : World) (K : Act → World → Prop) (Q : Exit → Act → World → Prop) :
    Oper.wp Try.prog ⟨dst, .store 23 x y, t, pos, af, g⟩ a w K Q = stPtr (wpHid Try.prog ⟨dst, .store 23 x y, t, pos, af, g⟩ a w K Q) 16 w (fun w' => K (a.put dst undef) w') (a.eval x) (a.eval y) :=
  wp_store_bk 23 16 (by kernel_rfl) dst x y t pos af g a w K Q
@[go_sem ↓] theorem qlAddr (dst : Option Tmp) (x : Operand) (t : TypeId) (pos : String) (af : Array Edge) (g : Option (Nat × Bool)) (a : Act) (m : Nat) (W : World) (K : Act → Prop) :
    Oper.quiet Try.prog ⟨dst, .load 23 x, t, pos, af, g⟩ a (fun w' => ∃ x : Later m W, w' = x.w) K =
      ldLater (quietHid Try.prog ⟨dst, .load 23 x, t, pos, af, g⟩ a (fun w' => ∃ x : Later m W, w' = x.w) K) m 16 W (fun c => K (a.put dst (.agg c))) (a.eval x) :=
  quiet_load_bk 23 16 _ Try.underlying23 rfl (by kernel_rfl) dst x t pos af g a m W K
theorem Rd.of_all {w : World} {x n : Nat} {l : List UInt8} {t : TypeId} {fr : Nat × Nat} (h : bk w x = some (.cells (l.map B).toArray t fr)) (hn : x < n) : Rd w n (some ⟨x, 0, none⟩) l := fun _ => ⟨x, 0, rfl, hn, fun j hj => by
  rw [bk_cell h, Nat.zero_add]
  simp [List.getElem?_eq_getElem hj]⟩
theorem of_rows (w1 : World) (p x y u v : Nat) (src dst : List UInt8) (nx : UInt8) (A : Option Addr) (l : List UInt8) (c : Nat) (t t1 t2 t3 t4 : TypeId) (fr fr1 fr2 fr3 fr4 : Nat × Nat) (h1 : src.length = 16) (h2 : dst.length = 16) (hl : l.length < 2 ^ 32)
    (hp : bk w1 p = some (.cells #[.slice (some ⟨x, 0, none⟩) 16 16, .slice (some ⟨y, 0, none⟩) 16 16, .slice (some ⟨u, 0, none⟩) 4 4, .slice (some ⟨v, 0, none⟩) 4 4, .slice A l.length c] t fr))
    (hx : bk w1 x = some (.cells (src.map B).toArray t1 fr1)) (hy : bk w1 y = some (.cells (dst.map B).toArray t2 fr2)) (hu : bk w1 u = some (.cells ((nb 4 l.length).map B).toArray t3 fr3)) (hv : bk w1 v = some (.cells (([0, 0, 0, nx] : List UInt8).map B).toArray t4 fr4))
    (hR : Rd w1 w1.heap.size A l) :
    Calls Try.prog 43 #[.slice (some ⟨p, 0, none⟩) 5 5] w1 fun e w' => e = .returned (.int .u16 (sumOf (ovr src dst nx l) : Nat)) ∧ Below w1.heap.size w1 w' := by
  have hf : flat [(some ⟨x, 0, none⟩, src, 16), (some ⟨y, 0, none⟩, dst, 16), (some ⟨u, 0, none⟩, nb 4 l.length, 4), (some ⟨v, 0, none⟩, [0, 0, 0, nx], 4), (A, l, c)] = ovr src dst nx l := by simp [flat, ovr, List.append_assoc]
  have C := of_any p [(some ⟨x, 0, none⟩, src, 16), (some ⟨y, 0, none⟩, dst, 16), (some ⟨u, 0, none⟩, nb 4 l.length, 4), (some ⟨v, 0, none⟩, [0, 0, 0, nx], 4), (A, l, c)] t fr w1 (by rw [hp]; simp [Src.v, h1, h2, nb_length]) (fun s hs => by
    simp only [List.mem_cons, List.not_mem_nil, or_false] at hs
    rcases hs with rfl | rfl | rfl | rfl | rfl
    · exact Rd.of_all hx (bk_lt hx)
    · exact Rd.of_all hy (bk_lt hy)
    · exact Rd.of_all hu (bk_lt hu)
    · exact Rd.of_all hv (bk_lt hv)
    · exact hR) (by rw [hf, ovr_length _ _ _ _ h1 h2]; omega) (by simp)
  rw [hf] at C
  exact C
theorem nb4 (n : Nat) : nb 4 n = [UInt8.ofNat (n / 16777216), UInt8.ofNat (n / 65536), UInt8.ofNat (n / 256), UInt8.ofNat n] := by simp [nb, List.range_succ]
theorem B_ofNat' (n : Nat) : B (UInt8.ofNat n) = .int .u8 ((n : Int) % 256) := by
  unfold B
  rw [UInt8.toNat_ofNat']
  congr 1
set_option maxHeartbeats 2000000 in
theorem over_any (src dst : List UInt8) (nx : UInt8) (A : Option Addr) (l : List UInt8) (c : Nat) (w : World) (h1 : src.length = 16) (h2 : dst.length = 16) (h : Rd w w.heap.size A l) (hl : l.length < 2 ^ 32) :
    Calls Try.prog 25 #[av src, av dst, B nx, .slice A l.length c] w fun e w' => e = .returned (.int .u16 (sumOf (ovr src dst nx l) : Nat)) ∧ Below w.heap.size w w' := by
  have H := Lib.hid h
  clear h
  go_enter Try.func25, Try.ntmps25
  have a0 : Below w.heap.size w ((w.alloc (.cells (src.map B).toArray 23)).alloc (.cells (dst.map B).toArray 23)) := ((Below.refl _ _).alloc (Nat.le_refl _) _).alloc (by simp) _
  have k0 : bk ((w.alloc (.cells (src.map B).toArray 23)).alloc (.cells (dst.map B).toArray 23)) w.heap.size = some (.cells (src.map B).toArray 23 (0, 0)) := by rw [bk_alloc_past _ _ _ (by simp)]; exact bk_alloc_at _ _ _ rfl
  have k1 : bk ((w.alloc (.cells (src.map B).toArray 23)).alloc (.cells (dst.map B).toArray 23)) (w.heap.size + 1) = some (.cells (dst.map B).toArray 23 (0, 0)) := bk_alloc_at _ _ _ (by simp)
  have z0 : ((w.alloc (.cells (src.map B).toArray 23)).alloc (.cells (dst.map B).toArray 23)).heap.size = w.heap.size + 1 + 1 := by simp
  have A0 := Lib.hid a0; have K0 := Lib.hid k0; have K1 := Lib.hid k1; have Z0 := Lib.hid z0
  clear a0 k0 k1 z0
  go_wp2_with fail
  generalize (w.alloc (.cells (src.map B).toArray 23)).alloc (.cells (dst.map B).toArray 23) = wa at *
  have hca : (#[.int .u8 (IntKind.u8.wrap ((l.length : Int) / 16777216)), .int .u8 (IntKind.u8.wrap ((l.length : Int) / 65536)), .int .u8 (IntKind.u8.wrap ((l.length : Int) / 256)), .int .u8 (IntKind.u8.wrap (l.length : Int))] : Array Value) = ((nb 4 l.length).map B).toArray := by
    rw [nb4, List.map_cons, List.map_cons, List.map_cons, List.map_cons, List.map_nil, B_ofNat', B_ofNat', B_ofNat', B_ofNat', IntKind.wrap_u8, IntKind.wrap_u8, IntKind.wrap_u8, IntKind.wrap_u8]
    rfl
  have HCA := Lib.hid hca
  clear hca
  have hz := Z0.out
  have a3 : ∀ X Y Z, Below w.heap.size w (((wa.alloc X).alloc Y).alloc Z).drew := fun X Y Z => (((A0.out.alloc (by omega) _).alloc (by simp; omega) _).alloc (by simp; omega) _).drew
  have c1 : Calls Try.prog 43 #[.slice (some ⟨wa.heap.size + 1 + 1, 0, none⟩) 5 5] (((wa.alloc (.cells #[.int .u8 (IntKind.u8.wrap ((l.length : Int) / 16777216)), .int .u8 (IntKind.u8.wrap ((l.length : Int) / 65536)), .int .u8 (IntKind.u8.wrap ((l.length : Int) / 256)), .int .u8 (IntKind.u8.wrap (l.length : Int))] 5)).alloc (.cells #[.int .u8 0, .int .u8 0, .int .u8 0, B nx] 5)).alloc (.cells #[.slice (some ⟨w.heap.size, 0, none⟩) 16 16, .slice (some ⟨w.heap.size + 1, 0, none⟩) 16 16, .slice (some ⟨wa.heap.size, 0, none⟩) 4 4, .slice (some ⟨wa.heap.size + 1, 0, none⟩) 4 4, .slice A l.length c] 28)).drew fun e w' => e = .returned (.int .u16 (sumOf (ovr src dst nx l) : Nat)) ∧ Below w.heap.size w w' := by
    refine (of_rows _ (wa.heap.size + 1 + 1) w.heap.size (w.heap.size + 1) wa.heap.size (wa.heap.size + 1) src dst nx A l c _ _ _ _ _ (0, 0) (0, 0) (0, 0) (0, 0) (0, 0) h1 h2 hl (by rw [bk_drew, bk_alloc_at _ _ _ (by simp)]) (by rw [bk_drew, bk_alloc_past _ _ _ (by simp; omega), bk_alloc_past _ _ _ (by simp; omega), bk_alloc_past _ _ _ (by omega)]; exact K0.out) (by rw [bk_drew, bk_alloc_past _ _ _ (by simp; omega), bk_alloc_past _ _ _ (by simp; omega), bk_alloc_past _ _ _ (by omega)]; exact K1.out) (by rw [bk_drew, bk_alloc_past _ _ _ (by simp; omega), bk_alloc_past _ _ _ (by simp), bk_alloc_at _ _ _ rfl]; exact congrArg (fun c => some (Obj.cells c _ _)) HCA.out) (by rw [bk_drew, bk_alloc_past _ _ _ (by simp), bk_alloc_at _ _ _ (by simp)]; rfl) ((H.out.below (a3 _ _ _) (Nat.le_refl _)).mono (a3 _ _ _).size)).mono ?_
    rintro e w2 ⟨rfl, b2⟩
    exact ⟨rfl, (a3 _ _ _).trans (b2.mono (a3 _ _ _).size)⟩
  have c2 : Calls Try.prog 43 #[.slice (some ⟨wa.heap.size + 1 + 1, 0, none⟩) 5 5] (((wa.alloc (.cells #[.int .u8 0, .int .u8 0, .int .u8 0, B nx] 5)).alloc (.cells #[.int .u8 (IntKind.u8.wrap ((l.length : Int) / 16777216)), .int .u8 (IntKind.u8.wrap ((l.length : Int) / 65536)), .int .u8 (IntKind.u8.wrap ((l.length : Int) / 256)), .int .u8 (IntKind.u8.wrap (l.length : Int))] 5)).alloc (.cells #[.slice (some ⟨w.heap.size, 0, none⟩) 16 16, .slice (some ⟨w.heap.size + 1, 0, none⟩) 16 16, .slice (some ⟨wa.heap.size + 1, 0, none⟩) 4 4, .slice (some ⟨wa.heap.size, 0, none⟩) 4 4, .slice A l.length c] 28)).drew fun e w' => e = .returned (.int .u16 (sumOf (ovr src dst nx l) : Nat)) ∧ Below w.heap.size w w' := by
    refine (of_rows _ (wa.heap.size + 1 + 1) w.heap.size (w.heap.size + 1) (wa.heap.size + 1) wa.heap.size src dst nx A l c _ _ _ _ _ (0, 0) (0, 0) (0, 0) (0, 0) (0, 0) h1 h2 hl (by rw [bk_drew, bk_alloc_at _ _ _ (by simp)]) (by rw [bk_drew, bk_alloc_past _ _ _ (by simp; omega), bk_alloc_past _ _ _ (by simp; omega), bk_alloc_past _ _ _ (by omega)]; exact K0.out) (by rw [bk_drew, bk_alloc_past _ _ _ (by simp; omega), bk_alloc_past _ _ _ (by simp; omega), bk_alloc_past _ _ _ (by omega)]; exact K1.out) (by rw [bk_drew, bk_alloc_past _ _ _ (by simp), bk_alloc_at _ _ _ (by simp)]; exact congrArg (fun c => some (Obj.cells c _ _)) HCA.out) (by rw [bk_drew, bk_alloc_past _ _ _ (by simp; omega), bk_alloc_past _ _ _ (by simp), bk_alloc_at _ _ _ rfl]; rfl) ((H.out.below (a3 _ _ _) (Nat.le_refl _)).mono (a3 _ _ _).size)).mono ?_
    rintro e w2 ⟨rfl, b2⟩
    exact ⟨rfl, (a3 _ _ _).trans (b2.mono (a3 _ _ _).size)⟩
  have C1 := Lib.hid c1; have C2 := Lib.hid c2
  clear c1 c2 a3 hz
  go_region_held3 (fun _ => True) (trivial)
    (first
      | (go_at_call 43; with_reducible refine C1.out.mono ?_; rintro e w2 ⟨rfl, b2⟩; have F2 := Lib.hid b2; clear b2)
      | (go_at_call 43; with_reducible refine C2.out.mono ?_; rintro e w2 ⟨rfl, b2⟩; have F2 := Lib.hid b2; clear b2))
  all_goals
    go_wp2_with fail
    go_ret
    exact ⟨rfl, F2.out⟩
end Go.Proofs.Ytojddfbbeiobpaa

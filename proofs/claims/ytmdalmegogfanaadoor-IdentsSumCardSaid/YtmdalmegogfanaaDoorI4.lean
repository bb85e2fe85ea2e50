/- Which ids are reserved; the id of two words. -/
import Derived.Test.YtmdalmegogfanaaDoorI3
import Derived.Test.YtmdalmegogfanaaDoorS10
import Derived.Test.YtmdalmegogfanaaDoorS12
namespace Go.Proofs.YtmdalmegogfanaaDoor
open Go.RowKit
set_option maxRecDepth 100000
@[go_sem ↓] theorem ldA8 (dst : Option Tmp) (x : Operand) (t : TypeId) (pos : String) (af : Array Edge) (g : Option (Nat × Bool)) (a : Act) (w : World) (K : Act → World → Prop) (Q : Exit → Act → World → Prop) :
    Oper.wp Tryd.prog ⟨dst, .load 25 x, t, pos, af, g⟩ a w K Q = ldPtr (wpHid Tryd.prog ⟨dst, .load 25 x, t, pos, af, g⟩ a w K Q) 8 w (fun c => K (a.put dst (.agg c)) w) (a.eval x) :=
  wp_load_bk 25 8 _ Tryd.underlying25 rfl (by kernel_rfl) dst x t pos af g a w K Q
@[go_sem ↓] theorem stA8 (dst : Option Tmp) (x y : Operand) (t : TypeId) (pos : String) (af : Array Edge) (g : Option (Nat × Bool)) (a : Act) (w : World) (K : Act → World → Prop) (Q : Exit → Act → World → Prop) :
    Oper.wp Tryd.prog ⟨dst, .store 25 x y, t, pos, af, g⟩ a w K Q = stPtr (wpHid Tryd.prog ⟨dst, .store 25 x y, t, pos, af, g⟩ a w K Q) 8 w (fun w' => K (a.put dst undef) w') (a.eval x) (a.eval y) :=
  wp_store_bk 25 8 (by kernel_rfl) dst x y t pos af g a w K Q
@[go_sem ↓] theorem qlA8 (dst : Option Tmp) (x : Operand) (t : TypeId) (pos : String) (af : Array Edge) (g : Option (Nat × Bool)) (a : Act) (m : Nat) (W : World) (K : Act → Prop) :
    Oper.quiet Tryd.prog ⟨dst, .load 25 x, t, pos, af, g⟩ a (fun w' => ∃ x : Later m W, w' = x.w) K =
      ldLater (quietHid Tryd.prog ⟨dst, .load 25 x, t, pos, af, g⟩ a (fun w' => ∃ x : Later m W, w' = x.w) K) m 8 W (fun c => K (a.put dst (.agg c))) (a.eval x) :=
  quiet_load_bk 25 8 _ Tryd.underlying25 rfl (by kernel_rfl) dst x t pos af g a m W K
theorem sum_any (A : Option Addr) (b : List UInt8) (c : Nat) (w : World) (h : Rd w w.heap.size A b) (hA : A = none → b = [] ∧ c = 0) (hl : b.length < 2 ^ 30) (hg : GE w) :
    Calls Tryd.prog 12 #[.slice A b.length c] w fun e w' => e = .returned (.agg ((digest b).map B).toArray) ∧ Below w.heap.size w w' :=
  (callsIn_wide (n := 4)).1 (sum_in 4 (Nat.le_refl _) A b c w h hA hl hg)
def rsv (v : Nat) : Bool := v == 0 || (decide (18302628885633695616 ≤ v) && decide (v ≤ 18302628885633695743)) || (decide (144219641646940160 ≤ v) && decide (v ≤ 144219641646961170))
theorem reserved_any (L : List UInt8) (hL : L.length = 8) (w : World) :
    Calls Tryd.prog 9 #[.agg (L.map B).toArray] w fun e w' => e = .returned (.bool (rsv (val L))) ∧ Below w.heap.size w w' := by
  obtain ⟨v, hv⟩ : ∃ v, v = val L := ⟨_, rfl⟩
  obtain ⟨R, hR⟩ : ∃ R, R = (L.map B).toArray := ⟨_, rfl⟩
  have hRs : R.size = 8 := by rw [hR]; simp [hL]
  have HR := Lib.hid hR
  have HV := Lib.hid hv
  have d0 : ((v : Int) == 0) = (v == 0) := by cases v <;> rfl
  have d1 : decide ((18302628885633695616 : Int) ≤ (v : Int)) = decide (18302628885633695616 ≤ v) := by congr 1; simp; omega
  have d2 : decide ((v : Int) ≤ 18302628885633695743) = decide (v ≤ 18302628885633695743) := by congr 1; simp; omega
  have d3 : decide ((144219641646940160 : Int) ≤ (v : Int)) = decide (144219641646940160 ≤ v) := by congr 1; simp; omega
  have d4 : decide ((v : Int) ≤ 144219641646961170) = decide (v ≤ 144219641646961170) := by congr 1; simp; omega
  rw [← hR, ← hv]
  unfold rsv
  generalize (v == 0) = y0 at *
  generalize decide (18302628885633695616 ≤ v) = y1 at *
  generalize decide (v ≤ 18302628885633695743) = y2 at *
  generalize decide (144219641646940160 ≤ v) = y3 at *
  generalize decide (v ≤ 144219641646961170) = y4 at *
  clear hR hv
  go_enter Tryd.func9, Tryd.ntmps9
  go_wp2_with fail
  have k0 : bk (w.alloc (.cells R 25)) w.heap.size = some (.cells R 25 (0, 0)) := bk_alloc_at _ _ _ rfl
  have b0 : Below w.heap.size w (w.alloc (.cells R 25)) := (Below.refl _ _).alloc (Nat.le_refl _) _
  generalize w.alloc (.cells R 25) = w0 at *
  have l0 := bk_lt k0
  have r0 : Rd w0 w0.heap.size (some ⟨w.heap.size, 0, none⟩) L := by
    rw [HR.out] at k0
    have htk : ((L.map B).toArray).toList.take L.length = L.map B := by simp [← List.map_take]
    exact Rd.of_take k0 htk l0
  have C := of_K (some ⟨w.heap.size, 0, none⟩) L 8 w0 r0 (fun h => by cases h) (by omega)
  rw [hL] at C
  have HC := Lib.hid C
  have B0 := Lib.hid b0
  clear C b0 r0 k0
  refine HC.out.mono ?_
  rintro e w1 ⟨g, rfl, hg, hK, b1⟩
  have HK := Lib.hid hK
  have B1 := Lib.hid (B0.out.trans (b1.mono B0.out.size))
  have G1 := Lib.hid (Nat.le_trans B0.out.size hg)
  clear hK b1 hg HC
  go_wp2_with fail
  have C := num_K g L 8 w1 HK.out (by omega) (by omega) (by omega)
  rw [List.take_of_length_le (by omega), ← HV.out] at C
  refine C.mono ?_
  rintro e w2 ⟨rfl, _, ho⟩
  have B2 : Hid (Below w.heap.size w w2) := Lib.hid (B1.out.trans (ho.below G1.out))
  clear ho C
  cases y0
  · cases y1
    · cases y3
      · go_wp2_with fail
        go_ret
        exact ⟨rfl, B2.out⟩
      · cases y4 <;>
        · go_wp2_with fail
          go_ret
          exact ⟨rfl, B2.out⟩
    · cases y2
      · cases y3
        · go_wp2_with fail
          go_ret
          exact ⟨rfl, B2.out⟩
        · cases y4 <;>
          · go_wp2_with fail
            go_ret
            exact ⟨rfl, B2.out⟩
      · go_wp2_with fail
        go_ret
        exact ⟨rfl, B2.out⟩
  · go_wp2_with fail
    go_ret
    exact ⟨rfl, B2.out⟩
end Go.Proofs.YtmdalmegogfanaaDoor

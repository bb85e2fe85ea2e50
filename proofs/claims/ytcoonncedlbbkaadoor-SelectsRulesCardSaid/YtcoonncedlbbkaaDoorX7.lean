/- Selects: Better. -/
import Derived.Test.YtcoonncedlbbkaaDoorX6
import Derived.Test.YtcoonncedlbbkaaDoorL3
namespace Go.Proofs.YtcoonncedlbbkaaDoor
open Go.RowKit Ad
set_option maxRecDepth 100000
set_option maxHeartbeats 1000000
@[go_sem ↓] theorem qfAddr (dst : Option Tmp) (x : Operand) (t : TypeId) (pos : String) (af : Array Edge) (g : Option (Nat × Bool)) (a : Act) (m : Nat) (W : World) (gs : List (Nat × (World → Prop))) [Nonempty (LaterF m W gs)] (K : Act → Prop) :
    Oper.quiet Tryd.prog ⟨dst, .load 23 x, t, pos, af, g⟩ a (fun w' => ∃ x : LaterF m W gs, w' = x.w) K =
      ldF (quietHid Tryd.prog ⟨dst, .load 23 x, t, pos, af, g⟩ a (fun w' => ∃ x : LaterF m W gs, w' = x.w) K) gs m 16 W (fun c => K (a.put dst (.agg c))) (a.eval x) :=
  quiet_load_F 23 16 _ Tryd.underlying23 rfl (by kernel_rfl) dst x t pos af g a m W gs K
@[go_sem ↓] theorem qfCd (dst : Option Tmp) (x : Operand) (t : TypeId) (pos : String) (af : Array Edge) (g : Option (Nat × Bool)) (a : Act) (m : Nat) (W : World) (gs : List (Nat × (World → Prop))) [Nonempty (LaterF m W gs)] (K : Act → Prop) :
    Oper.quiet Tryd.prog ⟨dst, .load 33 x, t, pos, af, g⟩ a (fun w' => ∃ x : LaterF m W gs, w' = x.w) K =
      ldF (quietHid Tryd.prog ⟨dst, .load 33 x, t, pos, af, g⟩ a (fun w' => ∃ x : LaterF m W gs, w' = x.w) K) gs m 18 W (fun c => K (a.put dst (.agg c))) (a.eval x) :=
  quiet_load_F 33 18 _ Tryd.underlying33 rfl (by kernel_rfl) dst x t pos af g a m W gs K
/-- Rules of a new book. -/
def MRu (m : Nat) (hm : 0 < m) : Made m where
  T v := ∃ rs, v = .slice (some ⟨rs, 0, none⟩) 6 6
  R v w := ∃ g kb rs, v = .slice (some ⟨rs, 0, none⟩) 6 6 ∧ m ≤ g ∧ Bs g kb rs w
  mono := fun _ _ _ hb ⟨g, kb, rs, h1, h2, h3⟩ => ⟨g, kb, rs, h1, h2, h3.below hb (Nat.le_refl _)⟩
  gives := fun w hw => by
    refine ⟨.slice (some ⟨w.heap.size + 2, 0, none⟩) 6 6, ((w.alloc (.cells (Bc 0 0 (.slice none 0 0)) 59)).alloc (.cells #[.pointer (some ⟨w.heap.size, 0, none⟩)] 44)).alloc (.cells (ruC (w.heap.size + 1)) 73), ?_, ⟨_, rfl⟩, w.heap.size, w.heap.size + 1, w.heap.size + 2, rfl, hw, ?_⟩
    ·
      (repeat (first | exact Below.refl _ _ | assumption | refine Below.drew ?_ | refine bdrewN ?_ _ | refine Below.alloc ?_ (by first | omega | (simp <;> omega) | (simp only [World.size_alloc] <;> omega)) _ | refine below_setRow ?_ (by first | omega | (simp <;> omega)) _ | refine Below.setCell ?_ (by first | omega | (simp <;> omega)) _))
    · refine ⟨.inl ⟨by omega, ?_⟩, ?_, ?_, by omega, by omega⟩
      · exact (bk_alloc_past _ _ _ (by simp; omega)).trans ((bk_alloc_past _ _ _ (by simp)).trans (bk_alloc_at _ _ _ rfl))
      · exact (bk_alloc_past _ _ _ (by simp)).trans (bk_alloc_at _ _ _ (by simp))
      · exact bk_alloc_at _ _ _ (by simp)
theorem row_box {m : Nat} {M : Made m} {f : Nat → Value} {r : Obj} (HM : Hid (M = Made.row m f r)) {w : World} (hm : m ≤ w.heap.size) : Below w.heap.size w (w.alloc r) ∧ M.T (f w.heap.size) ∧ M.R (f w.heap.size) (w.alloc r) := by
  have HM := HM.out
  subst HM
  exact ⟨(Below.refl _ _).alloc (Nat.le_refl _) _, ⟨_, hm, rfl⟩, _, hm, rfl, by simp [World.size_alloc], bk_alloc_at _ _ _ rfl⟩
theorem mru_end {m : Nat} (hm : 0 < m) {M : Made m} (HM : Hid (M = MRu m hm)) (b : Nat) (hb : m ≤ b) (w : World) (h : bk w b = some (.cells (Bc 0 0 (.slice none 0 0)) 59 (0, 0))) :
    Calls Tryd.prog 15 #[.pointer (some ⟨b, 0, none⟩)] w (madeEnd M w) := by
  have HM := HM.out
  subst HM
  refine (rules_any b w).mono ?_
  rintro e w2 ⟨rfl, h1, h2, h3⟩
  have hl := bk_lt h
  exact ⟨_, rfl, h3, ⟨_, rfl⟩, b, w.heap.size, w.heap.size + 1, rfl, hb, .inl ⟨by omega, bk_keep h3 hl h⟩, h1, h2, by omega, by omega⟩
theorem mru_at {m : Nat} (hm : 0 < m) {M : Made m} (HM : Hid (M = MRu m hm)) {v : Value} (h : M.T v) : ∃ rs, v = .slice (some ⟨rs, 0, none⟩) 6 6 ∧ ∀ w, M.R v w → ∃ g kb, m ≤ g ∧ Bs g kb rs w := by
  have HM := HM.out
  subst HM
  obtain ⟨rs, rfl⟩ := h
  refine ⟨rs, rfl, fun w hw => ?_⟩
  obtain ⟨g, kb, rs', h1, h2, h3⟩ := hw
  cases h1
  exact ⟨g, kb, h2, h3⟩
theorem sbetter_any (dst : List UInt8) (hd : dst.length = 16) (a b : Cd) (w : World) (hk : GK w) :
    Calls Tryd.prog 12 #[av dst, .agg a.row, .agg b.row] w fun e w' => e = .returned (.bool (better dst a b)) ∧ Below w.heap.size w w' := by
  have hw0 : 0 < w.heap.size := by obtain ⟨c, t, fr, h1, _⟩ := hk; exact bk_lt h1
  have ba : Below w.heap.size w (B3 w dst a b) := by
    unfold B3
    (repeat (first | exact Below.refl _ _ | assumption | refine Below.drew ?_ | refine bdrewN ?_ _ | refine Below.alloc ?_ (by first | omega | (simp <;> omega) | (simp only [World.size_alloc] <;> omega)) _ | refine below_setRow ?_ (by first | omega | (simp <;> omega)) _ | refine Below.setCell ?_ (by first | omega | (simp <;> omega)) _))
  have k0 : bk (B3 w dst a b) w.heap.size = some (.cells (List.map B dst).toArray 23 (0, 0)) := (bk_alloc_past _ _ _ (by simp; omega)).trans ((bk_alloc_past _ _ _ (by simp)).trans (bk_alloc_at _ _ _ rfl))
  have k1 : bk (B3 w dst a b) (w.heap.size + 1) = some (.cells a.row 33 (0, 0)) := (bk_alloc_past _ _ _ (by simp)).trans (bk_alloc_at _ _ _ (by simp))
  have k2 : bk (B3 w dst a b) (w.heap.size + 2) = some (.cells b.row 33 (0, 0)) := bk_alloc_at _ _ _ (by simp)
  have sz : (B3 w dst a b).heap.size = w.heap.size + 3 := by simp
  have HS := Lib.hid (And.intro ba (And.intro (hk.below ba hw0) sz))
  go_enter Tryd.func12, Tryd.ntmps12
  go_upto_region 1 with fail
  change Code.wp _ _ _ _ (B3 w dst a b)
  generalize B3 w dst a b = w1 at *
  obtain ⟨m, hm⟩ : ∃ m, m = w.heap.size + 3 := ⟨_, rfl⟩
  have hm0 : 0 < m := by omega
  rw [← hm] at sz
  have l0 : w.heap.size < m := by omega
  have l1 : w.heap.size + 1 < m := by omega
  have l2 : w.heap.size + 2 < m := by omega
  obtain ⟨M, hM⟩ : ∃ M : Made m, M = Made.row m (fun b => .pointer (some ⟨b, 0, none⟩)) (.cells (Bc 0 0 (.slice none 0 0)) 59 (0, 0)) := ⟨_, rfl⟩
  obtain ⟨M2, hM2⟩ : ∃ M : Made m, M = MRu m hm0 := ⟨_, rfl⟩
  have HM := Lib.hid hM; have HM2 := Lib.hid hM2
  clear hM hM2 ba hk
  refine wp_region_made_tail m 6 (fun k => ([(1, M), (2, M2)] : List (Nat × Made m)).lookup k) (by omega) (by kernel_rfl) (by kernel_rfl) ?_
  simp only [List.take_succ_cons, List.take_zero, List.drop_succ_cons, List.drop_zero]
  refine walk_segn 1 ([]) facts0 (by kernel_rfl) (by kernel_rfl) ?_
  simp only [List.take_succ_cons, List.take_zero, List.drop_succ_cons, List.drop_zero, Nat.reduceAdd]
  repeat (go_big_quiet_step (fail))
  (first | refine wpQuiet_nil ?_ | (go_big_quiet_want; (try go_big_quiet_op); trace_state; fail))
  refine walk_mkop M ([]) facts0 (by kernel_rfl) (by kernel_rfl) (by kernel_rfl) (fun w' hb' hg' => ?_) (fun v _ hAt => ?_)
  · unfold madeAt
    go_simp
    ((exact row_box HM (by have := hb'.size; omega)))
  obtain ⟨b1, hmb1, rfl, hnb1, hib1, rb⟩ := made_at HM (by intro b b' h; simpa using h) 1 hAt
  clear hAt
  simp only [Act.put, List.setIfInBounds_toArray, List.set_cons_succ, List.set_cons_zero, Nat.reduceAdd]
  refine walk_mkop M2 [(1, M.R (.pointer (some ⟨b1, 0, none⟩)))] (facts1 fun w h => h.1 rfl) (by kernel_rfl) (by kernel_rfl) (by kernel_rfl) (fun w' hb' hg' => ?_) (fun v hT hAt => ?_)
  · unfold madeAt
    go_simp
    exact mru_end hm0 HM2 b1 hmb1 w' (rb w' (hg' _ (List.mem_singleton.2 rfl)))
  obtain ⟨rs, rfl, hrs⟩ := mru_at hm0 HM2 hT
  clear hAt hT
  simp only [Act.put, List.setIfInBounds_toArray, List.set_cons_succ, List.set_cons_zero, Nat.reduceAdd]
  refine walk_segn 3 ([]) facts0 (by kernel_rfl) (by kernel_rfl) ?_
  simp only [List.take_succ_cons, List.take_zero, List.drop_succ_cons, List.drop_zero, Nat.reduceAdd]
  repeat (go_big_quiet_step (fail))
  (first | refine wpQuiet_nil ?_ | (go_big_quiet_want; (try go_big_quiet_op); trace_state; fail))
  refine walk_nil ?_
  intro w3 hb3 hf
  obtain ⟨g, kb, hg, hS⟩ := hrs w3 ((hf 2).1 rfl)
  have n3 := hb3.size
  have hk3 : GK w3 := HS.out.2.1.below hb3 (by omega)
  have C := Lib.hid (better_any g kb rs dst hd a b w3 hk3 hS)
  have B3' := Lib.hid (HS.out.1.trans (hb3.mono (by omega)))
  clear hf hrs hk3 hS hb3
  go_wp2_with fail
  refine C.out.mono ?_
  rintro e w4 ⟨rfl, _, h4⟩
  have B4 := Lib.hid (B3'.out.trans (h4.below (n := w.heap.size) (by omega) (by omega)))
  clear h4 C
  go_wp2_with fail
  go_ret
  exact ⟨rfl, B4.out⟩
end Go.Proofs.YtcoonncedlbbkaaDoor

/- Infos: what a reply is told by. -/
import Derived.Test.YtfldoihindbdmaaMgG
import Derived.Test.YtfldoihindbdmaaShelf
import Derived.Deep.DeepCutAuto
namespace Go.Proofs.Ytfldoihindbdmaa
open Go.RowKit
set_option maxRecDepth 100000
set_option maxHeartbeats 1000000
@[go_sem ↓] theorem ldAp (dst : Option Tmp) (x : Operand) (t : TypeId) (pos : String) (af : Array Edge) (g : Option (Nat × Bool)) (a : Act) (w : World) (K : Act → World → Prop) (Q : Exit → Act → World → Prop) :
    Oper.wp Try.prog ⟨dst, .load 36 x, t, pos, af, g⟩ a w K Q = ldPtr (wpHid Try.prog ⟨dst, .load 36 x, t, pos, af, g⟩ a w K Q) 3 w (fun c => K (a.put dst (.agg c)) w) (a.eval x) :=
  wp_load_bk 36 3 _ Try.underlying36 rfl (by kernel_rfl) dst x t pos af g a w K Q
@[go_sem ↓] theorem stAp (dst : Option Tmp) (x y : Operand) (t : TypeId) (pos : String) (af : Array Edge) (g : Option (Nat × Bool)) (a : Act) (w : World) (K : Act → World → Prop) (Q : Exit → Act → World → Prop) :
    Oper.wp Try.prog ⟨dst, .store 36 x y, t, pos, af, g⟩ a w K Q = stPtr (wpHid Try.prog ⟨dst, .store 36 x y, t, pos, af, g⟩ a w K Q) 3 w (fun w' => K (a.put dst undef) w') (a.eval x) (a.eval y) :=
  wp_store_bk 36 3 (by kernel_rfl) dst x y t pos af g a w K Q
@[go_sem ↓] theorem qlAp (dst : Option Tmp) (x : Operand) (t : TypeId) (pos : String) (af : Array Edge) (g : Option (Nat × Bool)) (a : Act) (m : Nat) (W : World) (K : Act → Prop) :
    Oper.quiet Try.prog ⟨dst, .load 36 x, t, pos, af, g⟩ a (fun w' => ∃ x : Later m W, w' = x.w) K =
      ldLater (quietHid Try.prog ⟨dst, .load 36 x, t, pos, af, g⟩ a (fun w' => ∃ x : Later m W, w' = x.w) K) m 3 W (fun c => K (a.put dst (.agg c))) (a.eval x) :=
  quiet_load_bk 36 3 _ Try.underlying36 rfl (by kernel_rfl) dst x t pos af g a m W K
@[go_sem] theorem builtAns0 : Try.prog.built 36 [] = some (ansC 0) := by kernel_rfl
@[go_sem ↓] theorem bwAn0 (dst : Option Tmp) (ps : Array (Nat × Operand)) (t : TypeId) (pos : String) (af : Array Edge) (g : Option (Nat × Bool)) (a : Act) (w : World) (K : Act → World → Prop) (Q : Exit → Act → World → Prop) :
    Oper.wp Try.prog ⟨dst, .build 36 ps, t, pos, af, g⟩ a w K Q = bldTo (wpHid Try.prog ⟨dst, .build 36 ps, t, pos, af, g⟩ a w K Q) (fun c => K (a.put dst (.agg c)) w) (Try.prog.built 36 (ps.toList.map fun x => (x.1, a.eval x.2))) :=
  wp_build_bk 36 dst ps t pos af g a w K Q
@[go_sem ↓] theorem bqAn0 (dst : Option Tmp) (ps : Array (Nat × Operand)) (t : TypeId) (pos : String) (af : Array Edge) (g : Option (Nat × Bool)) (a : Act) (m : Nat) (W : World) (K : Act → Prop) :
    Oper.quiet Try.prog ⟨dst, .build 36 ps, t, pos, af, g⟩ a (fun w' => ∃ x : Later m W, w' = x.w) K = bldTo (quietHid0 Try.prog ⟨dst, .build 36 ps, t, pos, af, g⟩ a (fun w' => ∃ x : Later m W, w' = x.w) K) (fun c => K (a.put dst (.agg c))) (Try.prog.built 36 (ps.toList.map fun x => (x.1, a.eval x.2))) :=
  quiet_build_bk 36 dst ps t pos af g a _ ⟨W, ⟨W, Below.refl _ _⟩, rfl⟩ K
theorem bytesOf_ints (l : List UInt8) : Lib.bytesOf (l.map fun b => (b.toNat : Int)) = l := by
  unfold Lib.bytesOf
  rw [List.map_map]
  conv => rhs; rw [← List.map_id l]
  refine List.map_congr_left fun b _ => ?_
  simp
theorem Rd.bytesIn {w : World} {n : Nat} {A : Option Addr} {l : List UInt8} (h : Rd w n A l) : Lib.BytesIn w A l.length (l.map fun b => (b.toNat : Int)) := by
  intro h0
  obtain ⟨b, o, e, _, hc⟩ := h h0
  refine ⟨b, o, e, fun i hi => ?_⟩
  rw [hc i hi]
  simp [B, List.getD, hi]
theorem prefix_any (A1 A2 : Option Addr) (l h : List UInt8) (c d : Nat) (w : World) (n1 n2 : Nat) (h1 : Rd w n1 A1 l) (h2 : Rd w n2 A2 h) (hc : l.length ≤ c) :
    Calls Try.prog 26 #[.slice A1 l.length c, .slice A2 h.length d] w fun e w' => e = .returned (.bool (h.isPrefixOf l)) ∧ w' = w := by
  have C := Try.bytes_HasPrefix_all A1 A2 l.length c h.length d (l.map fun b => (b.toNat : Int)) (h.map fun b => (b.toNat : Int)) w (by simp) (by simp) hc h1.bytesIn h2.bytesIn
  rw [bytesOf_ints, bytesOf_ints] at C
  exact C
/-- A row and a value are returned. -/
theorem ret_two {P : Program} {fn : Func} {R : Ending → World → Prop} {a : Act} {w : World} {p u : Tmp} {ty : TypeId} {g : Nat} {cs : Array Value} {d : TypeDesc} {y : Value}
    (h : fn.results = #[.cell p ty, .tmp u]) (hd' : a.defers = []) (hp : a.tmps.getD p undef = .pointer (some ⟨g, 0, none⟩)) (hy : a.tmps.getD u undef = y) (hg : (bk w g).bind rowOf = some cs)
    (hu : P.underlying ty = some d) (hd : d.isRow = true) (hi : (P.info? ty).map (·.size) = some cs.size) (hR : R (.returned (.tuple #[.agg cs, y])) w) : bodyPost P fn R .ret a w := by
  cases hb : bk w g with
  | none => rw [hb] at hg; simp at hg
  | some o =>
    rw [hb] at hg
    cases o with
    | cells c t fr =>
      simp [rowOf] at hg
      subst hg
      refine bodyPost_ret ?_ hd' hR
      rw [results_cell_tmp h, hp, hy]
      simp [asAddr, Result.andThen, run_loadVar_row w g t ty c fr d hb hu (by cases d <;> simp_all) hi]
    | _ => simp [rowOf] at hg
def headB (c : Cl) : List UInt8 := [7] ++ nb 3 c.id
theorem headB_len (c : Cl) : (headB c).length = 4 := by unfold headB; rw [List.length_append, nb_length]; rfl
theorem Tn.setRow {F : Nat → Prop} {w w' : World} {m : Nat} {c : Array Value} (h : Tn F w w') (hm : w.heap.size ≤ m) : Tn F w (w'.setRow m c) :=
  ⟨h.os, h.tape, h.output, by simpa [World.setRow] using h.size, fun k hk hn => (bk_setRow_other _ _ _ _ (by omega)).trans (h.old k hk hn)⟩
theorem reply_idle (x : Nat) (c : Cl) (now : Nat) (A : Option Addr) (b : List UInt8) (cb : Nat) (w : World) (h : ClB w x c) (hr : Rd w w.heap.size A b) (hn : now ≤ far) (hno : c.asks = false) :
    Calls Try.prog 9 #[.pointer (some ⟨x, 0, none⟩), .int .u64 (now : Int), .slice A b.length cb] w fun e w' => e = .returned (.tuple #[.agg (ansC 0), .bool false]) ∧ ClB w' x (c.goes now) ∧ Tn (fun j => j = x) w w' := by
  have HNO := Lib.hid hno
  clear hno
  have C := Lib.hid (there_any x c (w.alloc (.cells (ansC 0) 36)) (h.below ((Below.refl _ _).alloc (Nat.le_refl _) _)))
  have CG := Lib.hid (goes_any x c now (w.alloc (.cells (ansC 0) 36)) (h.below ((Below.refl _ _).alloc (Nat.le_refl _) _)) hn)
  have HC := Lib.hid h
  have HR := Lib.hid hr
  have hxl := bk_lt h.box
  have HI24 := Lib.hid h.i24
  have HKR := Lib.hid (bk_alloc_at w (.cells (ansC 0) 36) _ rfl)
  have B0 : Hid (Below w.heap.size w (w.alloc (.cells (ansC 0) 36))) := Lib.hid ((Below.refl _ _).alloc (Nat.le_refl _) _)
  clear h hr hn
  go_enter Try.func9, Try.ntmps9
  go_wp2_with fail
  refine C.out.mono ?_
  rintro e w1 ⟨rfl, rfl⟩
  go_wp2_with fail
  refine CG.out.mono ?_
  rintro e w2 ⟨rfl, h2, t2⟩
  obtain ⟨T, hT⟩ : ∃ T, T = max c.tm now := ⟨_, rfl⟩
  rw [← hT] at h2 ⊢
  have HT := Lib.hid hT
  have H2 := Lib.hid h2
  have T2 := Lib.hid ((Tn.of B0.out (F := fun j => j = x)).trans t2 fun j hj => .inl hj)
  have K2 := Lib.hid (t2.keep (Nat.ne_of_gt hxl) HKR.out)
  have c11 := bk_cell h2.box 11
  simp [clC] at c11
  have lx2 := bk_lt h2.box
  have hid := HI24.out
  have R2 : Hid (Rd (w2.alloc (.cells #[.int .u8 7] 5)) (w2.alloc (.cells #[.int .u8 7] 5)).heap.size (some ⟨w2.heap.size, 0, none⟩) [7]) := Lib.hid (Rd.lit w2 [7] 5)
  have CP : Hid (Calls Try.prog 25 #[.slice (some ⟨w2.heap.size, 0, none⟩) 1 1, .int .u64 (c.id : Int), .int .i64 3] (w2.alloc (.cells #[.int .u8 7] 5)) fun e w' => ∃ g, e = .returned (.slice (some ⟨g, 0, none⟩) 4 4) ∧ (w2.alloc (.cells #[.int .u8 7] 5)).heap.size ≤ g ∧ Rd w' w'.heap.size (some ⟨g, 0, none⟩) (headB c) ∧ Below (w2.alloc (.cells #[.int .u8 7] 5)).heap.size (w2.alloc (.cells #[.int .u8 7] 5)) w') := Lib.hid (by
    have C := put_own (some ⟨w2.heap.size, 0, none⟩) [7] 1 c.id 3 3 (headB c) (w2.alloc (.cells #[.int .u8 7] 5)) R2.out (fun h => by cases h) (by decide) (by omega) (by decide) rfl rfl
    rw [headB_len] at C
    exact C)
  have b3 : Below w2.heap.size w2 (w2.alloc (.cells #[.int .u8 7] 5)) := (by (repeat (first | exact Below.refl _ _ | assumption | refine Below.drew ?_ | refine bdrewN ?_ _ | refine Below.alloc ?_ (by first | omega | (simp <;> omega) | (simp only [World.size_alloc] <;> omega)) _ | refine below_setRow ?_ (by first | omega | (simp <;> omega)) _ | refine Below.setCell ?_ (by first | omega | (simp <;> omega)) _)))
  have B3 := Lib.hid b3
  clear h2 t2 b3 CG C HKR B0 hT R2
  go_wp2_with fail
  refine CP.out.mono ?_
  rintro e w4 ⟨gh, rfl, _, r4, b4⟩
  have B24 := B3.out.trans (b4.mono B3.out.size)
  have H4 := Lib.hid (H2.out.below B24)
  have K4 := Lib.hid (bk_keep B24 (bk_lt K2.out) K2.out)
  have T4 := Lib.hid (T2.out.trans (Tn.of B24) (G := fun _ => False) fun j hj => hj.elim)
  have RH := Lib.hid r4
  have c7 := bk_cell H4.out.box 7
  simp [clC] at c7
  have lx4 := bk_lt H4.out.box
  clear c11 lx2 hid B24 b4 r4 H2 K2 T2 B3 CP
  rw [HNO.out] at c7
  have k4 := K4.out
  have os1 := ansC_ones 0
  have os2 := ansC_size 0
  have lr := bk_lt k4
  go_wp2_with fail
  have F9 : Hid (ClB ((w4).setRow w.heap.size (ansC 0)) x (c.goes now) ∧ Tn (fun j => j = x) w ((w4).setRow w.heap.size (ansC 0))) := Lib.hid ⟨⟨(bk_setRow_other _ _ _ _ (Nat.ne_of_lt hxl)).trans (by have := (H4).out.box; rw [HT.out] at this; exact this), (H4).out.n64, by have := (H4).out.t64; rw [HT.out] at this; exact this, (H4).out.i24, (H4).out.s64, (H4).out.w22⟩, (T4).out.setRow (Nat.le_refl _)⟩
  exact ret_two rfl rfl rfl rfl (by rw [bk_setRow_same, k4]; rfl) Try.underlying36 rfl (by rw [ansC_size]; kernel_rfl) ⟨rfl, F9.out⟩
theorem reply_other (x : Nat) (c : Cl) (now : Nat) (A : Option Addr) (b : List UInt8) (cb : Nat) (w : World) (h : ClB w x c) (hr : Rd w w.heap.size A b) (hn : now ≤ far) (hcb : b.length ≤ cb) (hbx : ∀ bb o, A = some ⟨bb, o, none⟩ → bb ≠ x) (hno : c.asks = true) (hpf : (headB c).isPrefixOf b = false) :
    Calls Try.prog 9 #[.pointer (some ⟨x, 0, none⟩), .int .u64 (now : Int), .slice A b.length cb] w fun e w' => e = .returned (.tuple #[.agg (ansC 0), .bool false]) ∧ ClB w' x (c.goes now) ∧ Tn (fun j => j = x) w w' := by
  have HNO := Lib.hid (And.intro hno (And.intro hpf hcb))
  have HBX := Lib.hid hbx
  clear hno hpf hcb hbx
  have C := Lib.hid (there_any x c (w.alloc (.cells (ansC 0) 36)) (h.below ((Below.refl _ _).alloc (Nat.le_refl _) _)))
  have CG := Lib.hid (goes_any x c now (w.alloc (.cells (ansC 0) 36)) (h.below ((Below.refl _ _).alloc (Nat.le_refl _) _)) hn)
  have HC := Lib.hid h
  have HR := Lib.hid hr
  have hxl := bk_lt h.box
  have HI24 := Lib.hid h.i24
  have HKR := Lib.hid (bk_alloc_at w (.cells (ansC 0) 36) _ rfl)
  have B0 : Hid (Below w.heap.size w (w.alloc (.cells (ansC 0) 36))) := Lib.hid ((Below.refl _ _).alloc (Nat.le_refl _) _)
  clear h hr hn
  go_enter Try.func9, Try.ntmps9
  go_wp2_with fail
  refine C.out.mono ?_
  rintro e w1 ⟨rfl, rfl⟩
  go_wp2_with fail
  refine CG.out.mono ?_
  rintro e w2 ⟨rfl, h2, t2⟩
  obtain ⟨T, hT⟩ : ∃ T, T = max c.tm now := ⟨_, rfl⟩
  rw [← hT] at h2 ⊢
  have HT := Lib.hid hT
  have H2 := Lib.hid h2
  have T2 := Lib.hid ((Tn.of B0.out (F := fun j => j = x)).trans t2 fun j hj => .inl hj)
  have K2 := Lib.hid (t2.keep (Nat.ne_of_gt hxl) HKR.out)
  have c11 := bk_cell h2.box 11
  simp [clC] at c11
  have lx2 := bk_lt h2.box
  have hid := HI24.out
  have R2 : Hid (Rd (w2.alloc (.cells #[.int .u8 7] 5)) (w2.alloc (.cells #[.int .u8 7] 5)).heap.size (some ⟨w2.heap.size, 0, none⟩) [7]) := Lib.hid (Rd.lit w2 [7] 5)
  have CP : Hid (Calls Try.prog 25 #[.slice (some ⟨w2.heap.size, 0, none⟩) 1 1, .int .u64 (c.id : Int), .int .i64 3] (w2.alloc (.cells #[.int .u8 7] 5)) fun e w' => ∃ g, e = .returned (.slice (some ⟨g, 0, none⟩) 4 4) ∧ (w2.alloc (.cells #[.int .u8 7] 5)).heap.size ≤ g ∧ Rd w' w'.heap.size (some ⟨g, 0, none⟩) (headB c) ∧ Below (w2.alloc (.cells #[.int .u8 7] 5)).heap.size (w2.alloc (.cells #[.int .u8 7] 5)) w') := Lib.hid (by
    have C := put_own (some ⟨w2.heap.size, 0, none⟩) [7] 1 c.id 3 3 (headB c) (w2.alloc (.cells #[.int .u8 7] 5)) R2.out (fun h => by cases h) (by decide) (by omega) (by decide) rfl rfl
    rw [headB_len] at C
    exact C)
  have b3 : Below w2.heap.size w2 (w2.alloc (.cells #[.int .u8 7] 5)) := (by (repeat (first | exact Below.refl _ _ | assumption | refine Below.drew ?_ | refine bdrewN ?_ _ | refine Below.alloc ?_ (by first | omega | (simp <;> omega) | (simp only [World.size_alloc] <;> omega)) _ | refine below_setRow ?_ (by first | omega | (simp <;> omega)) _ | refine Below.setCell ?_ (by first | omega | (simp <;> omega)) _)))
  have B3 := Lib.hid b3
  clear h2 t2 b3 CG C HKR B0 hT R2
  go_wp2_with fail
  refine CP.out.mono ?_
  rintro e w4 ⟨gh, rfl, _, r4, b4⟩
  have B24 := B3.out.trans (b4.mono B3.out.size)
  have H4 := Lib.hid (H2.out.below B24)
  have K4 := Lib.hid (bk_keep B24 (bk_lt K2.out) K2.out)
  have T4 := Lib.hid (T2.out.trans (Tn.of B24) (G := fun _ => False) fun j hj => hj.elim)
  have RH := Lib.hid r4
  have c7 := bk_cell H4.out.box 7
  simp [clC] at c7
  have lx4 := bk_lt H4.out.box
  clear c11 lx2 hid B24 b4 r4 H2 K2 T2 B3 CP
  rw [HNO.out.1] at c7
  have CX : Hid (Calls Try.prog 26 #[.slice A b.length cb, .slice (some ⟨gh, 0, none⟩) 4 4] w4 fun e w' => e = .returned (.bool false) ∧ w' = w4) := Lib.hid (by
    have C := prefix_any A (some ⟨gh, 0, none⟩) b (headB c) cb 4 w4 _ _ (rd_turn HR.out T4.out HBX.out) RH.out HNO.out.2.2
    rw [headB_len, HNO.out.2.1] at C
    exact C)
  go_wp2_with fail
  refine CX.out.mono ?_
  rintro e w5 ⟨rfl, rfl⟩
  have k4 := K4.out
  have os1 := ansC_ones 0
  have os2 := ansC_size 0
  have lr := bk_lt k4
  go_wp2_with fail
  have F9 : Hid (ClB ((w5).setRow w.heap.size (ansC 0)) x (c.goes now) ∧ Tn (fun j => j = x) w ((w5).setRow w.heap.size (ansC 0))) := Lib.hid ⟨⟨(bk_setRow_other _ _ _ _ (Nat.ne_of_lt hxl)).trans (by have := (H4).out.box; rw [HT.out] at this; exact this), (H4).out.n64, by have := (H4).out.t64; rw [HT.out] at this; exact this, (H4).out.i24, (H4).out.s64, (H4).out.w22⟩, (T4).out.setRow (Nat.le_refl _)⟩
  exact ret_two rfl rfl rfl rfl (by rw [bk_setRow_same, k4]; rfl) Try.underlying36 rfl (by rw [ansC_size]; kernel_rfl) ⟨rfl, F9.out⟩
theorem Opts.len {b : List UInt8} {ol : List (Nat × List UInt8)} (h : Opts b ol) : ∀ k d, ol.lookup k = some d → d.length ≤ b.length := by
  induction h with
  | nil => intro k d h; cases h
  | cons b n ol h4 hn hl hr ih =>
    intro k d h
    rw [List.lookup_cons] at h
    split at h
    · cases h
      rw [List.length_take, List.length_drop]; omega
    · have := ih k d h
      rw [List.length_drop] at this
      omega
theorem frsh_lt (d : Option (List UInt8)) : frsh d < 4294967296 := by
  unfold frsh
  cases d with
  | none => decide
  | some d =>
    simp only
    split
    · rename_i h4
      have h := val_lt d
      rw [h4] at h
      have : val d < 4294967296 := h
      omega
    · decide
theorem At32.of {w : World} {lo : Nat} {ol : List (Nat × List UInt8)} {M : Nat → Option Value} (h : DoneM w lo ol M) (hl : ∀ k d, ol.lookup k = some d → d.length < 2 ^ 40) : At32 w M (ol.lookup 32) := by
  have h1 := h 32
  unfold At32
  cases e : ol.lookup 32 with
  | none => rw [e] at h1; exact h1
  | some d =>
    rw [e] at h1
    obtain ⟨b, o, c, h2, h3, _⟩ := h1
    exact ⟨b, o, c, h2, h3, hl 32 d e⟩
theorem DoneM.none {w : World} {lo k : Nat} {ol : List (Nat × List UInt8)} {M : Nat → Option Value} (h : DoneM w lo ol M) (hk : ol.lookup k = Option.none) : M k = Option.none := by
  have h1 := h k
  rw [hk] at h1
  exact h1
theorem reply_opts (x : Nat) (c : Cl) (now : Nat) (A : Option Addr) (b rest : List UInt8) (cb : Nat) (ol : List (Nat × List UInt8)) (w : World) (h : ClB w x c) (hr : Rd w w.heap.size A b) (hn : now ≤ far) (hcb : b.length ≤ cb) (hbx : ∀ bb o, A = some ⟨bb, o, none⟩ → bb ≠ x) (hno : c.asks = true)
    (hb : b = headB c ++ rest) (hop : Opts rest ol) (hlen : b.length < 2 ^ 30) (hcc : cb < 2 ^ 63) (l13 : ol.lookup 13 = none) (l23 : ol.lookup 23 = none) (l24 : ol.lookup 24 = none) :
    Calls Try.prog 9 #[.pointer (some ⟨x, 0, none⟩), .int .u64 (now : Int), .slice A b.length cb] w fun e w' =>
      if ol.lookup 2 = none then e = .returned (.tuple #[.agg (ansC 0), .bool false]) ∧ ClB w' x (c.goes now) ∧ Tn (fun j => j = x) w w'
      else e = .returned (.tuple #[.agg (ansC (frsh (ol.lookup 32))), .bool true]) ∧ ClB w' x { c.goes now with asks := false, fresh := true, next := addT (max c.tm now) (secT (frsh (ol.lookup 32))) } ∧ Tn (fun j => j = x) w w' := by
  have HNO := Lib.hid hno
  have HBX := Lib.hid hbx
  have HCB := Lib.hid (And.intro hcb (And.intro hlen hcc))
  have HB := Lib.hid hb
  have HOP := Lib.hid hop
  have HL := Lib.hid (And.intro l13 (And.intro l23 l24))
  have HBL : Hid (b.length = 4 + rest.length) := Lib.hid (by rw [hb, List.length_append, headB_len])
  obtain ⟨ba, oa, rfl, _, _⟩ := hr (by have := HBL.out; omega)
  clear hno hbx hcb hb hop hlen hcc l13 l23 l24
  have C := Lib.hid (there_any x c (w.alloc (.cells (ansC 0) 36)) (h.below ((Below.refl _ _).alloc (Nat.le_refl _) _)))
  have CG := Lib.hid (goes_any x c now (w.alloc (.cells (ansC 0) 36)) (h.below ((Below.refl _ _).alloc (Nat.le_refl _) _)) hn)
  have HC := Lib.hid h
  have HR := Lib.hid hr
  have hxl := bk_lt h.box
  have HI24 := Lib.hid h.i24
  have HKR := Lib.hid (bk_alloc_at w (.cells (ansC 0) 36) _ rfl)
  have B0 : Hid (Below w.heap.size w (w.alloc (.cells (ansC 0) 36))) := Lib.hid ((Below.refl _ _).alloc (Nat.le_refl _) _)
  clear h hr hn
  go_enter Try.func9, Try.ntmps9
  go_wp2_with fail
  refine C.out.mono ?_
  rintro e w1 ⟨rfl, rfl⟩
  go_wp2_with fail
  refine CG.out.mono ?_
  rintro e w2 ⟨rfl, h2, t2⟩
  obtain ⟨T, hT⟩ : ∃ T, T = max c.tm now := ⟨_, rfl⟩
  rw [← hT] at h2 ⊢
  have HT := Lib.hid hT
  have H2 := Lib.hid h2
  have T2 := Lib.hid ((Tn.of B0.out (F := fun j => j = x)).trans t2 fun j hj => .inl hj)
  have K2 := Lib.hid (t2.keep (Nat.ne_of_gt hxl) HKR.out)
  have c11 := bk_cell h2.box 11
  simp [clC] at c11
  have lx2 := bk_lt h2.box
  have hid := HI24.out
  have R2 : Hid (Rd (w2.alloc (.cells #[.int .u8 7] 5)) (w2.alloc (.cells #[.int .u8 7] 5)).heap.size (some ⟨w2.heap.size, 0, none⟩) [7]) := Lib.hid (Rd.lit w2 [7] 5)
  have CP : Hid (Calls Try.prog 25 #[.slice (some ⟨w2.heap.size, 0, none⟩) 1 1, .int .u64 (c.id : Int), .int .i64 3] (w2.alloc (.cells #[.int .u8 7] 5)) fun e w' => ∃ g, e = .returned (.slice (some ⟨g, 0, none⟩) 4 4) ∧ (w2.alloc (.cells #[.int .u8 7] 5)).heap.size ≤ g ∧ Rd w' w'.heap.size (some ⟨g, 0, none⟩) (headB c) ∧ Below (w2.alloc (.cells #[.int .u8 7] 5)).heap.size (w2.alloc (.cells #[.int .u8 7] 5)) w') := Lib.hid (by
    have C := put_own (some ⟨w2.heap.size, 0, none⟩) [7] 1 c.id 3 3 (headB c) (w2.alloc (.cells #[.int .u8 7] 5)) R2.out (fun h => by cases h) (by decide) (by omega) (by decide) rfl rfl
    rw [headB_len] at C
    exact C)
  have b3 : Below w2.heap.size w2 (w2.alloc (.cells #[.int .u8 7] 5)) := (by (repeat (first | exact Below.refl _ _ | assumption | refine Below.drew ?_ | refine bdrewN ?_ _ | refine Below.alloc ?_ (by first | omega | (simp <;> omega) | (simp only [World.size_alloc] <;> omega)) _ | refine below_setRow ?_ (by first | omega | (simp <;> omega)) _ | refine Below.setCell ?_ (by first | omega | (simp <;> omega)) _)))
  have B3 := Lib.hid b3
  clear h2 t2 b3 CG C HKR B0 hT R2
  go_wp2_with fail
  refine CP.out.mono ?_
  rintro e w4 ⟨gh, rfl, _, r4, b4⟩
  have B24 := B3.out.trans (b4.mono B3.out.size)
  have H4 := Lib.hid (H2.out.below B24)
  have K4 := Lib.hid (bk_keep B24 (bk_lt K2.out) K2.out)
  have T4 := Lib.hid (T2.out.trans (Tn.of B24) (G := fun _ => False) fun j hj => hj.elim)
  have RH := Lib.hid r4
  have c7 := bk_cell H4.out.box 7
  simp [clC] at c7
  have lx4 := bk_lt H4.out.box
  clear c11 lx2 hid B24 b4 r4 H2 K2 T2 B3 CP
  rw [HNO.out] at c7
  have CX : Hid (Calls Try.prog 26 #[.slice (some ⟨ba, oa, none⟩) b.length cb, .slice (some ⟨gh, 0, none⟩) 4 4] w4 fun e w' => e = .returned (.bool true) ∧ w' = w4) := Lib.hid (by
    have C := prefix_any (some ⟨ba, oa, none⟩) (some ⟨gh, 0, none⟩) b (headB c) cb 4 w4 _ _ (rd_turn HR.out T4.out HBX.out) RH.out HCB.out.1
    have e : (headB c).isPrefixOf b = true := by rw [HB.out]; exact List.isPrefixOf_iff_prefix.2 (List.prefix_append _ _)
    rw [headB_len, e] at C
    exact C)
  have RB4 := Lib.hid (rd_turn HR.out T4.out HBX.out)
  obtain ⟨N, hN⟩ : ∃ N, N = b.length := ⟨_, rfl⟩
  have hN4 : N = 4 + rest.length := by rw [hN]; exact HBL.out
  have HN4 := Lib.hid hN4
  have hNc : N ≤ cb := by rw [hN]; exact HCB.out.1
  have h4N : 4 ≤ N := by omega
  have hcc := HCB.out.2.2
  have HN := Lib.hid hN
  rw [← hN] at CX ⊢
  clear hN hN4
  go_wp2_with fail
  refine CX.out.mono ?_
  rintro e w5 ⟨rfl, rfl⟩
  clear CX
  go_upto_region 7 with fail
  clear c7 lx4
  by_cases hc4 : cb = 4
  · subst hc4
    have RR : Hid (Rd w5 w5.heap.size (some ⟨ba, oa, none⟩) rest) := Lib.hid (by
      have h1 := HN4.out
      have h2 : rest.length = 0 := by omega
      rw [List.eq_nil_of_length_eq_zero h2]; exact Rd.nil)
    go_wp2_with fail
    have hrl : 0 = rest.length := by have := HN4.out; omega
    have CO0 := (options_any ((some ⟨ba, oa, none⟩)) rest (0) w5 RR.out (fun h => by cases h) (by have h1 := HN4.out; have h2 := HN.out; have h3 := HCB.out.2.1; omega) ol HOP.out)
    rw [← hrl] at CO0
    have CO := Lib.hid CO0
    clear hrl CO0
    refine CO.out.mono ?_
    rintro e w6 ⟨g, n, M, lo, rfl, hg, hlo, hM, hD, b6⟩
    have H6 := Lib.hid (H4.out.below b6)
    have K6 := Lib.hid (bk_keep b6 (bk_lt K4.out) K4.out)
    have T6 := Lib.hid (T4.out.trans (Tn.of b6) (G := fun _ => False) fun j hj => hj.elim)
    have HM := Lib.hid hM
    have HD := Lib.hid hD
    have hl13 : Sem.run Try.prog (Instr.lookup 70 (.map (some g)) (.int .u64 13) true) w6 = .ok (.tuple #[.slice none 0 0, .bool false]) w6 := by
      have h := hM.look_ok (k := 13) (by decide)
      rw [hD.none HL.out.1] at h
      exact h
    have hl2 := hM.look (k := 2) (by decide)
    clear hg hlo hM hD b6 CO RR
    cases h2 : ol.lookup 2 with
    | none =>
      rw [HD.out.none h2] at hl2
      have hl2' : Sem.run Try.prog (Instr.lookup 70 (.map (some g)) (.int .u64 2) false) w6 = .ok (.slice none 0 0) w6 := hl2
      have k6 := K6.out
      have os1 := ansC_ones 0
      have os2 := ansC_size 0
      have lr := bk_lt k6
      have HH2 := Lib.hid h2
      clear hl2 h2
      go_wp2_with fail
      all_goals first | (exact absurd HH2.out (by assumption)) | skip
      have F9 : Hid (ClB ((w6).setRow w.heap.size (ansC 0)) x (c.goes now) ∧ Tn (fun j => j = x) w ((w6).setRow w.heap.size (ansC 0))) := Lib.hid ⟨⟨(bk_setRow_other _ _ _ _ (Nat.ne_of_lt hxl)).trans (by have := (H6).out.box; rw [HT.out] at this; exact this), (H6).out.n64, by have := (H6).out.t64; rw [HT.out] at this; exact this, (H6).out.i24, (H6).out.s64, (H6).out.w22⟩, (T6).out.setRow (Nat.le_refl _)⟩
      exact ret_two rfl rfl rfl rfl (by rw [bk_setRow_same, k6]; rfl) Try.underlying36 rfl (by rw [ansC_size]; kernel_rfl) ⟨rfl, F9.out⟩
    | some d2 =>
      obtain ⟨b2, o2, c2, e2, _, _⟩ : ∃ b o c, M 2 = some (.slice (some ⟨b, o, none⟩) d2.length c) ∧ Rd w6 w6.heap.size (some ⟨b, o, none⟩) d2 ∧ lo ≤ b ∧ d2.length ≤ c ∧ c < 2 ^ 63 := by
        have h1 := HD.out 2
        rw [h2] at h1
        exact h1
      rw [e2] at hl2
      have hl2' : Sem.run Try.prog (Instr.lookup 70 (.map (some g)) (.int .u64 2) false) w6 = .ok (.slice (some ⟨b2, o2, none⟩) d2.length c2) w6 := hl2
      have HH2 : Hid (ol.lookup 2 ≠ none) := Lib.hid (by rw [h2]; exact fun h => by cases h)
      have CA := Lib.hid (answer_any g n M (ol.lookup 32) w6 HM.out (HD.out.none HL.out.2.1) (HD.out.none HL.out.2.2) (At32.of HD.out (fun k d hk => by have h1 := HOP.out.len k d hk; have h2 := HCB.out.2.1; have h3 := HBL.out; omega)))
      obtain ⟨F, hF⟩ : ∃ F, F = frsh (ol.lookup 32) := ⟨_, rfl⟩
      have hFl : F < 4294967296 := by rw [hF]; exact frsh_lt _
      have HF := Lib.hid hF
      rw [← hF] at CA
      clear hF hl2 h2 e2
      go_wp2_with fail
      refine CA.out.mono ?_
      rintro e w7 ⟨rfl, b7⟩
      have b8 : Below w7.heap.size w7 (w7.alloc (.cells (ansC F) 36 (0, 0))) := (by (repeat (first | exact Below.refl _ _ | assumption | refine Below.drew ?_ | refine bdrewN ?_ _ | refine Below.alloc ?_ (by first | omega | (simp <;> omega) | (simp only [World.size_alloc] <;> omega)) _ | refine below_setRow ?_ (by first | omega | (simp <;> omega)) _ | refine Below.setCell ?_ (by first | omega | (simp <;> omega)) _)))
      have B68 := b7.trans (b8.mono b7.size)
      have H8 := Lib.hid (H6.out.below B68)
      have K8 := Lib.hid (bk_keep B68 (bk_lt K6.out) K6.out)
      have T8 := Lib.hid (T6.out.trans (Tn.of B68) (G := fun _ => False) fun j hj => hj.elim)
      have KA := Lib.hid (bk_alloc_at w7 (.cells (ansC F) 36 (0, 0)) _ rfl)
      have hs7 : x < w7.heap.size := Nat.lt_of_lt_of_le (bk_lt H6.out.box) b7.size
      have hr7 : w.heap.size < w7.heap.size := Nat.lt_of_lt_of_le (bk_lt K6.out) b7.size
      have os1 := ansC_ones F
      have os2 := ansC_size F
      clear CA b7 b8 B68 hl13 hl2' HM HD H6 K6 T6
      go_upto_region 12 with fail
      change Code.wp _ _ _ _ (w7.alloc (.cells (ansC F) 36 (0, 0)))
      obtain ⟨ra, hra⟩ : ∃ r, r = w7.heap.size := ⟨_, rfl⟩
      rw [← hra] at KA hs7 hr7 ⊢
      clear hra
      generalize w7.alloc (.cells (ansC F) 36 (0, 0)) = w8 at *
      have c2 : w8.cell? ⟨ra, 2, none⟩ = some (.int .u32 (F : Int)) := bk_cell KA.out 2
      have la := bk_lt KA.out
      have lx8 := bk_lt H8.out.box
      have f7 := bk_frozen H8.out.box 7; have f8 := bk_frozen H8.out.box 8; have f9 := bk_frozen H8.out.box 9
      have c7 := bk_cell H8.out.box 7; have c8 := bk_cell H8.out.box 8; have c9 := bk_cell H8.out.box 9
      simp [clC] at c7 c8 c9
      have CS := Lib.hid (csecs_any F w8 hFl)
      have hsc : secT F < 2 ^ 64 := by unfold secT far; split <;> omega
      have hT64 : T < 2 ^ 64 := by have := H8.out.t64; unfold far at this; simp only at this; omega
      have CA2 := Lib.hid (cadd_any T (secT F) w8 hT64 hsc)
      have hadd := addT_le T (secT F)
      obtain ⟨sc, hsc2⟩ : ∃ s, s = secT F := ⟨_, rfl⟩
      obtain ⟨nx, hnx⟩ : ∃ n, n = addT T sc := ⟨_, rfl⟩
      rw [← hsc2] at CS CA2 hadd
      rw [← hnx] at CA2 hadd
      have HNX : Hid (nx = addT (max c.tm now) (secT F)) := Lib.hid (by rw [hnx, hsc2, HT.out])
      have H9 : Hid (ClB (((w8.setCell ⟨x, 7, none⟩ (.bool false)).setCell ⟨x, 8, none⟩ (.bool true)).setCell ⟨x, 9, none⟩ (.int .u64 (nx : Int))) x { c.goes now with asks := false, fresh := true, next := nx }) := Lib.hid (by
        have h0 := H8.out
        rw [HT.out] at h0
        exact ⟨by rw [bk_setCell_same, bk_setCell_same, bk_setCell_same, h0.box]; rfl, hadd, h0.t64, h0.i24, h0.s64, h0.w22⟩)
      have t9 : Tn (fun j => j = x) w8 (((w8.setCell ⟨x, 7, none⟩ (.bool false)).setCell ⟨x, 8, none⟩ (.bool true)).setCell ⟨x, 9, none⟩ (.int .u64 (nx : Int))) := (((Tn.refl (fun j => j = x) w8).set (g := x) (.inl rfl)).set (g := x) (.inl rfl)).set (g := x) (.inl rfl)
      have T9 := Lib.hid (T8.out.trans t9 fun j hj => .inl hj)
      have K9 := Lib.hid (t9.keep (Nat.ne_of_gt hxl) K8.out)
      have KA9 := Lib.hid (t9.keep (Nat.ne_of_gt hs7) KA.out)
      clear hsc hT64 hadd hsc2 hnx t9 T8 K8 H8 KA
      go_wp2_with fail
      refine CS.out.mono ?_
      rintro e w8' ⟨rfl, rfl⟩
      go_wp2_with fail
      refine CA2.out.mono ?_
      rintro e w8' ⟨rfl, rfl⟩
      go_upto_region 13 with fail
      clear c2 c7 c8 c9 f7 f8 f9 lx8 la CS CA2
      change Code.wp _ _ _ _ (((w8.setCell ⟨x, 7, none⟩ (.bool false)).setCell ⟨x, 8, none⟩ (.bool true)).setCell ⟨x, 9, none⟩ (.int .u64 (nx : Int)))
      generalize ((w8.setCell ⟨x, 7, none⟩ (.bool false)).setCell ⟨x, 8, none⟩ (.bool true)).setCell ⟨x, 9, none⟩ (.int .u64 (nx : Int)) = w9 at *
      have os3 := ansC_size 0
      have k9 := K9.out
      have ka9 := KA9.out
      have lr9 := bk_lt k9
      have la9 := bk_lt ka9
      go_wp2_with fail
      all_goals first | (exact absurd (by assumption) HH2.out) | skip
      have F9 : Hid (ClB (w9.setRow w.heap.size (ansC F)) x { c.goes now with asks := false, fresh := true, next := nx } ∧ Tn (fun j => j = x) w (w9.setRow w.heap.size (ansC F))) := Lib.hid ⟨⟨(bk_setRow_other _ _ _ _ (Nat.ne_of_lt hxl)).trans H9.out.box, H9.out.n64, H9.out.t64, H9.out.i24, H9.out.s64, H9.out.w22⟩, T9.out.setRow (Nat.le_refl _)⟩
      have hFF := HF.out
      have hNN := HNX.out
      refine ret_two (cs := ansC F) rfl rfl rfl rfl ?_ Try.underlying36 rfl ?_ ?_
      · rw [bk_setRow_same, k9]; rfl
      · rw [ansC_size]; kernel_rfl
      · rw [← hFF, ← hNN]
        exact ⟨rfl, F9.out⟩
  · have RR : Hid (Rd w5 w5.heap.size (some ⟨ba, oa + 4, none⟩) rest) := Lib.hid (fun h0 => by
      obtain ⟨b9, o9, e9, hlt9, hc9⟩ := RB4.out (by have := HBL.out; omega)
      cases e9
      refine ⟨ba, oa + 4, rfl, hlt9, fun j hj => ?_⟩
      have h1 := hc9 (4 + j) (by have := HBL.out; omega)
      rw [Nat.add_assoc, h1]
      have e : b[4 + j]'(by have := HBL.out; omega) = rest[j] := by
        have hbb := HB.out
        subst hbb
        rw [List.getElem_append_right (by rw [headB_len]; omega)]
        congr 1
        rw [headB_len]; omega
      rw [e])
    go_wp2_with fail
    have hrl : N - 4 = rest.length := by have := HN4.out; omega
    have CO0 := (options_any ((some ⟨ba, oa + 4, none⟩)) rest ((cb - 4)) w5 RR.out (fun h => by cases h) (by have h1 := HN4.out; have h2 := HN.out; have h3 := HCB.out.2.1; omega) ol HOP.out)
    rw [← hrl] at CO0
    have CO := Lib.hid CO0
    clear hrl CO0
    refine CO.out.mono ?_
    rintro e w6 ⟨g, n, M, lo, rfl, hg, hlo, hM, hD, b6⟩
    have H6 := Lib.hid (H4.out.below b6)
    have K6 := Lib.hid (bk_keep b6 (bk_lt K4.out) K4.out)
    have T6 := Lib.hid (T4.out.trans (Tn.of b6) (G := fun _ => False) fun j hj => hj.elim)
    have HM := Lib.hid hM
    have HD := Lib.hid hD
    have hl13 : Sem.run Try.prog (Instr.lookup 70 (.map (some g)) (.int .u64 13) true) w6 = .ok (.tuple #[.slice none 0 0, .bool false]) w6 := by
      have h := hM.look_ok (k := 13) (by decide)
      rw [hD.none HL.out.1] at h
      exact h
    have hl2 := hM.look (k := 2) (by decide)
    clear hg hlo hM hD b6 CO RR
    cases h2 : ol.lookup 2 with
    | none =>
      rw [HD.out.none h2] at hl2
      have hl2' : Sem.run Try.prog (Instr.lookup 70 (.map (some g)) (.int .u64 2) false) w6 = .ok (.slice none 0 0) w6 := hl2
      have k6 := K6.out
      have os1 := ansC_ones 0
      have os2 := ansC_size 0
      have lr := bk_lt k6
      have HH2 := Lib.hid h2
      clear hl2 h2
      go_wp2_with fail
      all_goals first | (exact absurd HH2.out (by assumption)) | skip
      have F9 : Hid (ClB ((w6).setRow w.heap.size (ansC 0)) x (c.goes now) ∧ Tn (fun j => j = x) w ((w6).setRow w.heap.size (ansC 0))) := Lib.hid ⟨⟨(bk_setRow_other _ _ _ _ (Nat.ne_of_lt hxl)).trans (by have := (H6).out.box; rw [HT.out] at this; exact this), (H6).out.n64, by have := (H6).out.t64; rw [HT.out] at this; exact this, (H6).out.i24, (H6).out.s64, (H6).out.w22⟩, (T6).out.setRow (Nat.le_refl _)⟩
      exact ret_two rfl rfl rfl rfl (by rw [bk_setRow_same, k6]; rfl) Try.underlying36 rfl (by rw [ansC_size]; kernel_rfl) ⟨rfl, F9.out⟩
    | some d2 =>
      obtain ⟨b2, o2, c2, e2, _, _⟩ : ∃ b o c, M 2 = some (.slice (some ⟨b, o, none⟩) d2.length c) ∧ Rd w6 w6.heap.size (some ⟨b, o, none⟩) d2 ∧ lo ≤ b ∧ d2.length ≤ c ∧ c < 2 ^ 63 := by
        have h1 := HD.out 2
        rw [h2] at h1
        exact h1
      rw [e2] at hl2
      have hl2' : Sem.run Try.prog (Instr.lookup 70 (.map (some g)) (.int .u64 2) false) w6 = .ok (.slice (some ⟨b2, o2, none⟩) d2.length c2) w6 := hl2
      have HH2 : Hid (ol.lookup 2 ≠ none) := Lib.hid (by rw [h2]; exact fun h => by cases h)
      have CA := Lib.hid (answer_any g n M (ol.lookup 32) w6 HM.out (HD.out.none HL.out.2.1) (HD.out.none HL.out.2.2) (At32.of HD.out (fun k d hk => by have h1 := HOP.out.len k d hk; have h2 := HCB.out.2.1; have h3 := HBL.out; omega)))
      obtain ⟨F, hF⟩ : ∃ F, F = frsh (ol.lookup 32) := ⟨_, rfl⟩
      have hFl : F < 4294967296 := by rw [hF]; exact frsh_lt _
      have HF := Lib.hid hF
      rw [← hF] at CA
      clear hF hl2 h2 e2
      go_wp2_with fail
      refine CA.out.mono ?_
      rintro e w7 ⟨rfl, b7⟩
      have b8 : Below w7.heap.size w7 (w7.alloc (.cells (ansC F) 36 (0, 0))) := (by (repeat (first | exact Below.refl _ _ | assumption | refine Below.drew ?_ | refine bdrewN ?_ _ | refine Below.alloc ?_ (by first | omega | (simp <;> omega) | (simp only [World.size_alloc] <;> omega)) _ | refine below_setRow ?_ (by first | omega | (simp <;> omega)) _ | refine Below.setCell ?_ (by first | omega | (simp <;> omega)) _)))
      have B68 := b7.trans (b8.mono b7.size)
      have H8 := Lib.hid (H6.out.below B68)
      have K8 := Lib.hid (bk_keep B68 (bk_lt K6.out) K6.out)
      have T8 := Lib.hid (T6.out.trans (Tn.of B68) (G := fun _ => False) fun j hj => hj.elim)
      have KA := Lib.hid (bk_alloc_at w7 (.cells (ansC F) 36 (0, 0)) _ rfl)
      have hs7 : x < w7.heap.size := Nat.lt_of_lt_of_le (bk_lt H6.out.box) b7.size
      have hr7 : w.heap.size < w7.heap.size := Nat.lt_of_lt_of_le (bk_lt K6.out) b7.size
      have os1 := ansC_ones F
      have os2 := ansC_size F
      clear CA b7 b8 B68 hl13 hl2' HM HD H6 K6 T6
      go_upto_region 12 with fail
      change Code.wp _ _ _ _ (w7.alloc (.cells (ansC F) 36 (0, 0)))
      obtain ⟨ra, hra⟩ : ∃ r, r = w7.heap.size := ⟨_, rfl⟩
      rw [← hra] at KA hs7 hr7 ⊢
      clear hra
      generalize w7.alloc (.cells (ansC F) 36 (0, 0)) = w8 at *
      have c2 : w8.cell? ⟨ra, 2, none⟩ = some (.int .u32 (F : Int)) := bk_cell KA.out 2
      have la := bk_lt KA.out
      have lx8 := bk_lt H8.out.box
      have f7 := bk_frozen H8.out.box 7; have f8 := bk_frozen H8.out.box 8; have f9 := bk_frozen H8.out.box 9
      have c7 := bk_cell H8.out.box 7; have c8 := bk_cell H8.out.box 8; have c9 := bk_cell H8.out.box 9
      simp [clC] at c7 c8 c9
      have CS := Lib.hid (csecs_any F w8 hFl)
      have hsc : secT F < 2 ^ 64 := by unfold secT far; split <;> omega
      have hT64 : T < 2 ^ 64 := by have := H8.out.t64; unfold far at this; simp only at this; omega
      have CA2 := Lib.hid (cadd_any T (secT F) w8 hT64 hsc)
      have hadd := addT_le T (secT F)
      obtain ⟨sc, hsc2⟩ : ∃ s, s = secT F := ⟨_, rfl⟩
      obtain ⟨nx, hnx⟩ : ∃ n, n = addT T sc := ⟨_, rfl⟩
      rw [← hsc2] at CS CA2 hadd
      rw [← hnx] at CA2 hadd
      have HNX : Hid (nx = addT (max c.tm now) (secT F)) := Lib.hid (by rw [hnx, hsc2, HT.out])
      have H9 : Hid (ClB (((w8.setCell ⟨x, 7, none⟩ (.bool false)).setCell ⟨x, 8, none⟩ (.bool true)).setCell ⟨x, 9, none⟩ (.int .u64 (nx : Int))) x { c.goes now with asks := false, fresh := true, next := nx }) := Lib.hid (by
        have h0 := H8.out
        rw [HT.out] at h0
        exact ⟨by rw [bk_setCell_same, bk_setCell_same, bk_setCell_same, h0.box]; rfl, hadd, h0.t64, h0.i24, h0.s64, h0.w22⟩)
      have t9 : Tn (fun j => j = x) w8 (((w8.setCell ⟨x, 7, none⟩ (.bool false)).setCell ⟨x, 8, none⟩ (.bool true)).setCell ⟨x, 9, none⟩ (.int .u64 (nx : Int))) := (((Tn.refl (fun j => j = x) w8).set (g := x) (.inl rfl)).set (g := x) (.inl rfl)).set (g := x) (.inl rfl)
      have T9 := Lib.hid (T8.out.trans t9 fun j hj => .inl hj)
      have K9 := Lib.hid (t9.keep (Nat.ne_of_gt hxl) K8.out)
      have KA9 := Lib.hid (t9.keep (Nat.ne_of_gt hs7) KA.out)
      clear hsc hT64 hadd hsc2 hnx t9 T8 K8 H8 KA
      go_wp2_with fail
      refine CS.out.mono ?_
      rintro e w8' ⟨rfl, rfl⟩
      go_wp2_with fail
      refine CA2.out.mono ?_
      rintro e w8' ⟨rfl, rfl⟩
      go_upto_region 13 with fail
      clear c2 c7 c8 c9 f7 f8 f9 lx8 la CS CA2
      change Code.wp _ _ _ _ (((w8.setCell ⟨x, 7, none⟩ (.bool false)).setCell ⟨x, 8, none⟩ (.bool true)).setCell ⟨x, 9, none⟩ (.int .u64 (nx : Int)))
      generalize ((w8.setCell ⟨x, 7, none⟩ (.bool false)).setCell ⟨x, 8, none⟩ (.bool true)).setCell ⟨x, 9, none⟩ (.int .u64 (nx : Int)) = w9 at *
      have os3 := ansC_size 0
      have k9 := K9.out
      have ka9 := KA9.out
      have lr9 := bk_lt k9
      have la9 := bk_lt ka9
      go_wp2_with fail
      all_goals first | (exact absurd (by assumption) HH2.out) | skip
      have F9 : Hid (ClB (w9.setRow w.heap.size (ansC F)) x { c.goes now with asks := false, fresh := true, next := nx } ∧ Tn (fun j => j = x) w (w9.setRow w.heap.size (ansC F))) := Lib.hid ⟨⟨(bk_setRow_other _ _ _ _ (Nat.ne_of_lt hxl)).trans H9.out.box, H9.out.n64, H9.out.t64, H9.out.i24, H9.out.s64, H9.out.w22⟩, T9.out.setRow (Nat.le_refl _)⟩
      have hFF := HF.out
      have hNN := HNX.out
      refine ret_two (cs := ansC F) rfl rfl rfl rfl ?_ Try.underlying36 rfl ?_ ?_
      · rw [bk_setRow_same, k9]; rfl
      · rw [ansC_size]; kernel_rfl
      · rw [← hFF, ← hNN]
        exact ⟨rfl, F9.out⟩
end Go.Proofs.Ytfldoihindbdmaa

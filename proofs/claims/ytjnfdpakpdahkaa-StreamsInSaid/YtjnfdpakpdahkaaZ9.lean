/- Streams: an end of writing: its box; what only asks it; its end. -/
import Derived.Test.YtjnfdpakpdahkaaZ8
namespace Go.Proofs.Ytjnfdpakpdahkaa
open Go.RowKit
set_option maxRecDepth 100000
set_option maxHeartbeats 1000000
structure On where
  first : Nat
  b : List UInt8
  ended : Bool
  acked : Bool
def On.span (o : On) : Nat := o.b.length + if o.ended && !o.acked then 1 else 0
def outC (o : On) (v : Value) : Array Value := #[.int .u32 (o.first : Int), v, .bool o.ended, .bool o.acked, .bool true]
structure OutB (w : World) (n x : Nat) (v : Value) (o : On) : Prop where
  box : bk w x = some (.cells (outC o v) 64 (0, 0))
  row : w.ownsRow n 5 1 v o.b.length (o.b.map B)
  room : o.b.length ≤ 8192
  f32 : o.first < m32
  vx : v.ownBlock ≠ some x
  nx : n ≤ x
def Fo (x : Nat) (v : Value) (k : Nat) : Prop := k = x ∨ v.ownBlock = some k
theorem OutB.lt {w : World} {n x : Nat} {v : Value} {o : On} (h : OutB w n x v o) : ∀ k, Fo x v k → n ≤ k ∧ k < w.heap.size := fun k hk => by
  rcases hk with rfl | hk
  · exact ⟨h.nx, bk_lt h.box⟩
  · exact h.row.lt k hk
theorem OutB.keep {F : Nat → Prop} {w w' : World} {n x : Nat} {v : Value} {o : On} (h : OutB w n x v o) (ht : Tn F w w') (hF : ∀ k, F k → ¬ Fo x v k) : OutB w' n x v o :=
  ⟨ht.keep (fun hf => hF _ hf (.inl rfl)) h.box, own_turn h.row fun k hk => ht.old k (h.row.lt k hk).2 fun hf => hF _ hf (.inr hk), h.room, h.f32, h.vx, h.nx⟩
theorem OutB.below {w w' : World} {n x : Nat} {v : Value} {o : On} (h : OutB w n x v o) (hb : Below w.heap.size w w') : OutB w' n x v o :=
  h.keep (Tn.of (F := fun _ => False) hb) fun _ hf => hf.elim
theorem newout_any (p : Nat) (w : World) (hp : p < m32) :
    Calls Try.prog 17 #[.int .u32 (p : Int)] w fun e w' => e = .returned (.pointer (some ⟨w.heap.size, 0, none⟩)) ∧ OutB w' w.heap.size w.heap.size (.slice none 0 0) ⟨p, [], false, false⟩ ∧ Below w.heap.size w w' := by
  go_enter Try.func17, Try.ntmps17
  go_wp2_with fail
  have H1 : OutB (w.alloc (.cells (outC ⟨p, [], false, false⟩ (.slice none 0 0)) 64 (0, 0))) w.heap.size w.heap.size (.slice none 0 0) ⟨p, [], false, false⟩ :=
    ⟨bk_alloc_at _ _ _ rfl, World.ownsRow_nil _ _ _ _, Nat.zero_le _, hp, (by intro h; cases h), Nat.le_refl _⟩
  have HH := Lib.hid H1
  clear H1
  go_ret
  exact ⟨rfl, HH.out, (Below.refl _ _).alloc (Nat.le_refl _) _⟩
theorem OutB.there {n x : Nat} {v : Value} {o : On} {w : World} (h : OutB w n x v o) : Hid (Calls Try.prog 43 #[.pointer (some ⟨x, 0, none⟩)] w fun r w' => r = .returned (.bool true) ∧ w = w') := by
  refine Lib.hid ?_
  have c4 := bk_cell h.box 4
  simp [outC] at c4
  have lb := bk_lt h.box
  clear h
  go_enter Try.func43, Try.ntmps43
  go_wp2
  go_ret
  exact ⟨rfl, rfl⟩
theorem span_any (n x : Nat) (v : Value) (o : On) (w : World) (h : OutB w n x v o) :
    Calls Try.prog 44 #[.pointer (some ⟨x, 0, none⟩)] w fun r w' => r = .returned (.int .u32 (o.span : Int)) ∧ w = w' := by
  obtain ⟨A, c, rfl, _⟩ := Rd.of_own h.row rfl
  have c1 := bk_cell h.box 1
  have c2 := bk_cell h.box 2
  have c3 := bk_cell h.box 3
  simp [outC] at c1 c2 c3
  have lx := bk_lt h.box
  have hr := h.room
  have HM : (o.b.length : Int) % 4294967296 = (o.b.length : Int) := by omega
  have HM1 : ((o.b.length : Int) + 1) % 4294967296 = (o.b.length : Int) + 1 := by omega
  obtain ⟨en, hen⟩ : ∃ en, en = o.ended := ⟨_, rfl⟩
  obtain ⟨ac, hac⟩ : ∃ ac, ac = o.acked := ⟨_, rfl⟩
  rw [show o.span = o.b.length + if en && !ac then 1 else 0 by unfold On.span; rw [hen, hac]]
  rw [← hen] at c2
  rw [← hac] at c3
  clear h hen hac
  go_enter Try.func44, Try.ntmps44
  cases en <;> cases ac
  all_goals
    go_wp2_with fail
    go_ret
    exact ⟨rfl, rfl⟩
theorem ofirst_any (n x : Nat) (v : Value) (o : On) (w : World) (h : OutB w n x v o) :
    Calls Try.prog 21 #[.pointer (some ⟨x, 0, none⟩)] w fun r w' => r = .returned (.int .u32 (o.first : Int)) ∧ w = w' := by
  have C := h.there
  have c0 := bk_cell h.box 0
  simp [outC] at c0
  have lx := bk_lt h.box
  clear h
  go_enter Try.func21, Try.ntmps21
  go_wp2_with fail
  refine (C.out).mono ?_
  rintro e w1 ⟨rfl, hw⟩
  subst hw
  go_wp2_with fail
  go_ret
  exact ⟨rfl, rfl⟩
theorem oheld_any (n x : Nat) (v : Value) (o : On) (w : World) (h : OutB w n x v o) :
    Calls Try.prog 19 #[.pointer (some ⟨x, 0, none⟩)] w fun r w' => r = .returned (.int .i64 (o.b.length : Int)) ∧ w = w' := by
  have C := h.there
  obtain ⟨A, c, rfl, _⟩ := Rd.of_own h.row rfl
  have c1 := bk_cell h.box 1
  simp [outC] at c1
  have lx := bk_lt h.box
  clear h
  go_enter Try.func19, Try.ntmps19
  go_wp2_with fail
  refine (C.out).mono ?_
  rintro e w1 ⟨rfl, hw⟩
  subst hw
  go_wp2_with fail
  go_ret
  exact ⟨rfl, rfl⟩
theorem span_later {n x : Nat} {v : Value} {o : On} {w : World} (h : OutB w n x v o) : Hid (∀ w' : World, Below w.heap.size w w' → Calls Try.prog 44 #[.pointer (some ⟨x, 0, none⟩)] w' fun r w'' => r = .returned (.int .u32 (o.span : Int)) ∧ Below w'.heap.size w' w'') :=
  Lib.hid fun w' hb => (span_any n x v o w' (h.below hb)).mono fun r w'' q => ⟨q.1, q.2 ▸ Below.refl _ _⟩
theorem there_later {n x : Nat} {v : Value} {o : On} {w : World} (h : OutB w n x v o) : Hid (∀ w' : World, Below w.heap.size w w' → Calls Try.prog 43 #[.pointer (some ⟨x, 0, none⟩)] w' fun r w'' => r = .returned (.bool true) ∧ Below w'.heap.size w' w'') :=
  Lib.hid fun w' hb => ((h.below hb).there.out).mono fun r w'' q => ⟨q.1, q.2 ▸ Below.refl _ _⟩
theorem otop_any (n x : Nat) (v : Value) (o : On) (w : World) (h : OutB w n x v o) :
    Calls Try.prog 36 #[.pointer (some ⟨x, 0, none⟩)] w fun r w' => r = .returned (.int .u32 (((o.first + o.span) % m32 : Nat) : Int)) ∧ Below w.heap.size w w' := by
  have C := h.there
  have CS := span_later h
  have c0 := bk_cell h.box 0
  simp [outC] at c0
  have lx := bk_lt h.box
  have HM : Hid (((o.first : Int) + (o.span : Int)) % 4294967296 = (((o.first + o.span) % m32 : Nat) : Int)) := Lib.hid (by unfold m32; omega)
  obtain ⟨sp, hsp⟩ : ∃ sp, sp = o.span := ⟨_, rfl⟩
  rw [← hsp] at CS HM ⊢
  clear h hsp
  go_enter Try.func36, Try.ntmps36
  go_wp2_with fail
  refine (C.out).mono ?_
  rintro e w0 ⟨rfl, hw⟩
  subst hw
  go_upto_region 3 with fail
  refine wp_region_later (w.heap.size) (by kernel_rfl) (by kernel_rfl) ?_
  repeat (go_big_quiet_step ((rename_i xq; exact later_call xq (Nat.le_refl _) (CS.out xq.w xq.h))))
  (first | refine wpQuiet_nil ?_ | (go_big_quiet_want; (try go_big_quiet_op); trace_state; fail))
  intro w1 hw'
  have b1 := later_elim hw'
  clear hw'
  go_wp2
  go_ret
  exact ⟨by rw [HM.out]; rfl, b1⟩
theorem oend_any (n x : Nat) (v : Value) (o : On) (w : World) (h : OutB w n x v o) (he : o.ended = false) :
    Calls Try.prog 35 #[.pointer (some ⟨x, 0, none⟩)] w fun r w' => r = .returned (.int .i64 0) ∧ OutB w' n x v { o with ended := true } ∧ Tn (fun k => k = x) w w' := by
  have C := h.there
  have HB := Lib.hid h
  have c2 := bk_cell h.box 2
  simp [outC, he] at c2
  have fr := bk_frozen h.box 2
  have lx := bk_lt h.box
  have FIN : Hid (OutB (w.setCell ⟨x, 2, none⟩ (.bool true)) n x v { o with ended := true } ∧ Tn (fun k => k = x) w (w.setCell ⟨x, 2, none⟩ (.bool true))) := Lib.hid (by
    refine ⟨⟨?_, own_turn h.row fun k hk => bk_setCell_other _ _ _ _ _ (fun e1 => h.vx (e1 ▸ hk)), h.room, h.f32, h.vx, h.nx⟩, ⟨rfl, rfl, rfl, by simp, fun k hk hx => bk_setCell_other _ _ _ _ _ hx⟩⟩
    rw [bk_setCell_same, h.box]
    rfl)
  clear h
  go_enter Try.func35, Try.ntmps35
  go_wp2_with fail
  refine (C.out).mono ?_
  rintro e w0 ⟨rfl, hw⟩
  subst hw
  go_wp2_with fail
  go_ret
  exact ⟨rfl, FIN.out⟩
end Go.Proofs.Ytjnfdpakpdahkaa

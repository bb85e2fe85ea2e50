/- Streams: an end of reading: its box; what only asks it. -/
import Derived.Test.YtjnfdpakpdahkaaZ1
import Derived.Test.YtjnfdpakpdahkaaS18
import Derived.BigRegion
import Derived.Deep.Cut
namespace Go.Proofs.Ytjnfdpakpdahkaa
open Go.RowKit
set_option maxRecDepth 100000
set_option maxHeartbeats 1000000
/-- Blocks that turn; others may come. -/
structure Tn (F : Nat → Prop) (w w' : World) : Prop where
  os : w'.os = w.os
  tape : w'.tape = w.tape
  output : w'.output = w.output
  size : w.heap.size ≤ w'.heap.size
  old : ∀ k, k < w.heap.size → ¬ F k → bk w' k = bk w k
theorem Tn.refl (F : Nat → Prop) (w : World) : Tn F w w := ⟨rfl, rfl, rfl, Nat.le_refl _, fun _ _ _ => rfl⟩
theorem Tn.trans {F G : Nat → Prop} {w w' w'' : World} (h : Tn F w w') (k : Tn G w' w'') (hg : ∀ j, G j → F j ∨ w.heap.size ≤ j) : Tn F w w'' :=
  ⟨k.os.trans h.os, k.tape.trans h.tape, k.output.trans h.output, Nat.le_trans h.size k.size, fun i hi hn => (k.old i (Nat.lt_of_lt_of_le hi h.size) (fun hG => by
    rcases hg i hG with hF | hl
    · exact hn hF
    · omega)).trans (h.old i hi hn)⟩
theorem Tn.of {F : Nat → Prop} {w w' : World} (h : Below w.heap.size w w') : Tn F w w' := ⟨h.os, h.tape, h.output, h.size, fun i hi _ => h.block i hi⟩
theorem Tn.keep {F : Nat → Prop} {m : Nat} {w w' : World} {o : Obj} (h : Tn F w w') (hm : ¬ F m) (hk : bk w m = some o) : bk w' m = some o := (h.old m (bk_lt hk) hm).trans hk
theorem Tn.below {F : Nat → Prop} {n : Nat} {w w' : World} (h : Tn F w w') (hn : ∀ k, F k → n ≤ k) (hw : n ≤ w.heap.size) : Below n w w' :=
  ⟨h.os, h.tape, h.output, h.size, fun k hk => h.old k (by omega) (fun hF => by have := hn k hF; omega)⟩
theorem Tn.grown {F : Nat → Prop} {w w' : World} {row : Option Nat} (h : w.grownBy w' row) (hr : ∀ k, row = some k → F k) : Tn F w w' :=
  ⟨h.os, h.tape, h.output, h.size, fun k hk hn => h.block k hk (fun e => hn (hr k e.symm))⟩
noncomputable abbrev MR : Value → Option (DataW Unit × List MemPlace) := plainElem Try.prog 5
def inC (s : Sn) (v : Value) (g e : Nat) : Array Value := #[.int .u32 (s.at' : Int), v, .map (some g), .bool s.known, .int .u32 (e : Int), .bool true]
/-- An end of reading at x: its map at g, what is ready at v. -/
structure InB (w : World) (n x g e : Nat) (v : Value) (s : Sn) : Prop where
  box : bk w x = some (.cells (inC s v g e) 60 (0, 0))
  map : w.ownsMap Try.prog 22 MR g s.far.length (FarD s.at' s.far)
  row : w.ownsRow n 5 1 v s.ready.length (s.ready.map B)
  ends : s.known = true → e = (s.at' + s.left) % m32
  e32 : e < m32
  ok : s.Ok
  xg : x ≠ g
  vx : v.ownBlock ≠ some x
  vg : v.ownBlock ≠ some g
  nx : n ≤ x
  ng : n ≤ g
/-- Its blocks. -/
def Ft (x g : Nat) (v : Value) (k : Nat) : Prop := k = x ∨ k = g ∨ v.ownBlock = some k
theorem own_turn {w w' : World} {n m : Nat} {v : Value} {xs : List Value} (h : w.ownsRow n 5 1 v m xs) (hb : ∀ k, v.ownBlock = some k → bk w' k = bk w k) : w'.ownsRow n 5 1 v m xs := by
  refine ⟨h.1, ?_⟩
  rcases h.2 with h2 | ⟨g, cap, cur, rfl, h3, h4, h5⟩
  · exact .inl h2
  · exact .inr ⟨g, cap, cur, rfl, h3, (show bk w' g = _ from (hb g rfl).trans h4), h5⟩
theorem map_turn {w w' : World} {g m : Nat} {D : DataW Unit} (h : w.ownsMap Try.prog 22 MR g m D) (hb : bk w' g = bk w g) : w'.ownsMap Try.prog 22 MR g m D := by
  obtain ⟨es, clock, h1, h2⟩ := h
  exact ⟨es, clock, (show bk w' g = _ from hb.trans h1), h2⟩
theorem InB.lt {w : World} {n x g e : Nat} {v : Value} {s : Sn} (h : InB w n x g e v s) : ∀ k, Ft x g v k → n ≤ k ∧ k < w.heap.size := fun k hk => by
  rcases hk with rfl | rfl | hk
  · exact ⟨h.nx, bk_lt h.box⟩
  · exact ⟨h.ng, h.map.lt⟩
  · exact h.row.lt k hk
/-- It stands while others turn. -/
theorem InB.keep {F : Nat → Prop} {w w' : World} {n x g e : Nat} {v : Value} {s : Sn} (h : InB w n x g e v s) (ht : Tn F w w') (hF : ∀ k, F k → ¬ Ft x g v k) : InB w' n x g e v s :=
  ⟨ht.keep (fun hf => hF _ hf (.inl rfl)) h.box, map_turn h.map (ht.old g h.map.lt fun hf => hF _ hf (.inr (.inl rfl))), own_turn h.row fun k hk => ht.old k (h.row.lt k hk).2 fun hf => hF _ hf (.inr (.inr hk)),
    h.ends, h.e32, h.ok, h.xg, h.vx, h.vg, h.nx, h.ng⟩
theorem InB.below {w w' : World} {n x g e : Nat} {v : Value} {s : Sn} (h : InB w n x g e v s) (hb : Below w.heap.size w w') : InB w' n x g e v s :=
  h.keep (Tn.of (F := fun _ => False) hb) fun _ hf => hf.elim
theorem inC_over {s : Sn} {e : Nat} (h : s.known = true → e = (s.at' + s.left) % m32) (ho : s.Ok) : (s.known && (s.at' == e)) = s.over := by
  unfold Sn.over
  cases hk : s.known
  · rfl
  · have h1 := h hk
    have h2 := ho.left' hk
    have h3 := ho.at32
    have : (s.at' = e) ↔ s.left = 0 := by
      subst h1
      unfold m32 at *
      omega
    rw [Bool.true_and, Bool.true_and, Bool.eq_iff_iff]
    simpa using this
theorem newin_any (p : Nat) (w : World) (hp : p < m32) :
    Calls Try.prog 8 #[.int .u32 (p : Int)] w fun e w' => ∃ x g, e = .returned (.pointer (some ⟨x, 0, none⟩)) ∧ InB w' w.heap.size x g 0 (.slice none 0 0) ⟨p, [], [], false, 0⟩ ∧ Below w.heap.size w w' := by
  go_enter Try.func8, Try.ntmps8
  go_wp2_with fail
  rw [run_makeMap]
  go_wp2_with fail
  have H1 : InB ((w.alloc (.map #[] 0)).alloc (.cells (inC ⟨p, [], [], false, 0⟩ (.slice none 0 0) w.heap.size 0) 60 (0, 0))) w.heap.size (w.heap.size + 1) w.heap.size 0 (.slice none 0 0) ⟨p, [], [], false, 0⟩ :=
    ⟨bk_alloc_at _ _ _ (by simp), (World.ownsMap_made w Try.prog 22 MR).alloc _, World.ownsRow_nil _ _ _ _, (by intro h; cases h), (by decide), ⟨hp, by simp, List.nodup_nil, by simp, by simp, by intro h; cases h⟩, (by omega), (by intro h; cases h), (by intro h; cases h), (by omega), Nat.le_refl _⟩
  have HH := Lib.hid H1
  clear H1
  go_ret
  exact ⟨w.heap.size + 1, w.heap.size, rfl, HH.out, ((Below.refl _ _).alloc (Nat.le_refl _) _).alloc (by simp) _⟩
theorem ithere_any (x : Nat) (w : World) {c : Array Value} (hb : bk w x = some (.cells c 60 (0, 0))) (h5 : c[5]? = some (.bool true)) :
    Calls Try.prog 37 #[.pointer (some ⟨x, 0, none⟩)] w fun e w' => e = .returned (.bool true) ∧ w = w' := by
  have c5 := bk_cell hb 5
  rw [h5] at c5
  have lb := bk_lt hb
  clear hb
  go_enter Try.func37, Try.ntmps37
  go_wp2
  go_ret
  exact ⟨rfl, rfl⟩
theorem iended_any (n x g e : Nat) (v : Value) (s : Sn) (w : World) (h : InB w n x g e v s) :
    Calls Try.prog 15 #[.pointer (some ⟨x, 0, none⟩)] w fun r w' => r = .returned (.bool s.over) ∧ Below w.heap.size w w' := by
  have HO := Lib.hid (inC_over h.ends h.ok)
  have C : Hid (∀ w' : World, Below w.heap.size w w' → Calls Try.prog 37 #[.pointer (some ⟨x, 0, none⟩)] w' fun e w'' => e = .returned (.bool true) ∧ Below w'.heap.size w' w'') :=
    Lib.hid fun w' hb => (ithere_any x w' (bk_keep hb (bk_lt h.box) h.box) rfl).mono fun r w'' q => ⟨q.1, q.2 ▸ Below.refl _ _⟩
  have c0 := bk_cell h.box 0
  have c3 := bk_cell h.box 3
  have c4 := bk_cell h.box 4
  simp [inC] at c0 c3 c4
  obtain ⟨kn, hkn⟩ : ∃ kn, kn = s.known := ⟨_, rfl⟩
  rw [← hkn] at c3 HO
  obtain ⟨p, hp⟩ : ∃ p, p = s.at' := ⟨_, rfl⟩
  rw [← hp] at c0 HO
  obtain ⟨ov, hov⟩ : ∃ ov, ov = s.over := ⟨_, rfl⟩
  rw [← hov] at HO ⊢
  have lb := bk_lt h.box
  clear h hkn hp hov
  go_enter Try.func15, Try.ntmps15
  go_upto_region 1 with fail
  cases kn
  · skip
    refine wp_region_later (w.heap.size) (by kernel_rfl) (by kernel_rfl) ?_
    repeat (go_big_quiet_step ((rename_i xq; exact later_call xq (Nat.le_refl _) (C.out xq.w xq.h))))
    (first | refine wpQuiet_nil ?_ | (go_big_quiet_want; (try go_big_quiet_op); trace_state; fail))
    intro w1 hw'
    have b1 := later_elim hw'
    clear hw'
    go_wp2
    go_ret
    exact ⟨by rw [← HO.out]; rfl, b1⟩
  · skip
    refine wp_region_later (w.heap.size) (by kernel_rfl) (by kernel_rfl) ?_
    repeat (go_big_quiet_step ((rename_i xq; exact later_call xq (Nat.le_refl _) (C.out xq.w xq.h))))
    (first | refine wpQuiet_nil ?_ | (go_big_quiet_want; (try go_big_quiet_op); trace_state; fail))
    intro w1 hw'
    have b1 := later_elim hw'
    clear hw'
    go_wp2
    go_ret
    refine ⟨?_, b1⟩
    rw [← HO.out, Bool.true_and, show ((p : Int) == (e : Int)) = (p == e) from Bool.eq_iff_iff.2 (by simp only [beq_iff_eq]; omega)]
    rfl
theorem InB.there {n x g e : Nat} {v : Value} {s : Sn} {w : World} (h : InB w n x g e v s) : Hid (Calls Try.prog 37 #[.pointer (some ⟨x, 0, none⟩)] w fun r w' => r = .returned (.bool true) ∧ w = w') :=
  Lib.hid (ithere_any x w h.box rfl)
theorem inext_any (n x g e : Nat) (v : Value) (s : Sn) (w : World) (h : InB w n x g e v s) :
    Calls Try.prog 10 #[.pointer (some ⟨x, 0, none⟩)] w fun r w' => r = .returned (.int .u32 (s.next : Int)) ∧ Below w.heap.size w w' := by
  have C := h.there
  have CE := Lib.hid (iended_any n x g e v s w h)
  have KX := Lib.hid h.box
  have HN : Hid (((s.at' : Int) + 1) % 4294967296 = (((s.at' + 1) % m32 : Nat) : Int)) := Lib.hid (by unfold m32; omega)
  obtain ⟨ov, hov⟩ : ∃ ov, ov = s.over := ⟨_, rfl⟩
  rw [← hov] at CE
  rw [show s.next = if ov then (s.at' + 1) % m32 else s.at' by unfold Sn.next; rw [hov]]
  clear h hov
  go_enter Try.func10, Try.ntmps10
  go_wp2_with fail
  refine (C.out).mono ?_
  rintro e w1 ⟨rfl, hw⟩
  subst hw
  go_wp2_with fail
  refine (CE.out).mono ?_
  rintro e w2 ⟨rfl, b2⟩
  have k2 := bk_keep b2 (bk_lt KX.out) KX.out
  have c0 := bk_cell k2 0
  simp [inC] at c0
  have l2 := bk_lt k2
  clear C CE k2
  cases ov
  · go_wp2_with fail
    go_ret
    exact ⟨rfl, b2⟩
  · go_wp2_with fail
    go_ret
    exact ⟨rfl, b2⟩
theorem iready_any (n x g e : Nat) (v : Value) (s : Sn) (w : World) (h : InB w n x g e v s) :
    Calls Try.prog 11 #[.pointer (some ⟨x, 0, none⟩)] w fun r w' => r = .returned (.int .i64 (s.ready.length : Int)) ∧ w = w' := by
  have C := h.there
  obtain ⟨A, c, rfl, _⟩ := Rd.of_own h.row rfl
  have c1 := bk_cell h.box 1
  simp [inC] at c1
  have lx := bk_lt h.box
  clear h
  go_enter Try.func11, Try.ntmps11
  go_wp2_with fail
  refine (C.out).mono ?_
  rintro e w1 ⟨rfl, hw⟩
  subst hw
  go_wp2_with fail
  go_ret
  exact ⟨rfl, rfl⟩
theorem iwindow_any (n x g e : Nat) (v : Value) (s : Sn) (w : World) (h : InB w n x g e v s) :
    Calls Try.prog 31 #[.pointer (some ⟨x, 0, none⟩)] w fun r w' => r = .returned (.int .i64 (s.win : Int)) ∧ w = w' := by
  have C := h.there
  have HW : Hid ((8192 : Int) - (s.ready.length : Int) = (s.win : Int)) := Lib.hid (by have := h.ok.room; unfold Sn.win; omega)
  obtain ⟨A, c, rfl, _⟩ := Rd.of_own h.row rfl
  have c1 := bk_cell h.box 1
  simp [inC] at c1
  have lx := bk_lt h.box
  have hr := h.ok.room
  clear h
  go_enter Try.func31, Try.ntmps31
  go_wp2_with fail
  refine (C.out).mono ?_
  rintro e w1 ⟨rfl, hw⟩
  subst hw
  go_wp2_with fail
  go_ret
  exact ⟨by rw [← HW.out]; rfl, rfl⟩
end Go.Proofs.Ytjnfdpakpdahkaa

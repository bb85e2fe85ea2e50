/- Streams: an end of reading: a byte at a place. -/
import Derived.Test.YtjnfdpakpdahkaaZ3
namespace Go.Proofs.Ytjnfdpakpdahkaa
open Go.RowKit
set_option maxRecDepth 100000
set_option maxHeartbeats 1000000
theorem zero8 (w : World) : (zeroValue 5).run Try.prog w = .ok (.int .u8 0) w := by rfl
theorem key32 {q : Nat} (h : q < m32) : keyOf Try.prog 22 (.int .u32 (q : Int)) = some (.int .u32 (q : Int)) :=
  Maps.keyOf_int_mk Try.underlying22 (by unfold m32 at h; unfold Lit.wf; rw [Bool.and_eq_true, decide_eq_true_eq, decide_eq_true_eq]; exact ⟨by show (0 : Int) ≤ _; omega, by show _ ≤ (4294967295 : Int); omega⟩)
theorem wf8 (c : UInt8) : (Lit.int .u8 (c.toNat : Int)).wf = true := by
  have := c.toNat_lt
  unfold Lit.wf; rw [Bool.and_eq_true, decide_eq_true_eq, decide_eq_true_eq]; exact ⟨by show (0 : Int) ≤ _; omega, by show _ ≤ (255 : Int); omega⟩
theorem room_far {s : Sn} (h : s.Ok) : s.far.length < maxLen := by
  have := h.far_length
  unfold maxLen
  omega
theorem put_byte {n x g e d : Nat} {v : Value} {s : Sn} {w w1 w3 : World} {c : UInt8} (h : InB w n x g e v s) (hb : Below w.heap.size w w1) (ht : s.takes d = !false) (hh : false = s.has d) (hd : d < m32)
    (hm : w3.ownsMap Try.prog 22 MR g (s.far.length + 1) ((FarD s.at' s.far).put (kyOf s.at' d) (.lit (.int .u8 (c.toNat : Int))))) (hu : w1.mapTurned w3 g) : InB w3 n x g e v (s.byte d c) := by
  have h1 := h.below hb
  have ho := byte_ok h.ok d c
  have hg := hu.grown
  unfold Sn.byte at ho ⊢
  rw [ht] at ho ⊢
  rw [farD_put h.ok.far hd hh.symm] at hm
  refine ⟨?_, ?_, ?_, h.ends, h.e32, ho, h.xg, h.vx, h.vg, h.nx, h.ng⟩
  · exact (hg.block x (bk_lt h1.box) (by simp; exact fun e => h.xg e)).trans h1.box
  · exact (by simpa using hm)
  · exact h1.row.kept hg (.inr h.vg)
theorem win_later {n x g e : Nat} {v : Value} {s : Sn} {w : World} (h : InB w n x g e v s) : Hid (∀ w' : World, Below w.heap.size w w' → Calls Try.prog 31 #[.pointer (some ⟨x, 0, none⟩)] w' fun r w'' => r = .returned (.int .i64 (s.win : Int)) ∧ Below w'.heap.size w' w'') :=
  Lib.hid fun w' hb => (iwindow_any n x g e v s w' (h.below hb)).mono fun r w'' q => ⟨q.1, q.2 ▸ Below.refl _ _⟩
theorem ibyte_any (n x g e : Nat) (v : Value) (s : Sn) (w : World) (h : InB w n x g e v s) (q : Nat) (c : UInt8) (hq : q < m32) :
    Calls Try.prog 38 #[.pointer (some ⟨x, 0, none⟩), .int .u32 (q : Int), .int .u8 (c.toNat : Int)] w fun r w' => r = .returned (.bool (s.takes (dist q s.at'))) ∧ InB w' n x g e v (s.byte (dist q s.at') c) ∧ Tn (fun k => k = g) w w' := by
  have HI := Lib.hid h
  have CW := win_later h
  obtain ⟨d, hd⟩ : ∃ d, d = dist q s.at' := ⟨_, rfl⟩
  rw [← hd]
  have hd32 : d < m32 := hd ▸ dist_lt _ _
  have HK := Lib.hid (show (s.at' + d) % m32 = q by rw [hd]; exact ky_dist h.ok.at32 hq)
  have hD : ((q : Int) - (s.at' : Int)) % 4294967296 = (d : Int) := by
    have := h.ok.at32
    subst hd
    unfold dist m32 at *
    omega
  have hw : s.win ≤ 8192 := Nat.sub_le _ _
  have hcv : ((s.win : Int)) % 4294967296 = (s.win : Int) := by omega
  have HE : Hid (s.known = true → ((e : Int) - (s.at' : Int)) % 4294967296 = (s.left : Int)) := Lib.hid fun hk => by
    have h1 := h.ends hk
    have h2 := h.ok.left' hk
    have h3 := h.ok.at32
    subst h1
    unfold m32 at *
    omega
  obtain ⟨kn, hkn⟩ : ∃ kn, kn = s.known := ⟨_, rfl⟩
  obtain ⟨p, hp⟩ : ∃ p, p = s.at' := ⟨_, rfl⟩
  obtain ⟨W, hW⟩ : ∃ W, W = s.win := ⟨_, rfl⟩
  have c0 := bk_cell h.box 0
  have c3 := bk_cell h.box 3
  have c4 := bk_cell h.box 4
  simp only [inC, ← hp, ← hkn] at c0 c3 c4
  simp at c0 c3 c4
  rw [← hp] at hD HK
  rw [← hkn, ← hp] at HE
  rw [← hW] at CW hcv hw
  have lb := bk_lt h.box
  have HPP := Lib.hid hp; have HKN := Lib.hid hkn; have HWW := Lib.hid hW
  clear h hd hp hkn hW
  go_enter Try.func38, Try.ntmps38
  go_upto_region 2 with fail
  by_cases t1 : W ≤ d
  · have t1' : decide ((d : Int) ≥ (W : Int)) = true := by simp; omega
    refine wp_region_later (w.heap.size) (by kernel_rfl) (by kernel_rfl) ?_
    repeat (go_big_quiet_step ((rename_i xq; exact later_call xq (Nat.le_refl _) (CW.out xq.w xq.h))))
    (first | refine wpQuiet_nil ?_ | (go_big_quiet_want; (try go_big_quiet_op); trace_state; fail))
    intro w1 hw'
    have b1 := later_elim hw'
    clear hw'
    go_wp2
    go_ret
    have HT : s.takes d = false := by
      unfold Sn.takes
      rw [← HWW.out, show decide (d < W) = false by simp; omega]
      rfl
    refine ⟨by rw [HT]; rfl, ?_, Tn.of b1⟩
    unfold Sn.byte
    rw [HT]
    exact HI.out.below b1
  · have t1' : decide ((d : Int) ≥ (W : Int)) = false := by simp; omega
    by_cases t2 : kn = true ∧ s.left ≤ d
    · obtain ⟨rfl, t2⟩ := t2
      have he := HE.out rfl
      obtain ⟨L, hL⟩ : ∃ L, L = s.left := ⟨_, rfl⟩
      rw [← hL] at he t2
      have t2' : decide ((d : Int) ≥ (L : Int)) = true := by simp; omega
      have HL := Lib.hid hL
      clear hL
      refine wp_region_later (w.heap.size) (by kernel_rfl) (by kernel_rfl) ?_
      repeat (go_big_quiet_step ((rename_i xq; exact later_call xq (Nat.le_refl _) (CW.out xq.w xq.h))))
      (first | refine wpQuiet_nil ?_ | (go_big_quiet_want; (try go_big_quiet_op); trace_state; fail))
      intro w1 hw'
      have b1 := later_elim hw'
      clear hw'
      go_wp2
      go_ret
      have HT : s.takes d = false := by
        unfold Sn.takes
        rw [← HKN.out, ← HL.out, show decide (d < L) = false by simp; omega]
        simp
      refine ⟨by rw [HT]; rfl, ?_, Tn.of b1⟩
      unfold Sn.byte
      rw [HT]
      exact HI.out.below b1
    · have HT : Hid (s.takes d = !s.has d) := Lib.hid (by
        unfold Sn.takes
        rw [← HWW.out, show decide (d < W) = true by simp; omega, ← HKN.out]
        cases kn
        · simp
        · have t4 : ¬ s.left ≤ d := fun h => t2 ⟨rfl, h⟩
          rw [show decide (d < s.left) = true by simp; omega]
          simp)
      obtain ⟨hb, hhb⟩ : ∃ hb, hb = s.has d := ⟨_, rfl⟩
      have hhas : Maps.has (FarD s.at' s.far) (.int .u32 (q : Int)) = hb := by
        rw [hhb, ← HK.out, HPP.out]
        exact farD_has HI.out.ok.far hd32
      rw [← hhb] at HT
      have HHB := Lib.hid hhb
      clear hhb
      have LK : Hid (∀ w1 : World, Below w.heap.size w w1 → w1.ownsMap Try.prog 22 MR g s.far.length (FarD s.at' s.far)) := Lib.hid fun w1 b1 => (HI.out.below b1).map
      have t3 : Hid (kn = true → decide ((d : Int) ≥ (s.left : Int)) = false) := Lib.hid fun hk => by
        have t4 : ¬ s.left ≤ d := fun h => t2 ⟨hk, h⟩
        simp
        omega
      clear t2
      cases kn
      · clear t3 HE
        refine wp_region_later (w.heap.size) (by kernel_rfl) (by kernel_rfl) ?_
        repeat (go_big_quiet_step ((rename_i xq; exact later_call xq (Nat.le_refl _) (CW.out xq.w xq.h))))
        (first | refine wpQuiet_nil ?_ | (go_big_quiet_want; (try go_big_quiet_op); trace_state; fail))
        intro w1 hw'
        have b1 := later_elim hw'
        clear hw'
        have hown := LK.out w1 b1
        have d2 := bk_cell (bk_keep b1 lb HI.out.box) 2
        simp [inC] at d2
        have l1 : x < w1.heap.size := Nat.lt_of_lt_of_le lb b1.size
        have B1 := Lib.hid b1
        clear b1 c0 c3 c4
        cases hb
        · go_wp2_with (first
            | (at_lookup; refine wpList_lookup_own_ok_int _ rfl _ _ 58 rfl 22 5 .u8 law32 Try.underlying58 Try.underlying5 (zero8 _) g _ _ rfl hown _ _ rfl (key32 hq) ?_; intro cc hat hwc)
            | (at_mapUpdate; refine wpList_mapUpdate_in _ rfl _ _ _ 58 rfl 22 5 law32 Try.underlying58 MR g _ _ rfl hown (room_far HI.out.ok) _ _ _ rfl rfl (key32 hq) _ [] (plainElem_int Try.underlying5 (wf8 c)) ?_; intro w3 hown3 hturn3)
            | go_in)
          go_ret
          refine ⟨by rw [HT.out]; rfl, ?_, ?_⟩
          · refine put_byte HI.out B1.out HT.out HHB.out hd32 ?_ hturn3
            rw [show kyOf s.at' d = .int .u32 (q : Int) by unfold kyOf; rw [← HPP.out, HK.out]]
            exact hown3
          · exact Tn.trans (Tn.of B1.out) (Tn.grown hturn3.grown (fun k hk => by cases hk; rfl)) (fun j hj => .inl hj)
        · go_wp2_with (first
            | (at_lookup; refine wpList_lookup_own_ok_int _ rfl _ _ 58 rfl 22 5 .u8 law32 Try.underlying58 Try.underlying5 (zero8 _) g _ _ rfl hown _ _ rfl (key32 hq) ?_; intro cc hat hwc)
            | go_in)
          go_ret
          refine ⟨by rw [HT.out]; rfl, ?_, Tn.of B1.out⟩
          unfold Sn.byte
          rw [HT.out]
          exact HI.out.below B1.out
      · have he := HE.out rfl
        have t3' := t3.out rfl
        obtain ⟨L, hL⟩ : ∃ L, L = s.left := ⟨_, rfl⟩
        rw [← hL] at he t3'
        have t4 : ¬ L ≤ d := by simp at t3'; omega
        clear t3 HE hL
        refine wp_region_later (w.heap.size) (by kernel_rfl) (by kernel_rfl) ?_
        repeat (go_big_quiet_step ((rename_i xq; exact later_call xq (Nat.le_refl _) (CW.out xq.w xq.h))))
        (first | refine wpQuiet_nil ?_ | (go_big_quiet_want; (try go_big_quiet_op); trace_state; fail))
        intro w1 hw'
        have b1 := later_elim hw'
        clear hw'
        have hown := LK.out w1 b1
        have d2 := bk_cell (bk_keep b1 lb HI.out.box) 2
        simp [inC] at d2
        have l1 : x < w1.heap.size := Nat.lt_of_lt_of_le lb b1.size
        have B1 := Lib.hid b1
        clear b1 c0 c3 c4
        cases hb
        · go_wp2_with (first
            | (at_lookup; refine wpList_lookup_own_ok_int _ rfl _ _ 58 rfl 22 5 .u8 law32 Try.underlying58 Try.underlying5 (zero8 _) g _ _ rfl hown _ _ rfl (key32 hq) ?_; intro cc hat hwc)
            | (at_mapUpdate; refine wpList_mapUpdate_in _ rfl _ _ _ 58 rfl 22 5 law32 Try.underlying58 MR g _ _ rfl hown (room_far HI.out.ok) _ _ _ rfl rfl (key32 hq) _ [] (plainElem_int Try.underlying5 (wf8 c)) ?_; intro w3 hown3 hturn3)
            | go_in)
          go_ret
          refine ⟨by rw [HT.out]; rfl, ?_, ?_⟩
          · refine put_byte HI.out B1.out HT.out HHB.out hd32 ?_ hturn3
            rw [show kyOf s.at' d = .int .u32 (q : Int) by unfold kyOf; rw [← HPP.out, HK.out]]
            exact hown3
          · exact Tn.trans (Tn.of B1.out) (Tn.grown hturn3.grown (fun k hk => by cases hk; rfl)) (fun j hj => .inl hj)
        · go_wp2_with (first
            | (at_lookup; refine wpList_lookup_own_ok_int _ rfl _ _ 58 rfl 22 5 .u8 law32 Try.underlying58 Try.underlying5 (zero8 _) g _ _ rfl hown _ _ rfl (key32 hq) ?_; intro cc hat hwc)
            | go_in)
          go_ret
          refine ⟨by rw [HT.out]; rfl, ?_, Tn.of B1.out⟩
          unfold Sn.byte
          rw [HT.out]
          exact HI.out.below B1.out
end Go.Proofs.Ytjnfdpakpdahkaa

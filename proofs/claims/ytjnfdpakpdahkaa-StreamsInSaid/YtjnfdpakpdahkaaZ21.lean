/- Streams: the document's end of reading: its box; what only asks it. -/
import Derived.Test.YtjnfdpakpdahkaaZ15
import Derived.Test.YtjnfdpakpdahkaaZ14
namespace Go.Proofs.Ytjnfdpakpdahkaa
open Go.RowKit
set_option maxRecDepth 100000
set_option maxHeartbeats 1000000
theorem Tn.cel {G : Nat → Prop} {w w' : World} (h : Tn G w w') {b : Nat} (hb : b < w.heap.size) (hG : ¬ G b) (o : Nat) : w'.cell? ⟨b, o, none⟩ = w.cell? ⟨b, o, none⟩ :=
  World.cell?_of_block (a := ⟨b, o, none⟩) (h.old b hb hG)
def farV : List (Nat × UInt8) → List Value
  | [] => []
  | e :: f => Value.int .u32 (e.1 : Int) :: B e.2 :: farV f
theorem farV_length : ∀ f : List (Nat × UInt8), (farV f).length = f.length * 2
  | [] => rfl
  | e :: f => by simp only [farV, List.length_cons, farV_length f]; omega
theorem farV_append : ∀ f g : List (Nat × UInt8), farV (f ++ g) = farV f ++ farV g
  | [], _ => rfl
  | e :: f, g => by simp only [List.cons_append, farV, farV_append f g]
theorem farV_at : ∀ (f : List (Nat × UInt8)) (k : Nat) (h : k < f.length), (farV f)[k * 2]? = some (.int .u32 ((f[k]).1 : Int)) ∧ (farV f)[k * 2 + 1]? = some (B (f[k]).2)
  | e :: f, 0, _ => ⟨rfl, rfl⟩
  | e :: f, k + 1, h => by
    have := farV_at f k (by simpa using h)
    simp only [farV, show (k + 1) * 2 = k * 2 + 1 + 1 by omega, List.getElem?_cons_succ, List.getElem_cons_succ]
    exact this
theorem farV_one : ∀ (f : List (Nat × UInt8)), ∀ u ∈ farV f, u.oneCell' = true
  | [], _, h => by cases h
  | e :: f, u, h => by
    simp only [farV, List.mem_cons] at h
    rcases h with rfl | rfl | h
    · rfl
    · rfl
    · exact farV_one f u h
def rinC (s : Sn) (vr vf : Value) (lf : Nat) : Array Value := #[.int .u32 (s.at' : Int), vr, vf, .bool s.known, .int .u32 (lf : Int)]
/-- The document's end of reading, at y. -/
structure RB (w : World) (n y : Nat) (vr vf : Value) (lf : Nat) (s : Sn) : Prop where
  box : bk w y = some (.cells (rinC s vr vf lf) 55 (0, 0))
  row : w.ownsRow n 5 1 vr s.ready.length (s.ready.map B)
  far : w.ownsRow n 72 2 vf s.far.length (farV s.far)
  left : s.known = true → lf = s.left
  l32 : lf < m32
  ok : s.Ok
  ry : vr.ownBlock ≠ some y
  fy : vf.ownBlock ≠ some y
  rf : ∀ k, vr.ownBlock = some k → vf.ownBlock ≠ some k
  ny : n ≤ y
def Fr (y : Nat) (vr vf : Value) (k : Nat) : Prop := k = y ∨ vr.ownBlock = some k ∨ vf.ownBlock = some k
theorem far_turn {w w' : World} {n m : Nat} {v : Value} {xs : List Value} (h : w.ownsRow n 72 2 v m xs) (hb : ∀ k, v.ownBlock = some k → bk w' k = bk w k) : w'.ownsRow n 72 2 v m xs := by
  refine ⟨h.1, ?_⟩
  rcases h.2 with h2 | ⟨g, cap, cur, rfl, h3, h4, h5⟩
  · exact .inl h2
  · exact .inr ⟨g, cap, cur, rfl, h3, (show bk w' g = _ from (hb g rfl).trans h4), h5⟩
theorem RB.lt {w : World} {n y lf : Nat} {vr vf : Value} {s : Sn} (h : RB w n y vr vf lf s) : ∀ k, Fr y vr vf k → n ≤ k ∧ k < w.heap.size := fun k hk => by
  rcases hk with rfl | hk | hk
  · exact ⟨h.ny, bk_lt h.box⟩
  · exact h.row.lt k hk
  · exact h.far.lt k hk
theorem RB.keep {F : Nat → Prop} {w w' : World} {n y lf : Nat} {vr vf : Value} {s : Sn} (h : RB w n y vr vf lf s) (ht : Tn F w w') (hF : ∀ k, F k → ¬ Fr y vr vf k) : RB w' n y vr vf lf s :=
  ⟨ht.keep (fun hf => hF _ hf (.inl rfl)) h.box, own_turn h.row fun k hk => ht.old k (h.row.lt k hk).2 fun hf => hF _ hf (.inr (.inl hk)), far_turn h.far fun k hk => ht.old k (h.far.lt k hk).2 fun hf => hF _ hf (.inr (.inr hk)),
    h.left, h.l32, h.ok, h.ry, h.fy, h.rf, h.ny⟩
theorem RB.below {w w' : World} {n y lf : Nat} {vr vf : Value} {s : Sn} (h : RB w n y vr vf lf s) (hb : Below w.heap.size w w') : RB w' n y vr vf lf s :=
  h.keep (Tn.of (F := fun _ => False) hb) fun _ hf => hf.elim
theorem far_slice {w : World} {n m : Nat} {v : Value} {xs : List Value} (h : w.ownsRow n 72 2 v m xs) : ∃ A c, v = .slice A m c ∧ m ≤ c := by
  rcases h.2 with ⟨q, q1⟩ | ⟨_, _, _, q, _, _, q2, _⟩
  · exact ⟨none, 0, by rw [q, q1], by omega⟩
  · exact ⟨_, _, q, q2⟩
/-- What came, by its place. -/
theorem RB.cam {w : World} {n y lf : Nat} {vr vf : Value} {s : Sn} (h : RB w n y vr vf lf s) {k : Nat} (hk : k < s.far.length) : ∃ b c, vf = .slice (some ⟨b, 0, none⟩) s.far.length c ∧ b < w.heap.size ∧ s.far.length ≤ c ∧ w.cell? ⟨b, k * 2, none⟩ = some (.int .u32 ((s.far[k]).1 : Int)) ∧ w.cell? ⟨b, k * 2 + 1, none⟩ = some (B (s.far[k]).2) := by
  rcases h.far.2 with ⟨_, q1⟩ | ⟨b, c, cur, q, hb, hbk, h1, h2, h3, h4⟩
  · omega
  · obtain ⟨e1, e2⟩ := farV_at s.far k hk
    have hlt : ∀ j, j < s.far.length * 2 → w.cell? ⟨b, j, none⟩ = (farV s.far)[j]? := fun j hj => by
      rw [bk_cell (show bk w b = some (.cells cur _ (0, 0)) from hbk), ← h4, List.getElem?_take_of_lt hj]
      simp
    exact ⟨b, c, q, bk_lt (show bk w b = some (.cells cur _ (0, 0)) from hbk), h1, by rw [hlt _ (by omega), e1], by rw [hlt _ (by omega), e2]⟩
theorem rnewin_any (p : Nat) (w : World) (hp : p < m32) :
    Calls Try.prog 23 #[.int .u32 (p : Int)] w fun e w' => e = .returned (.pointer (some ⟨w.heap.size, 0, none⟩)) ∧ RB w' w.heap.size w.heap.size (.slice none 0 0) (.slice none 0 0) 0 ⟨p, [], [], false, 0⟩ ∧ Below w.heap.size w w' := by
  go_enter Try.func23, Try.ntmps23
  go_wp2_with fail
  have H1 : RB (w.alloc (.cells (rinC ⟨p, [], [], false, 0⟩ (.slice none 0 0) (.slice none 0 0) 0) 55 (0, 0))) w.heap.size w.heap.size (.slice none 0 0) (.slice none 0 0) 0 ⟨p, [], [], false, 0⟩ :=
    ⟨bk_alloc_at _ _ _ rfl, World.ownsRow_nil _ _ _ _, World.ownsRow_nil _ _ _ _, (by intro h; cases h), (by decide), ⟨hp, by simp, List.nodup_nil, by simp, by simp, by intro h; cases h⟩, (by intro h; cases h), (by intro h; cases h), (by intro k h; cases h), Nat.le_refl _⟩
  have HH := Lib.hid H1
  clear H1
  go_ret
  exact ⟨rfl, HH.out, (Below.refl _ _).alloc (Nat.le_refl _) _⟩
theorem rended_any (n y lf : Nat) (vr vf : Value) (s : Sn) (w : World) (h : RB w n y vr vf lf s) :
    Calls Try.prog 33 #[.pointer (some ⟨y, 0, none⟩)] w fun r w' => r = .returned (.bool s.over) ∧ w = w' := by
  have c3 := bk_cell h.box 3
  have c4 := bk_cell h.box 4
  simp [rinC] at c3 c4
  have lb := bk_lt h.box
  have HO : Hid ((s.known && ((lf : Int) == 0)) = s.over) := Lib.hid (by
    unfold Sn.over
    cases hk : s.known
    · rfl
    · rw [h.left hk]
      rw [Bool.true_and, Bool.true_and, Bool.eq_iff_iff]
      simp)
  obtain ⟨kn, hkn⟩ : ∃ kn, kn = s.known := ⟨_, rfl⟩
  rw [← hkn] at c3 HO
  obtain ⟨ov, hov⟩ : ∃ ov, ov = s.over := ⟨_, rfl⟩
  rw [← hov] at HO ⊢
  clear h hkn hov
  go_enter Try.func33, Try.ntmps33
  cases kn
  · go_wp2_with fail
    go_ret
    exact ⟨by rw [← HO.out]; rfl, rfl⟩
  · go_wp2_with fail
    go_ret
    refine ⟨?_, rfl⟩
    rw [← HO.out, Bool.true_and]
    rfl
theorem rnext_any (n y lf : Nat) (vr vf : Value) (s : Sn) (w : World) (h : RB w n y vr vf lf s) :
    Calls Try.prog 30 #[.pointer (some ⟨y, 0, none⟩)] w fun r w' => r = .returned (.int .u32 (s.next : Int)) ∧ w = w' := by
  have CE := Lib.hid (rended_any n y lf vr vf s w h)
  have c0 := bk_cell h.box 0
  simp [rinC] at c0
  have lb := bk_lt h.box
  have HN : Hid (((s.at' : Int) + 1) % 4294967296 = (((s.at' + 1) % m32 : Nat) : Int)) := Lib.hid (by unfold m32; omega)
  obtain ⟨ov, hov⟩ : ∃ ov, ov = s.over := ⟨_, rfl⟩
  rw [← hov] at CE
  rw [show s.next = if ov then (s.at' + 1) % m32 else s.at' by unfold Sn.next; rw [hov]]
  clear h hov
  go_enter Try.func30, Try.ntmps30
  go_wp2_with fail
  refine (CE.out).mono ?_
  rintro e w2 ⟨rfl, hw⟩
  subst hw
  clear CE
  cases ov
  · go_wp2_with fail
    go_ret
    exact ⟨rfl, rfl⟩
  · go_wp2_with fail
    go_ret
    exact ⟨rfl, rfl⟩
theorem rwindow_any (n y lf : Nat) (vr vf : Value) (s : Sn) (w : World) (h : RB w n y vr vf lf s) :
    Calls Try.prog 32 #[.pointer (some ⟨y, 0, none⟩)] w fun r w' => r = .returned (.int .i64 (s.win : Int)) ∧ w = w' := by
  have HW : Hid ((8192 : Int) - (s.ready.length : Int) = (s.win : Int)) := Lib.hid (by have := h.ok.room; unfold Sn.win; omega)
  obtain ⟨A, c, rfl, _⟩ := Rd.of_own h.row rfl
  have c1 := bk_cell h.box 1
  simp [rinC] at c1
  have lx := bk_lt h.box
  have hr := h.ok.room
  clear h
  go_enter Try.func32, Try.ntmps32
  go_wp2_with fail
  go_ret
  exact ⟨by rw [← HW.out]; rfl, rfl⟩
theorem rover_any (n y lf : Nat) (vr vf : Value) (s : Sn) (w : World) (h : RB w n y vr vf lf s) :
    Calls Try.prog 34 #[.pointer (some ⟨y, 0, none⟩)] w fun r w' => r = .returned (.bool (s.over && s.ready.length == 0)) ∧ w = w' := by
  have CE := Lib.hid (rended_any n y lf vr vf s w h)
  obtain ⟨A, c, rfl, _⟩ := Rd.of_own h.row rfl
  have c1 := bk_cell h.box 1
  simp [rinC] at c1
  have l2 := bk_lt h.box
  obtain ⟨ov, hov⟩ : ∃ ov, ov = s.over := ⟨_, rfl⟩
  rw [← hov] at CE ⊢
  clear h hov
  go_enter Try.func34, Try.ntmps34
  go_wp2_with fail
  refine (CE.out).mono ?_
  rintro e w2 ⟨rfl, hw⟩
  subst hw
  clear CE
  cases ov
  · go_wp2_with fail
    go_ret
    exact ⟨rfl, rfl⟩
  · go_wp2_with fail
    go_ret
    refine ⟨?_, rfl⟩
    rw [Bool.true_and, show (s.ready.length == 0) = ((s.ready.length : Int) == 0) from Bool.eq_iff_iff.2 (by simp only [beq_iff_eq]; omega)]
    rfl
theorem has_take {s : Sn} {d k : Nat} (hk : k < s.far.length) : ((s.far.take (k + 1)).any fun e => e.1 == d) = (((s.far.take k).any fun e => e.1 == d) || (s.far[k]).1 == d) := by
  rw [List.take_succ_eq_append_getElem hk, List.any_append]
  simp only [List.any_cons, List.any_nil, Bool.or_false]
theorem rthere_any (n y lf : Nat) (vr vf : Value) (s : Sn) (w : World) (h : RB w n y vr vf lf s) (d : Nat) :
    Calls Try.prog 48 #[.pointer (some ⟨y, 0, none⟩), .int .u32 (d : Int)] w fun r w' => r = .returned (.bool (s.has d)) ∧ w = w' := by
  have HI := Lib.hid h
  obtain ⟨A, c, hv, hle⟩ := far_slice h.far
  have c2 := bk_cell h.box 2
  simp [rinC] at c2
  have lb := bk_lt h.box
  have hfl := h.ok.far_length
  clear h
  subst hv
  go_enter Try.func48, Try.ntmps48
  go_wp2_with fail
  go_loopw [5] (fun kv wr => ∃ k : Nat, k ≤ s.far.length ∧ kv = .int .i64 (k : Int) ∧ wr = w ∧ Hid (((s.far.take k).any fun e => e.1 == d) = false)) (fun kv _ => s.far.length - (intOf kv).toNat)
  case atStart => exact ⟨0, by omega, rfl, rfl, Lib.hid (by simp)⟩
  case round =>
    obtain ⟨k, hk, rfl, rfl, HN⟩ := hrel
    by_cases hlt : k < s.far.length
    · have d1 : decide ((k : Int) < (s.far.length : Int)) = true := by simp; omega
      obtain ⟨b, c', hv, hb, hc', u1, _⟩ := HI.out.cam hlt
      cases hv
      have HT := Lib.hid (has_take (d := d) hlt)
      obtain ⟨e, he⟩ : ∃ e, e = (s.far[k]).1 := ⟨_, rfl⟩
      rw [← he] at u1 HT
      have hE : ((e : Int) == (d : Int)) = (e == d) := Bool.eq_iff_iff.2 (by simp only [beq_iff_eq]; omega)
      obtain ⟨q, hq⟩ : ∃ q, q = (e == d) := ⟨_, rfl⟩
      rw [← hq] at hE HT
      clear he hq
      cases q
      · go_wp2_with fail
        refine ⟨⟨k + 1, by omega, by simp, trivial, Lib.hid (by rw [HT.out, HN.out]; rfl)⟩, by simp [intOf]; omega⟩
      · go_wp2_with fail
        go_ret
        refine ⟨?_, rfl⟩
        have : s.has d = true := by
          unfold Sn.has
          rw [← List.take_append_drop (k + 1) s.far, List.any_append, HT.out, HN.out]
          rfl
        rw [this]
        rfl
    · obtain rfl : k = s.far.length := by omega
      have d1 : decide ((s.far.length : Int) < (s.far.length : Int)) = false := by simp
      have hh : s.has d = false := by unfold Sn.has; rw [← List.take_length (l := s.far)]; exact HN.out
      go_wp2_with fail
      go_ret
      exact ⟨by rw [hh]; rfl, rfl⟩
end Go.Proofs.Ytjnfdpakpdahkaa

import Derived.Test.YtjimmfbjhkoekaaMhH
import Derived.Test.YtjimmfbjhkoekaaMgJ
import Derived.Test.YtjimmfbjhkoekaaMgS
/- Icmps: rows put one by one; a twin of addresses. -/
namespace Go.Proofs.Ytjimmfbjhkoekaa
open Go.RowKit
set_option maxRecDepth 100000
set_option maxHeartbeats 2000000
section
variable {α : Type}
/-- A block of M rows, of which the first are told. -/
def Bld (C : Nat) (row : α → Array Value) (w : World) (g : Nat) (t : TypeId) (M : Nat) (zs : List α) : Prop :=
  zs.length ≤ M ∧ ∃ cur, bk w g = some (.cells cur t (0, 0)) ∧ cur.size = M * C ∧ ∀ j (h : j < zs.length), xt cur (j * C) C = row zs[j]
variable {C : Nat} {row : α → Array Value} {w w' : World} {g : Nat} {t : TypeId} {M : Nat} {zs : List α}
theorem Bld.turn (h : Bld C row w g t M zs) (hb : bk w' g = bk w g) : Bld C row w' g t M zs := by
  obtain ⟨h1, cur, h2, h3⟩ := h
  exact ⟨h1, cur, hb.trans h2, h3⟩
theorem Bld.lt (h : Bld C row w g t M zs) : g < w.heap.size := by
  obtain ⟨_, cur, h2, _⟩ := h
  exact bk_lt h2
theorem Bld.below (h : Bld C row w g t M zs) (hb : Below w.heap.size w w') : Bld C row w' g t M zs := h.turn (hb.block g h.lt)
theorem Bld.pre {l : List α} (h : Bld C row w g t M (zs ++ l)) : Bld C row w g t M zs := by
  obtain ⟨h1, cur, h2, h3, h4⟩ := h
  rw [List.length_append] at h1
  exact ⟨by omega, cur, h2, h3, fun j hj => by
    have := h4 j (by rw [List.length_append]; omega)
    rwa [List.getElem_append_left hj] at this⟩
theorem Bld.put {cur : Array Value} {z : α} (h : Bld C row w g t M zs) (hc : bk w g = some (.cells cur t (0, 0))) (hM : zs.length < M) (hz : (row z).size = C) :
    Bld C row (w.setRow g (spl cur.toList (zs.length * C) (row z).toList)) g t M (zs ++ [z]) := by
  obtain ⟨h1, cur', h2, h3, h4⟩ := h
  rw [hc] at h2
  cases h2
  have hm : (zs.length + 1) * C ≤ M * C := Nat.mul_le_mul_right _ hM
  rw [Nat.succ_mul] at hm
  have hl : (row z).toList.length = C := by simpa using hz
  refine ⟨by rw [List.length_append]; exact hM, _, by rw [bk_setRow_same, hc]; rfl, ?_, fun j hj => ?_⟩
  · simp [spl, hz]; omega
  · by_cases e : j = zs.length
    · subst e
      have := xt_spl_same cur (zs.length * C) (row z).toList (by rw [hl]; omega)
      rw [hl] at this
      rw [this]
      simp
    · have hj' : j < zs.length := by rw [List.length_append, List.length_singleton] at hj; omega
      have hq : (j + 1) * C ≤ zs.length * C := Nat.mul_le_mul_right _ hj'
      rw [Nat.succ_mul] at hq
      rw [xt_spl_other cur _ _ _ _ (by rw [hl]; omega) (.inl (by omega)), h4 j hj', List.getElem_append_left hj']
theorem Bld.rws {l : List α} {n : Nat} (h : Bld C row w g t M (zs ++ l)) (hn : g < n) : Rws C row w n (some ⟨g, 0, none⟩) zs := fun _ => by
  obtain ⟨h1, cur, h2, h3, h4⟩ := h.pre
  refine ⟨g, 0, cur, t, (0, 0), rfl, hn, h2, fun j hj => ?_⟩
  have hm : (j + 1) * C ≤ M * C := Nat.mul_le_mul_right _ (by omega)
  rw [Nat.succ_mul] at hm
  rw [Nat.zero_add]
  exact ⟨by omega, h4 j hj⟩
/-- A row that was told. -/
theorem Bld.at (h : Bld C row w g t M zs) {j : Nat} (hj : j < zs.length) : ∃ cur, bk w g = some (.cells cur t (0, 0)) ∧ cur.size = M * C ∧ j * C + C ≤ cur.size ∧ xt cur (j * C) C = row zs[j] := by
  obtain ⟨h1, cur, h2, h3, h4⟩ := h
  have hm : (j + 1) * C ≤ M * C := Nat.mul_le_mul_right _ (by omega)
  rw [Nat.succ_mul] at hm
  exact ⟨cur, h2, h3, by omega, h4 j hj⟩
/-- What a twin's row holds: four strange ones behind the list. -/
def tw4 (l : List α) (x : α) : List α := l ++ [x, x, x, x]
theorem tw4_length (l : List α) (x : α) : (tw4 l x).length = l.length + 4 := by simp [tw4]
theorem tw4_low (l : List α) (x : α) {k : Nat} (h : k < l.length) : (tw4 l x).take k ++ [l[k]] = (tw4 l x).take (k + 1) := by
  have h' : k < (tw4 l x).length := by rw [tw4_length]; omega
  rw [List.take_succ_eq_append_getElem h']
  simp [tw4, List.getElem_append_left h]
theorem tw4_hi (l : List α) (x : α) {k : Nat} (h : l.length ≤ k) (h2 : k < l.length + 4) : (tw4 l x).take k ++ [x] = (tw4 l x).take (k + 1) := by
  have h' : k < (tw4 l x).length := by rw [tw4_length]; omega
  rw [List.take_succ_eq_append_getElem h']
  congr 2
  simp only [tw4]
  rw [List.getElem_append_right h]
  rcases (by omega : k - l.length = 0 ∨ k - l.length = 1 ∨ k - l.length = 2 ∨ k - l.length = 3) with e | e | e | e <;> simp only [e] <;> rfl
end
theorem twinA_any (A : Option Addr) (ss : List (List UInt8)) (c : Nat) (x : List UInt8) (w : World) (h : Rws 16 adr w w.heap.size A ss) (h16 : ∀ z ∈ ss, z.length = 16) (hx : x.length = 16) (hl : ss.length < 2 ^ 19) :
    Calls Try.prog 57 #[.slice A ss.length c, .agg (adr x)] w fun e w' => e = .returned (.slice (some ⟨w.heap.size + 1, 0, none⟩) ss.length (ss.length + 4)) ∧
      Bld 16 adr w' (w.heap.size + 1) 23 (ss.length + 4) (tw4 ss x) ∧ Below w.heap.size w w' := by
  have H := Lib.hid h; have H16 := Lib.hid h16; have HX := Lib.hid hx
  have zx : (adr x).size = 16 := by simp [adr, hx]
  have zo : ones (adr x).toList = true := ones_map x
  clear h h16 hx
  obtain ⟨N, hN⟩ : ∃ N, N = ss.length := ⟨_, rfl⟩
  rw [← hN] at hl ⊢
  have HN := Lib.hid hN
  clear hN
  have ht : ((N : Int) + 4).toNat = N + 4 := by omega
  go_enter Try.func57, Try.ntmps57
  go_wp2
  go_loopw [6] (fun i w' => ∃ k : Nat, k ≤ N + 4 ∧ i = .int .i64 k ∧ Below w.heap.size w w' ∧ bk w' w.heap.size = some (.cells (adr x) 23 (0, 0)) ∧ Bld 16 adr w' (w.heap.size + 1) 23 (N + 4) ((tw4 ss x).take k)) (fun i _ => N + 4 - (intOf i).toNat)
  case atStart =>
    refine ⟨0, by omega, rfl, (by (repeat (first | exact Below.refl _ _ | assumption | refine Below.drew ?_ | refine bdrewN ?_ _ | refine Below.alloc ?_ (by first | omega | (simp <;> omega) | (simp only [World.size_alloc] <;> omega)) _ | refine below_setRow ?_ (by first | omega | (simp <;> omega)) _ | refine Below.setCell ?_ (by first | omega | (simp <;> omega)) _))), by rw [bk_alloc_past _ _ _ (by simp)]; exact bk_alloc_at _ _ _ rfl, by simp, _, bk_alloc_at _ _ _ (by simp), by simp, fun j hj => by simp at hj⟩
  case round =>
    obtain ⟨k, hk, rfl, hbel, hbox, hb⟩ := hrel
    have lb := bk_lt hbox
    by_cases hlt : k < N + 4
    · have d1 : decide ((k : Int) < (N : Int) + 4) = true := by simp; omega
      have d1' : decide (k < N + 4) = true := by simp; omega
      have lg := hb.lt
      have hlen : ((tw4 ss x).take k).length = k := by rw [List.length_take, tw4_length, ← HN.out]; omega
      obtain ⟨cur, hc, hcs, hcx⟩ := hb.2
      have r1 : 0 + k * 16 + 16 ≤ cur.size := by omega
      have st := fun X K => stAny_spl X 16 wr (w.heap.size + 1) (k * 16) K (List.map B x).toArray cur 23 (by omega) zx zo
      have HP := hb.put hc (by rw [hlen]; omega) (z := x) zx
      rw [hlen] at HP
      go_upto_region 6 with fail
      have e1 : Below w.heap.size w (wr.setRow (w.heap.size + 1) (spl cur.toList (k * 16) (adr x).toList)) := below_setRow hbel (by omega) _
      have e2 : bk (wr.setRow (w.heap.size + 1) (spl cur.toList (k * 16) (adr x).toList)) w.heap.size = some (.cells (adr x) 23 (0, 0)) := (bk_setRow_other _ _ _ _ (by omega)).trans hbox
      generalize wr.setRow (w.heap.size + 1) _ = wq at *
      have E := Lib.hid (And.intro e1 (And.intro e2 HP))
      clear st hcx hc hb hcs r1 lg lb hbox e2 HP
      by_cases h2 : k < N
      · have d2 : decide ((k : Int) < (N : Int)) = true := by simp; omega
        have d2' : decide (k < N) = true := by simp; omega
        have hks : k < ss.length := by rw [← HN.out]; exact h2
        obtain ⟨z, hz⟩ : ∃ z, z = ss[k] := ⟨_, rfl⟩
        have hz16 : z.length = 16 := by rw [hz]; exact H16.out _ (List.getElem_mem hks)
        obtain ⟨g1, o1, cur1, t1, f1, e1', hg1, hb1, hk1⟩ := (H.out.below e1 (Nat.le_refl _)) (by intro e; rw [e] at hks; simp at hks)
        subst e1'
        obtain ⟨hs1, hx1⟩ := hk1 k hks
        rw [← hz] at hx1
        have l1 := bk_lt hb1
        have h3 := E.out.2.2
        obtain ⟨cur2, hc2, hcs2, _⟩ := E.out.2.2.2
        have lg := bk_lt hc2
        have zz : (adr z).size = 16 := by simp [adr, hz16]
        have st := fun X K => stAny_spl X 16 wq (w.heap.size + 1) (k * 16) K (List.map B z).toArray cur2 23 (by omega) zz (ones_map z)
        have HP := h3.pre.put hc2 (by rw [hlen]; omega) (z := z) zz
        rw [hlen, hz, tw4_low _ _ hks, ← hz] at HP
        have HPP := Lib.hid HP
        clear HP h3 hk1 hz e1
        go_wp2
        go_roundw
        case rel =>
          exact ⟨k + 1, by omega, by go_num, below_setRow E.out.1 (by omega) _, (bk_setRow_other _ _ _ _ (by omega)).trans E.out.2.1, HPP.out⟩
        case measure => simp [intOf]; omega
      · have d2 : decide ((k : Int) < (N : Int)) = false := by simp; omega
        have d2' : decide (k < N) = false := by simp; omega
        have HR : Hid (Bld 16 adr wq (w.heap.size + 1) 23 (N + 4) ((tw4 ss x).take (k + 1))) := Lib.hid (by have := E.out.2.2; rwa [tw4_hi ss x (by rw [← HN.out]; omega) (by rw [← HN.out]; omega)] at this)
        clear e1
        go_wp2
        go_roundw
        case rel => exact ⟨k + 1, by omega, by go_num, E.out.1, E.out.2.1, HR.out⟩
        case measure => simp [intOf]; omega
    · have d1 : decide ((k : Int) < (N : Int) + 4) = false := by simp; omega
      have d1' : decide (k < N + 4) = false := by simp; omega
      obtain rfl : k = N + 4 := by omega
      rw [List.take_of_length_le (by rw [tw4_length, ← HN.out]; exact Nat.le_refl _)] at hb
      have HB := Lib.hid hb
      have s1 : decide ((N : Int) ≤ (N : Int) + 4) = true := by simp; omega
      clear hlt hb lb hbox
      go_wp2
      go_ret
      exact ⟨rfl, HB.out, hbel⟩
/-- The strange address. -/
def oddL : List UInt8 := [1, 2, 3, 0, 0, 0, 0, 0, 0, 0, 0, 0, 0, 0, 0, 201]
theorem odd_any (w : World) : Calls Try.prog 58 #[] w fun e w' => e = .returned (.agg (adr oddL)) ∧ Below w.heap.size w w' := by
  go_enter Try.func58, Try.ntmps58
  go_wp2
  have b1 : Below w.heap.size w (w.alloc (.cells #[Value.int .u8 1, Value.int .u8 2, Value.int .u8 3, Value.int .u8 0, Value.int .u8 0, Value.int .u8 0, Value.int .u8 0, Value.int .u8 0, Value.int .u8 0, Value.int .u8 0, Value.int .u8 0, Value.int .u8 0, Value.int .u8 0, Value.int .u8 0, Value.int .u8 0, Value.int .u8 201] 23)) := (by (repeat (first | exact Below.refl _ _ | assumption | refine Below.drew ?_ | refine bdrewN ?_ _ | refine Below.alloc ?_ (by first | omega | (simp <;> omega) | (simp only [World.size_alloc] <;> omega)) _ | refine below_setRow ?_ (by first | omega | (simp <;> omega)) _ | refine Below.setCell ?_ (by first | omega | (simp <;> omega)) _)))
  exact bodyPost_ret (results_cell_row rfl _ _ w.heap.size 23 (adr oddL) (0, 0) _ rfl (bk_alloc_at _ _ _ rfl) Try.underlying23 rfl (by kernel_rfl)) rfl ⟨rfl, b1⟩
theorem oddL_length : oddL.length = 16 := rfl
theorem twinAddrs_any (A : Option Addr) (ss : List (List UInt8)) (c : Nat) (w : World) (h : Rws 16 adr w w.heap.size A ss) (h16 : ∀ z ∈ ss, z.length = 16) (hl : ss.length < 2 ^ 19) :
    Calls Try.prog 28 #[.slice A ss.length c] w fun e w' => ∃ g, w.heap.size ≤ g ∧ e = .returned (.slice (some ⟨g, 0, none⟩) ss.length (ss.length + 4)) ∧
      Bld 16 adr w' g 23 (ss.length + 4) (tw4 ss oddL) ∧ Below w.heap.size w w' := by
  have C := Lib.hid (odd_any w)
  have H := Lib.hid h
  clear h
  go_enter Try.func28, Try.ntmps28
  go_wp2_with fail
  refine (C.out).mono ?_
  rintro e w1 ⟨rfl, b1⟩
  have C2 := Lib.hid (twinA_any A ss c oddL w1 ((H.out.below b1 (Nat.le_refl _)).mono b1.size) h16 rfl hl)
  clear C
  go_wp2_with fail
  refine C2.out.mono ?_
  rintro e w2 ⟨rfl, hb, b2⟩
  have F := Lib.hid (b1.trans (b2.mono b1.size))
  have HB := Lib.hid hb
  have hs := b1.size
  clear C2 hb b2
  go_wp2_with fail
  go_ret
  exact ⟨_, by omega, rfl, HB.out, F.out⟩
end Go.Proofs.Ytjimmfbjhkoekaa
/- Icmps: is a twin of addresses as it was made. -/
namespace Go.Proofs.Ytjimmfbjhkoekaa
open Go.RowKit
set_option maxRecDepth 100000
set_option maxHeartbeats 2000000
theorem tw4_room {α : Type} (l : List α) (x : α) (j : Nat) (h : j < 4) (h2 : l.length + j < (tw4 l x).length) : (tw4 l x)[l.length + j] = x := by
  simp only [tw4]
  rw [List.getElem_append_right (by omega)]
  rcases (by omega : j = 0 ∨ j = 1 ∨ j = 2 ∨ j = 3) with e | e | e | e <;> subst e <;> simp
theorem leftA_any (A : Option Addr) (ss : List (List UInt8)) (c g : Nat) (x : List UInt8) (w : World) (h : Rws 16 adr w w.heap.size A ss) (h16 : ∀ z ∈ ss, z.length = 16) (hx : x.length = 16) (hl : ss.length < 2 ^ 19) (hg : Bld 16 adr w g 23 (ss.length + 4) (tw4 ss x)) :
    Calls Try.prog 68 #[.slice (some ⟨g, 0, none⟩) ss.length (ss.length + 4), .slice A ss.length c, .agg (adr x)] w fun e w' => e = .returned (.bool true) ∧ Below w.heap.size w w' := by
  have b0 : Below w.heap.size w (w.alloc (.cells (adr x) 23)) := (by (repeat (first | exact Below.refl _ _ | assumption | refine Below.drew ?_ | refine bdrewN ?_ _ | refine Below.alloc ?_ (by first | omega | (simp <;> omega) | (simp only [World.size_alloc] <;> omega)) _ | refine below_setRow ?_ (by first | omega | (simp <;> omega)) _ | refine Below.setCell ?_ (by first | omega | (simp <;> omega)) _)))
  have B0 := Lib.hid b0
  have gl := hg.lt
  have k0 : bk (w.alloc (.cells (adr x) 23)) w.heap.size = some (.cells (adr x) 23 (0, 0)) := bk_alloc_at _ _ _ rfl
  have K0 := Lib.hid k0
  have hg0 := hg.below b0
  have CS := Lib.hid (sameA_any (some ⟨g, 0, none⟩) A ss (ss.length + 4) c _ (hg0.rws hg0.lt) ((h.below b0 (Nat.le_refl _)).mono b0.size) h16 (by omega))
  have HG := Lib.hid hg0
  have HX := Lib.hid hx
  clear h h16 hg hg0 hx b0 k0
  obtain ⟨N, hN⟩ : ∃ N, N = ss.length := ⟨_, rfl⟩
  rw [← hN] at hl CS HG ⊢
  have HN := Lib.hid hN
  clear hN
  go_enter Try.func68, Try.ntmps68
  go_upto_region 1 with fail
  generalize w.alloc (.cells (adr x) 23) = w0 at *
  have lw := bk_lt K0.out
  have d1 : decide (N + 4 < N + 4) = false := by simp
  have d2 : decide ((N : Int) + 4 < (N : Int) + 4) = false := by simp
  go_wp2_with fail
  refine CS.out.mono ?_
  rintro e w1 ⟨rfl, b1⟩
  have KX := Lib.hid (bk_keep b1 lw K0.out)
  have HG1 := Lib.hid (HG.out.below b1)
  have F1 := Lib.hid (B0.out.trans (b1.mono B0.out.size))
  clear CS b1 B0 K0 HG lw
  have ht : ((N : Int) + 4 - (N : Int)).toNat = 4 := by omega
  have s1 : decide ((N : Int) ≤ (N : Int) + 4) = true := by simp; omega
  go_wp2
  rw [show N + 4 - N = 4 by omega]
  go_loopw [8] (fun i w' => ∃ k : Nat, k ≤ 4 ∧ i = .int .i64 k ∧ Below w.heap.size w w' ∧ bk w' w.heap.size = some (.cells (adr x) 23 (0, 0)) ∧ Bld 16 adr w' g 23 (N + 4) (tw4 ss x)) (fun i _ => 4 - (intOf i).toNat)
  case atStart => exact ⟨0, by omega, rfl, F1.out, KX.out, HG1.out⟩
  case round =>
    obtain ⟨k, hk, rfl, hbel, hbox, hb⟩ := hrel
    by_cases hlt : k < 4
    · have d3 : decide ((k : Int) < 4) = true := by simp; omega
      have d3' : decide (k < 4) = true := by simp; omega
      have hj : N + k < (tw4 ss x).length := by rw [tw4_length, ← HN.out]; omega
      obtain ⟨cur, hc, hcs, hle, hxt⟩ := hb.at hj
      have er : (tw4 ss x)[N + k] = x := by
        have := tw4_room ss x k hlt (by rw [← HN.out]; exact hj)
        simpa only [← HN.out] using this
      rw [er] at hxt
      have e1 : (N + k) * 16 = N * 16 + k * 16 := by omega
      rw [e1] at hle hxt
      have lb := bk_lt hbox; have lg := hb.lt
      have zx : (adr x).size = 16 := by simp [adr, HX.out]
      have q1 := fun w => eqAddrK x HX.out w
      have HB := Lib.hid (And.intro hbox hb)
      clear hb er hj hcs e1
      go_wp2
      refine wp_region_later (wr.heap.size) (by kernel_rfl) (by kernel_rfl) ?_
      repeat (go_big_quiet_step (fail))
      (first | refine wpQuiet_nil ?_ | (go_big_quiet_want; (try go_big_quiet_op); trace_state; fail))
      intro w3 hw'
      have q3 := later_elim hw'
      clear hw'
      go_wp2
      go_roundw
      case rel => exact ⟨k + 1, by omega, by go_num, hbel.trans (q3.mono hbel.size), bk_keep q3 lb HB.out.1, HB.out.2.below q3⟩
      case measure => simp [intOf]; omega
    · have d3 : decide ((k : Int) < 4) = false := by simp; omega
      have d3' : decide (k < 4) = false := by simp; omega
      clear hlt hb hbox
      go_wp2
      go_ret
      exact ⟨rfl, hbel⟩
theorem leftAddrs_any (A : Option Addr) (ss : List (List UInt8)) (c g : Nat) (w : World) (h : Rws 16 adr w w.heap.size A ss) (h16 : ∀ z ∈ ss, z.length = 16) (hl : ss.length < 2 ^ 19) (hg : Bld 16 adr w g 23 (ss.length + 4) (tw4 ss oddL)) :
    Calls Try.prog 38 #[.slice (some ⟨g, 0, none⟩) ss.length (ss.length + 4), .slice A ss.length c] w fun e w' => e = .returned (.bool true) ∧ Below w.heap.size w w' := by
  have C := Lib.hid (odd_any w)
  have H := Lib.hid h; have HG := Lib.hid hg
  clear h hg
  go_enter Try.func38, Try.ntmps38
  go_wp2_with fail
  refine (C.out).mono ?_
  rintro e w1 ⟨rfl, b1⟩
  have C2 := Lib.hid (leftA_any A ss c g oddL w1 ((H.out.below b1 (Nat.le_refl _)).mono b1.size) h16 rfl hl (HG.out.below b1))
  clear C
  go_wp2_with fail
  refine C2.out.mono ?_
  rintro e w2 ⟨rfl, b2⟩
  have F := Lib.hid (b1.trans (b2.mono b1.size))
  clear C2 b2
  go_wp2_with fail
  go_ret
  exact ⟨rfl, F.out⟩
end Go.Proofs.Ytjimmfbjhkoekaa
/- Icmps: a twin of options. -/
namespace Go.Proofs.Ytjimmfbjhkoekaa
open Go.RowKit
set_option maxRecDepth 100000
set_option maxHeartbeats 2000000
@[go_sem ↓] theorem ldOpT (dst : Option Tmp) (x : Operand) (t : TypeId) (pos : String) (af : Array Edge) (g : Option (Nat × Bool)) (a : Act) (w : World) (K : Act → World → Prop) (Q : Exit → Act → World → Prop) :
    Oper.wp Try.prog ⟨dst, .load 97 x, t, pos, af, g⟩ a w K Q = ldPtr (wpHid Try.prog ⟨dst, .load 97 x, t, pos, af, g⟩ a w K Q) 2 w (fun c => K (a.put dst (.agg c)) w) (a.eval x) :=
  wp_load_bk 97 2 _ Try.underlying97 rfl (by kernel_rfl) dst x t pos af g a w K Q
@[go_sem ↓] theorem stOpT (dst : Option Tmp) (x y : Operand) (t : TypeId) (pos : String) (af : Array Edge) (g : Option (Nat × Bool)) (a : Act) (w : World) (K : Act → World → Prop) (Q : Exit → Act → World → Prop) :
    Oper.wp Try.prog ⟨dst, .store 97 x y, t, pos, af, g⟩ a w K Q = stAt (wpHid Try.prog ⟨dst, .store 97 x y, t, pos, af, g⟩ a w K Q) 2 w (fun w' => K (a.put dst undef) w') (a.eval x) (a.eval y) :=
  wp_store_any 97 2 (by kernel_rfl) dst x y t pos af g a w K Q
@[go_sem ↓] theorem qlOpT (dst : Option Tmp) (x : Operand) (t : TypeId) (pos : String) (af : Array Edge) (g : Option (Nat × Bool)) (a : Act) (m : Nat) (W : World) (K : Act → Prop) :
    Oper.quiet Try.prog ⟨dst, .load 97 x, t, pos, af, g⟩ a (fun w' => ∃ x : Later m W, w' = x.w) K =
      ldLater (quietHid Try.prog ⟨dst, .load 97 x, t, pos, af, g⟩ a (fun w' => ∃ x : Later m W, w' = x.w) K) m 2 W (fun c => K (a.put dst (.agg c))) (a.eval x) :=
  quiet_load_bk 97 2 _ Try.underlying97 rfl (by kernel_rfl) dst x t pos af g a m W K
/-- The strange option. -/
def oX : Ov := ⟨201, none, [], 0⟩
/-- Twins of options: each one's bytes in a block of their own, each behind the one ahead. -/
structure TwO (w : World) (n : Nat) (ol tl : List Ov) : Prop where
  pl : tl.map Ov.pl = ol.map Ov.pl
  at' : ∀ i (h : i < tl.length), ∃ b, tl[i].A = some ⟨b, 0, none⟩ ∧ tl[i].c = tl[i].d.length + 4 ∧ n ≤ b ∧ bk w b = some (.cells (List.map B (tw tl[i].d 199)).toArray 5 (0, 0))
  ap : ∀ i j (hi : i < tl.length) (hj : j < tl.length), i < j → ∀ b b', tl[i].A = some ⟨b, 0, none⟩ → tl[j].A = some ⟨b', 0, none⟩ → b < b'
theorem TwO.nil (w : World) (n : Nat) : TwO w n [] [] := ⟨rfl, fun i h => by simp at h, fun i j h => by simp at h⟩
theorem TwO.turn {w w' : World} {n : Nat} {ol tl : List Ov} (h : TwO w n ol tl) (hb : ∀ k, n ≤ k → k < w.heap.size → bk w' k = bk w k) : TwO w' n ol tl :=
  ⟨h.pl, fun i hi => by obtain ⟨b, q1, q2, q3, q4⟩ := h.at' i hi; exact ⟨b, q1, q2, q3, (hb b q3 (bk_lt q4)).trans q4⟩, h.ap⟩
theorem TwO.below {w w' : World} {n : Nat} {ol tl : List Ov} (h : TwO w n ol tl) (hb : Below w.heap.size w w') : TwO w' n ol tl := h.turn fun k _ hk => hb.block k hk
theorem TwO.row {w : World} {n g : Nat} {ol tl : List Ov} {c : Array Value} (h : TwO w n ol tl) (hg : g < n) : TwO (w.setRow g c) n ol tl := h.turn fun k hk _ => bk_setRow_other _ _ _ _ (by omega)
theorem TwO.len {w : World} {n : Nat} {ol tl : List Ov} (h : TwO w n ol tl) : tl.length = ol.length := by have := congrArg List.length h.pl; simpa using this
theorem TwO.snoc {w w' : World} {n b : Nat} {ol tl : List Ov} {x y : Ov} (h : TwO w n ol tl) (hb : Below w.heap.size w w') (hy : y.pl = x.pl) (ha : y.A = some ⟨b, 0, none⟩) (hc : y.c = y.d.length + 4) (hn : n ≤ b) (hw : w.heap.size ≤ b) (hk : bk w' b = some (.cells (List.map B (tw y.d 199)).toArray 5 (0, 0))) : TwO w' n (ol ++ [x]) (tl ++ [y]) := by
  have h' := h.below hb
  refine ⟨by simp [h.pl, hy], fun i hi => ?_, fun i j hi hj hij b1 b2 e1 e2 => ?_⟩
  · by_cases e : i < tl.length
    · rw [List.getElem_append_left e]
      exact h'.at' i e
    · have ei : i = tl.length := by rw [List.length_append, List.length_singleton] at hi; omega
      subst ei
      simp only [List.getElem_append_right (Nat.le_refl _), Nat.sub_self, List.getElem_singleton]
      exact ⟨b, ha, hc, hn, hk⟩
  · have hi' : i < tl.length := by rw [List.length_append, List.length_singleton] at hj; omega
    rw [List.getElem_append_left hi'] at e1
    by_cases e : j < tl.length
    · rw [List.getElem_append_left e] at e2
      exact h.ap i j hi' e hij b1 b2 e1 e2
    · have ej : j = tl.length := by rw [List.length_append, List.length_singleton] at hj; omega
      subst ej
      simp only [List.getElem_append_right (Nat.le_refl _), Nat.sub_self, List.getElem_singleton] at e2
      rw [ha] at e2
      cases e2
      obtain ⟨b', q1, _, _, q4⟩ := h.at' i hi'
      rw [q1] at e1
      cases e1
      have := bk_lt q4
      omega
theorem infoOp : (Try.prog.info? 97).map (fun i => (i.zero, i.size, i.bytes)) = some (some (.agg #[.int .u8 0, .slice none 0 0]), 2, 32) := by kernel_rfl
@[go_sem ↓] theorem mkOpts (dst : Option Tmp) (x y : Operand) (t : TypeId) (pos : String) (af : Array Edge) (g : Option (Nat × Bool)) (a : Act) (w : World) (K : Act → World → Prop) (Q : Exit → Act → World → Prop) :
    Oper.wp Try.prog ⟨dst, .makeSlice 29 x y, t, pos, af, g⟩ a w K Q = mkTo2 (wpHid Try.prog ⟨dst, .makeSlice 29 x y, t, pos, af, g⟩ a w K Q)
      (fun n c => K (a.put dst (.slice (some ⟨w.heap.size, 0, none⟩) n c)) (w.alloc (.cells (madeCells #[.int .u8 0, .slice none 0 0] (c * 2)) 97))) (a.eval x) (a.eval y) :=
  wp_mk2 29 97 _ 2 32 (fun c => madeCells #[.int .u8 0, .slice none 0 0] (c * 2)) Try.underlying29 infoOp (by decide) (fun c => rfl) dst x y t pos af g a w K Q
theorem rep_snoc {α : Type} (tl : List α) (x : α) {k N : Nat} (h : N ≤ k) : tl ++ List.replicate (k - N) x ++ [x] = tl ++ List.replicate (k + 1 - N) x := by
  rw [List.append_assoc, show k + 1 - N = (k - N) + 1 by omega, List.replicate_succ']
theorem twinOptions_any (A : Option Addr) (ol : List Ov) (c : Nat) (w : World) (h : Ovs w w.heap.size A ol) (hl : ol.length < 2 ^ 19) (hd : ∀ x ∈ ol, x.d.length < 2 ^ 46) :
    Calls Try.prog 27 #[.slice A ol.length c] w fun e w' => e = .returned (.slice (some ⟨w.heap.size, 0, none⟩) ol.length (ol.length + 4)) ∧
      (∃ tl, Bld 2 Ov.row w' w.heap.size 97 (ol.length + 4) (tw4 tl oX) ∧ TwO w' (w.heap.size + 1) ol tl) ∧ Below w.heap.size w w' := by
  have H := Lib.hid h; have HD := Lib.hid hd
  clear h hd
  obtain ⟨N, hN⟩ : ∃ N, N = ol.length := ⟨_, rfl⟩
  rw [← hN] at hl ⊢
  have HN := Lib.hid hN
  clear hN
  have ht : ((N : Int) + 4).toNat = N + 4 := by omega
  go_enter Try.func27, Try.ntmps27
  go_wp2
  go_loopw [4] (fun i w' => ∃ k : Nat, k ≤ N + 4 ∧ i = .int .i64 k ∧ Below w.heap.size w w' ∧ w.heap.size + 1 ≤ w'.heap.size ∧ Hid (∃ tl, tl.length = min k N ∧ Bld 2 Ov.row w' w.heap.size 97 (N + 4) (tl ++ List.replicate (k - N) oX) ∧ TwO w' (w.heap.size + 1) (ol.take (min k N)) tl)) (fun i _ => N + 4 - (intOf i).toNat)
  case atStart =>
    refine ⟨0, by omega, rfl, (by (repeat (first | exact Below.refl _ _ | assumption | refine Below.drew ?_ | refine bdrewN ?_ _ | refine Below.alloc ?_ (by first | omega | (simp <;> omega) | (simp only [World.size_alloc] <;> omega)) _ | refine below_setRow ?_ (by first | omega | (simp <;> omega)) _ | refine Below.setCell ?_ (by first | omega | (simp <;> omega)) _))), by simp, Lib.hid ⟨[], by simp, ⟨by simp, _, bk_alloc_at _ _ _ (by simp), ?_, fun j hj => by simp at hj⟩, by simpa using TwO.nil _ _⟩⟩
    simp [madeCells]
  case round =>
    obtain ⟨k, hk, rfl, hbel, hsz, hst⟩ := hrel
    obtain ⟨tl, htl, hb, hT⟩ := hst.out
    clear hst
    by_cases hlt : k < N + 4
    · have d1 : decide ((k : Int) < (N : Int) + 4) = true := by simp; omega
      have d1' : decide (k < N + 4) = true := by simp; omega
      have lg := hb.lt
      have hlen : (tl ++ List.replicate (k - N) oX).length = k := by rw [List.length_append, List.length_replicate, htl]; omega
      obtain ⟨cur, hc, hcs, hcx⟩ := hb.2
      have st := fun X K => stAny_spl X 2 wr w.heap.size (k * 2) K oX.row cur 97 (by omega) rfl rfl
      have HP := hb.put hc (by rw [hlen]; omega) (z := oX) rfl
      rw [hlen] at HP
      go_upto_region 6 with fail
      refine (stOpt _ _ _ _ _ _ _ _ _ _ _).mp ?_
      rw [stOpT]
      show stAny _ 2 wr w.heap.size (k * 2) oX.row _ (bk wr w.heap.size)
      rw [hc, st]
      have e1 : Below w.heap.size w (wr.setRow w.heap.size (spl cur.toList (k * 2) oX.row.toList)) := below_setRow hbel (Nat.le_refl _) _
      have e2 := hT.row (g := w.heap.size) (c := spl cur.toList (k * 2) oX.row.toList) (by omega)
      have e3 : w.heap.size + 1 ≤ (wr.setRow w.heap.size (spl cur.toList (k * 2) oX.row.toList)).heap.size := by simpa [World.setRow] using hsz
      generalize wr.setRow w.heap.size _ = wq at *
      go_upto_region 6 with fail
      have E := Lib.hid (And.intro e1 (And.intro e2 (And.intro e3 HP)))
      clear st hcx hc hb hcs lg e2 HP hT
      by_cases h2 : k < N
      · have d2 : decide ((k : Int) < (N : Int)) = true := by simp; omega
        have d2' : decide (k < N) = true := by simp; omega
        have hks : k < ol.length := by rw [← HN.out]; exact h2
        obtain ⟨x, hx⟩ : ∃ x, x = ol[k] := ⟨_, rfl⟩
        have hxd : x.d.length < 2 ^ 46 := by rw [hx]; exact HD.out _ (List.getElem_mem hks)
        obtain ⟨g1, o1, cur1, t1, f1, e1', hg1, hb1, hs1, hx1, hx2⟩ := Rws.at (H.out.1.below e1 (Nat.le_refl _)) hks Ov.row_size
        subst e1'
        have HOK := Lib.hid (show OvOk wq wq.heap.size x by rw [hx]; exact ((H.out.2 _ (List.getElem_mem hks)).below e1 (Nat.le_refl _)).mono e1.size)
        have p1 := hx2 0 (by decide)
        have p2 := hx2 1 (by decide)
        rw [← hx] at p1 p2
        have l1 := bk_lt hb1
        have HX := Lib.hid hx
        clear hx2 hx1 hx hb1 hs1
        obtain ⟨kx, Ax, dx, cx⟩ := x
        change wq.cell? ⟨g1, o1 + k * 2 + 0, none⟩ = some (B kx) at p1
        change wq.cell? ⟨g1, o1 + k * 2 + 1, none⟩ = some (.slice Ax dx.length cx) at p2
        simp only [Nat.add_zero] at p1
        obtain ⟨m, hm⟩ : ∃ m, m = wq.heap.size := ⟨_, rfl⟩
        have hm1 : w.heap.size + 1 ≤ m := by omega
        obtain ⟨M, hM⟩ : ∃ M : Made m, M = Made.row m (fun b => .slice (some ⟨b, 0, none⟩) dx.length (dx.length + 4)) (.cells (List.map B (tw dx 199)).toArray 5 (0, 0)) := ⟨_, rfl⟩
        have HM := Lib.hid hM
        clear hM
        go_upto_region 7 with fail
        refine wp_region_made_tail m 15 (fun k => ([(12, M)] : List (Nat × Made m)).lookup k) (by omega) (by kernel_rfl) (by kernel_rfl) ?_
        simp only [List.take_succ_cons, List.take_zero, List.drop_succ_cons, List.drop_zero]
        refine walk_segn 12 ([]) facts0 (by kernel_rfl) (by kernel_rfl) ?_
        simp only [List.take_succ_cons, List.take_zero, List.drop_succ_cons, List.drop_zero, Nat.reduceAdd]
        repeat (go_big_quiet_step (fail))
        (first | refine wpQuiet_nil ?_ | (go_big_quiet_want; (try go_big_quiet_op); trace_state; fail))
        refine walk_mkop M ([]) facts0 (by kernel_rfl) (by kernel_rfl) (by kernel_rfl) (fun w' hb' hg' => ?_) (fun v _ hAt => ?_)
        · unfold madeAt
          go_simp
          ((exact (twinBytes_any Ax dx cx w' (by have := HOK.out.rd.below hb' (by omega); exact this.mono hb'.size) hxd).mono fun e w2 ⟨he, hk2, hb2⟩ => he ▸ row_end HM hb2 (by have := hb'.size; omega) hk2))
        obtain ⟨xb, hmxb, rfl, hnxb, hixb, rb⟩ := made_at HM (by intro b b' h; simpa using h) 12 hAt
        clear hAt
        simp only [Act.put, List.setIfInBounds_toArray, List.set_cons_succ, List.set_cons_zero, Nat.reduceAdd]
        refine walk_segn 2 ([]) facts0 (by kernel_rfl) (by kernel_rfl) ?_
        simp only [List.take_succ_cons, List.take_zero, List.drop_succ_cons, List.drop_zero, Nat.reduceAdd]
        repeat (go_big_quiet_step (fail))
        (first | refine wpQuiet_nil ?_ | (go_big_quiet_want; (try go_big_quiet_op); trace_state; fail))
        refine walk_nil ?_
        intro w3 hb3 hf
        have kb := rb w3 ((hf 12).1 rfl)
        rw [hm] at hb3
        have hwx : wq.heap.size ≤ xb := by omega
        have hT1 := E.out.2.1
        have htk : (ol.take (min k N)) ++ [(⟨kx, Ax, dx, cx⟩ : Ov)] = ol.take (min (k + 1) N) := by
          rw [show min k N = k by omega, show min (k + 1) N = k + 1 by omega, HX.out, List.take_succ_eq_append_getElem hks]
        have hT2 := (hT1.snoc (x := ⟨kx, Ax, dx, cx⟩) (y := ⟨kx, some ⟨xb, 0, none⟩, dx, dx.length + 4⟩) hb3 rfl rfl rfl (by omega) hwx kb)
        rw [htk] at hT2
        have hB2 := (E.out.2.2.2).pre.below hb3
        rw [show k - N = 0 by omega, List.replicate_zero, List.append_nil] at hB2
        obtain ⟨cur2, hc2, hcs2, _⟩ := hB2.2
        have htl2 : tl.length = k := by omega
        have st2 := fun X K => stAny_spl X 2 w3 w.heap.size (k * 2) K (Ov.row ⟨kx, some ⟨xb, 0, none⟩, dx, dx.length + 4⟩) cur2 97 (by omega) rfl rfl
        have HP2 := hB2.put hc2 (by omega) (z := ⟨kx, some ⟨xb, 0, none⟩, dx, dx.length + 4⟩) rfl
        rw [htl2] at HP2
        have lg := hB2.lt
        have F3 := e1.trans (hb3.mono e1.size)
        have hs3 := hb3.size
        have Z := Lib.hid (And.intro hT2 (And.intro HP2 F3))
        clear hT1 hT2 hB2 HP2 hcs2 htl2 kb rb hf hixb hnxb hb3 htk F3 e1
        go_wp2_with fail
        refine (stOpt _ _ _ _ _ _ _ _ _ _ _).mp ?_
        rw [stOpT]
        show stAny _ 2 w3 w.heap.size (k * 2) (Ov.row ⟨kx, some ⟨xb, 0, none⟩, dx, dx.length + 4⟩) _ (bk w3 w.heap.size)
        rw [hc2, st2]
        clear st2 hc2
        go_wp2
        go_roundw
        case rel =>
          refine ⟨k + 1, by omega, by go_num, below_setRow Z.out.2.2 (Nat.le_refl _) _, by simp [World.setRow]; omega, Lib.hid ⟨tl ++ [⟨kx, some ⟨xb, 0, none⟩, dx, dx.length + 4⟩], by simp; omega, ?_, Z.out.1.row (by omega)⟩⟩
          rw [show k + 1 - N = 0 by omega, List.replicate_zero, List.append_nil]
          exact Z.out.2.1
        case measure => simp [intOf]; omega
      · have d2 : decide ((k : Int) < (N : Int)) = false := by simp; omega
        have d2' : decide (k < N) = false := by simp; omega
        have Z := Lib.hid (show _ by have := E.out.2.2.2; rwa [rep_snoc tl oX (by omega)] at this)
        clear e1
        go_wp2
        go_roundw
        case rel => exact ⟨k + 1, by omega, by go_num, E.out.1, E.out.2.2.1, Lib.hid ⟨tl, by omega, Z.out, by rw [show min (k + 1) N = min k N by omega]; exact E.out.2.1⟩⟩
        case measure => simp [intOf]; omega
    · have d1 : decide ((k : Int) < (N : Int) + 4) = false := by simp; omega
      have d1' : decide (k < N + 4) = false := by simp; omega
      obtain rfl : k = N + 4 := by omega
      rw [show N + 4 - N = 4 by omega] at hb
      rw [show min (N + 4) N = N by omega] at hT
      have HB := Lib.hid (And.intro hb hT)
      have s1 : decide ((N : Int) ≤ (N : Int) + 4) = true := by simp; omega
      clear hlt hb hT
      go_wp2
      go_ret
      exact ⟨rfl, ⟨tl, HB.out.1, by have := HB.out.2; rwa [HN.out, List.take_length] at this⟩, hbel⟩
end Go.Proofs.Ytjimmfbjhkoekaa
/- Icmps: is a twin of options as it was made. -/
namespace Go.Proofs.Ytjimmfbjhkoekaa
open Go.RowKit
set_option maxRecDepth 100000
set_option maxHeartbeats 2000000
theorem TwO.ok {w : World} {n : Nat} {ol tl : List Ov} (h : TwO w n ol tl) (hd : ∀ x ∈ ol, x.d.length < 2 ^ 46) : ∀ y ∈ tl, OvOk w w.heap.size y ∧ y.d.length < 2 ^ 46 := fun y hy => by
  obtain ⟨i, hi, rfl⟩ := List.mem_iff_getElem.1 hy
  obtain ⟨b, q1, q2, q3, q4⟩ := h.at' i hi
  have hio : i < ol.length := by rw [← h.len]; exact hi
  have he : tl[i].d = ol[i].d := by
    have h1 := congrArg (·[i]?) h.pl
    simp only [List.getElem?_map, List.getElem?_eq_getElem hi, List.getElem?_eq_getElem hio, Option.map_some] at h1
    exact congrArg Prod.snd (Option.some.inj h1)
  have hdl : tl[i].d.length < 2 ^ 46 := by rw [he]; exact hd _ (List.getElem_mem hio)
  refine ⟨⟨?_, fun e => (by rw [q1] at e; cases e), by omega, by omega⟩, hdl⟩
  rw [q1]
  exact Rd.of_bk q4 (bk_lt q4) (tw_head _ 199)
theorem TwO.ovs {w : World} {n g M : Nat} {ol tl : List Ov} {t : TypeId} (h : TwO w n ol tl) (hd : ∀ x ∈ ol, x.d.length < 2 ^ 46) (hB : Bld 2 Ov.row w g t M (tw4 tl oX)) : Ovs w w.heap.size (some ⟨g, 0, none⟩) tl :=
  ⟨hB.rws hB.lt, fun y hy => (h.ok hd y hy).1⟩
theorem row2 {cur : Array Value} {o : Nat} {x : Ov} (h : xt cur o 2 = x.row) (hs : o + 2 ≤ cur.size) : cur[o]? = some (B x.kind) ∧ cur[o + 1]? = some (.slice x.A x.d.length x.c) := by
  have key : ∀ i, i < 2 → cur[o + i]? = x.row[i]? := fun i hi => by
    rw [← h]
    unfold xt
    rw [Array.getElem?_extract, if_pos (by omega)]
  exact ⟨by have := key 0 (by omega); rwa [Nat.add_zero] at this, key 1 (by omega)⟩
theorem leftOptions_any (A : Option Addr) (ol tl : List Ov) (c g n : Nat) (w : World) (h : Ovs w w.heap.size A ol) (hl : ol.length < 2 ^ 19) (hd : ∀ x ∈ ol, x.d.length < 2 ^ 46) (hB : Bld 2 Ov.row w g 97 (ol.length + 4) (tw4 tl oX)) (hT : TwO w n ol tl) :
    Calls Try.prog 37 #[.slice (some ⟨g, 0, none⟩) ol.length (ol.length + 4), .slice A ol.length c] w fun e w' => e = .returned (.bool true) ∧ Below w.heap.size w w' := by
  have hlen := hT.len
  have C := sameOptions_any (some ⟨g, 0, none⟩) A tl ol (ol.length + 4) c w (hT.ovs hd hB) h hT.pl (by omega) (fun x hx => by have := (hT.ok hd x hx).2; omega)
  rw [hlen] at C
  have CS := Lib.hid C
  have H := Lib.hid h; have HD := Lib.hid hd; have HB := Lib.hid hB; have HT := Lib.hid hT
  have lg := hB.lt
  clear h hd hB hT C
  obtain ⟨N, hN⟩ : ∃ N, N = ol.length := ⟨_, rfl⟩
  rw [← hN] at hl hlen CS HB ⊢
  have HN := Lib.hid (And.intro hN hlen)
  clear hN hlen
  have d1 : decide (N + 4 < N + 4) = false := by simp
  have d2 : decide ((N : Int) + 4 < (N : Int) + 4) = false := by simp
  go_enter Try.func37, Try.ntmps37
  go_wp2_with fail
  refine (CS.out).mono ?_
  rintro e w1 ⟨rfl, b1⟩
  have B1 := Lib.hid b1
  clear CS
  go_wp2
  go_loopw [5] (fun i w' => ∃ k : Nat, k ≤ N ∧ i = .int .i64 k ∧ Below w.heap.size w w') (fun i _ => N - (intOf i).toNat)
  case atStart => exact ⟨0, by omega, rfl, b1⟩
  case round =>
    clear b1
    obtain ⟨k, hk, rfl, hbel⟩ := hrel
    by_cases hlt : k < N
    · have e1 : decide ((k : Int) < (N : Int)) = true := by simp; omega
      have e1' : decide (k < N) = true := by simp; omega
      have e2 : decide (k < N + 4) = true := by simp; omega
      have e2' : decide ((k : Int) < (N : Int) + 4) = true := by simp; omega
      have hk1 : k < tl.length := by rw [HN.out.2]; exact hlt
      have hk2 : k < ol.length := by rw [← HN.out.1]; exact hlt
      have hBr := HB.out.turn (hbel.block g lg)
      have hTr := HT.out.turn (w' := wr) (fun i _ hi => hbel.block i hi)
      obtain ⟨cur1, hb1, hcs1, hs1, hx1⟩ := (Bld.pre (zs := tl) (l := [oX, oX, oX, oX]) hBr).at hk1
      obtain ⟨g2, o2, cur2, t2, f2, e3, hg2, hb2, hs2, hx2, hq2⟩ := Rws.at (H.out.1.below hbel (Nat.le_refl _)) hk2 Ov.row_size
      subst e3
      obtain ⟨b, q1, q2, q3, q4⟩ := hTr.at' k hk1
      have hpl : tl[k].pl = ol[k].pl := by
        have h1 := congrArg (·[k]?) hTr.pl
        simp only [List.getElem?_map, List.getElem?_eq_getElem hk1, List.getElem?_eq_getElem hk2, Option.map_some] at h1
        exact Option.some.inj h1
      have hok := (H.out.2 _ (List.getElem_mem hk2))
      have hdl := HD.out _ (List.getElem_mem hk2)
      obtain ⟨⟨kx, Ax, dx, cx⟩, hx⟩ : ∃ x, x = ol[k] := ⟨_, rfl⟩
      obtain ⟨⟨ky, Ay, dy, cy⟩, hy⟩ : ∃ x, x = tl[k] := ⟨_, rfl⟩
      rw [← hx] at hx2 hpl hok hdl
      rw [← hy] at hx1 q1 q2 q4 hpl
      obtain ⟨rfl, rfl⟩ : ky = kx ∧ dy = dx := by cases hpl; exact ⟨rfl, rfl⟩
      have p1 := (bk_cell hb1 _).trans (row2 hx1 hs1).2
      have p2 := (bk_cell hb2 _).trans (row2 hx2 hs2).2
      simp only at p1 p2 q1 q2 q4 hdl
      subst q1 q2
      have CE : Hid (∀ W, Below wr.heap.size wr W → Calls Try.prog 22 #[.slice (some ⟨b, 0, none⟩) dy.length (dy.length + 4), .slice Ax dy.length cx] W fun e w' => e = .returned (.bool true) ∧ Below W.heap.size W w') := Lib.hid fun W hW => by
        have hbb := hbel.trans (hW.mono hbel.size)
        exact leftBytes_any Ax dy cx b W ((hok.rd.below hbb (Nat.le_refl _)).mono hbb.size) hdl (bk_keep hW (bk_lt q4) q4)
      have l1 := bk_lt hb1; have l2 := bk_lt hb2
      clear hx hy hpl hx1 hx2 hq2 hs1 hs2 hcs1 hb1 hb2 hok hBr hTr q4 hk1 hk2 e2'
      go_wp2
      refine wp_region_later (wr.heap.size) (by kernel_rfl) (by kernel_rfl) ?_
      repeat (go_big_quiet_step (((rename_i xq; with_reducible exact later_call xq (Nat.le_refl _) (CE.out xq.w xq.h)))))
      (first | refine wpQuiet_nil ?_ | (go_big_quiet_want; (try go_big_quiet_op); trace_state; fail))
      intro w3 hw'
      have q5 := later_elim hw'
      clear hw'
      go_wp2
      go_roundw
      case rel => exact ⟨k + 1, by omega, by go_num, hbel.trans (q5.mono hbel.size)⟩
      case measure => simp [intOf]; omega
    · have e1 : decide ((k : Int) < (N : Int)) = false := by simp; omega
      have e1' : decide (k < N) = false := by simp; omega
      obtain rfl : k = N := by omega
      have ht : ((k : Int) + 4 - (k : Int)).toNat = 4 := by omega
      have s1 : decide ((k : Int) ≤ (k : Int) + 4) = true := by simp; omega
      clear hlt
      go_wp2
      rw [show k + 4 - k = 4 by omega]
      go_loopw [7] (fun i w' => ∃ j : Nat, j ≤ 4 ∧ i = .int .i64 j ∧ Below w.heap.size w w') (fun i _ => 4 - (intOf i).toNat)
      case atStart => exact ⟨0, by omega, rfl, hbel⟩
      case round =>
        clear hbel
        obtain ⟨j, hj, rfl, hbel⟩ := hrel
        by_cases hlt : j < 4
        · have e3 : decide ((j : Int) < 4) = true := by simp; omega
          have e3' : decide (j < 4) = true := by simp; omega
          have hBr := HB.out.turn (hbel.block g lg)
          have hjl : tl.length + j < (tw4 tl oX).length := by rw [tw4_length]; omega
          obtain ⟨cur1, hb1, hcs1, hs1, hx1⟩ := hBr.at hjl
          rw [tw4_room tl oX j hlt hjl] at hx1
          rw [HN.out.2] at hs1 hx1
          have e4 : (k + j) * 2 = k * 2 + j * 2 := by omega
          rw [e4] at hs1 hx1
          have p1 := (bk_cell hb1 _).trans (row2 hx1 hs1).1
          have p2 := (bk_cell hb1 _).trans (row2 hx1 hs1).2
          change wr.cell? ⟨g, k * 2 + j * 2, none⟩ = some (.int .u8 201) at p1
          change wr.cell? ⟨g, k * 2 + j * 2 + 1, none⟩ = some (.slice none 0 0) at p2
          have l1 := bk_lt hb1
          clear hb1 hcs1 hs1 hx1 hBr hjl e4
          go_wp2
          go_roundw
          case rel => exact ⟨j + 1, by omega, by go_num, hbel⟩
          case measure => simp [intOf]; omega
        · have e3 : decide ((j : Int) < 4) = false := by simp; omega
          have e3' : decide (j < 4) = false := by simp; omega
          clear hlt
          go_wp2
          go_ret
          exact ⟨rfl, hbel⟩
end Go.Proofs.Ytjimmfbjhkoekaa

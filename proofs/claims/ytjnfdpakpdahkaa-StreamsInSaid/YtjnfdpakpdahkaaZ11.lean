/- Streams: an end of writing: what is acknowledged. -/
import Derived.Test.YtjnfdpakpdahkaaZ10
namespace Go.Proofs.Ytjnfdpakpdahkaa
open Go.RowKit
set_option maxRecDepth 100000
set_option maxHeartbeats 1000000
theorem oack_no (n x : Nat) (v : Value) (o : On) (w : World) (h : OutB w n x v o) (a : Nat) (ha : a < m32) (hd : o.span < dist a o.first) :
    Calls Try.prog 20 #[.pointer (some ⟨x, 0, none⟩), .int .u32 (a : Int)] w fun r w' => r = .returned (.int .i64 0) ∧ Below w.heap.size w w' := by
  have C := h.there
  have CS := Lib.hid (span_any n x v o w h)
  have c0 := bk_cell h.box 0
  simp [outC] at c0
  have lx := bk_lt h.box
  obtain ⟨d, hdd⟩ : ∃ d, d = dist a o.first := ⟨_, rfl⟩
  have hD : ((a : Int) - (o.first : Int)) % 4294967296 = (d : Int) := by
    have := h.f32
    subst hdd
    unfold dist m32 at *
    omega
  rw [← hdd] at hd
  obtain ⟨sp, hsp⟩ : ∃ sp, sp = o.span := ⟨_, rfl⟩
  rw [← hsp] at hd CS
  have hg : (sp : Int) < (d : Int) := by omega
  clear h hsp hdd
  go_enter Try.func20, Try.ntmps20
  go_wp2_with fail
  refine (C.out).mono ?_
  rintro e w1 ⟨rfl, hw⟩
  subst hw
  go_wp2_with fail
  refine (CS.out).mono ?_
  rintro e w1 ⟨rfl, hw⟩
  subst hw
  go_wp2_with fail
  go_ret
  exact ⟨rfl, Below.refl _ _⟩
theorem oack_yes (n x : Nat) (v : Value) (o : On) (w : World) (h : OutB w n x v o) (hn : n ≤ w.heap.size) (a : Nat) (ha : a < m32) (hd : dist a o.first ≤ o.b.length) :
    Calls Try.prog 20 #[.pointer (some ⟨x, 0, none⟩), .int .u32 (a : Int)] w fun r w' => r = .returned (.int .i64 (dist a o.first : Int)) ∧ ∃ v', OutB w' n x v' { o with first := a, b := o.b.drop (dist a o.first) } ∧ (∀ k, v'.ownBlock = some k → w.heap.size ≤ k) ∧ Tn (fun k => k = x) w w' := by
  have C := h.there
  have CS := Lib.hid (span_any n x v o w h)
  have HI := Lib.hid h
  have c0 := bk_cell h.box 0
  have c1 := bk_cell h.box 1
  simp [outC] at c0 c1
  have lx := bk_lt h.box
  have hrm := h.room
  obtain ⟨d, hdd⟩ : ∃ d, d = dist a o.first := ⟨_, rfl⟩
  have hD : ((a : Int) - (o.first : Int)) % 4294967296 = (d : Int) := by
    have := h.f32
    subst hdd
    unfold dist m32 at *
    omega
  rw [← hdd] at hd ⊢
  obtain ⟨sp, hsp⟩ : ∃ sp, sp = o.span := ⟨_, rfl⟩
  have hspd : d ≤ sp := by subst hsp; unfold On.span; omega
  rw [← hsp] at CS
  have hg : ¬ (sp : Int) < (d : Int) := by omega
  obtain ⟨A0, k0, hv, hrd, hA0, hle⟩ := Rd.of_own h.row rfl
  subst hv
  obtain ⟨L, hL⟩ : ∃ L, L = o.b.length := ⟨_, rfl⟩
  rw [← hL] at hd c1 hrm hle
  have hgL : ¬ (L : Int) < (d : Int) := by omega
  have hLm : (L : Int) % 4294967296 = (L : Int) := by omega
  have hdk : (d : Int) ≤ (k0 : Int) := by omega
  have hdL : (d : Int) ≤ (L : Int) := by omega
  have hdl : (o.b.drop d).length = L - d := by rw [List.length_drop, hL]
  have CC : Hid (∀ (A : Option Addr) (c : Nat), Rd w w.heap.size A (o.b.drop d) → (A = none → o.b.drop d = [] ∧ c = 0) → Calls Try.prog 41 #[.slice A (L - d) c] w fun e w' => ∃ v, e = .returned v ∧ w'.ownsRow w.heap.size 5 1 v (L - d) ((o.b.drop d).map B) ∧ Below w.heap.size w w') := Lib.hid fun A c hr hA => by
    have := clone_both A (o.b.drop d) c w hr hA (by omega)
    rwa [hdl] at this
  have FIN : Hid (∀ (w3 : World) (u : Value), w3.ownsRow w.heap.size 5 1 u (L - d) ((o.b.drop d).map B) → Below w.heap.size w w3 →
      OutB ((w3.setCell ⟨x, 1, none⟩ u).setCell ⟨x, 0, none⟩ (.int .u32 (a : Int))) n x u { o with first := a, b := o.b.drop d } ∧ (∀ k, u.ownBlock = some k → w.heap.size ≤ k) ∧ Tn (fun k => k = x) w ((w3.setCell ⟨x, 1, none⟩ u).setCell ⟨x, 0, none⟩ (.int .u32 (a : Int)))) := Lib.hid fun w3 u ho hb => by
    have h3 := h.below hb
    have hl : ∀ k, u.ownBlock = some k → w.heap.size ≤ k := fun k hk => (ho.lt k hk).1
    have hux : u.ownBlock ≠ some x := fun e1 => by have := hl x e1; omega
    have hnm : w3.ownsRow n 5 1 u (L - d) ((o.b.drop d).map B) := ⟨ho.1, ho.2.imp (fun q => q) fun ⟨g, cap, cur, q1, q2, q3⟩ => ⟨g, cap, cur, q1, Nat.le_trans hn q2, q3⟩⟩
    refine ⟨⟨?_, ?_, ?_, ha, hux, h.nx⟩, hl, (Tn.of hb).trans (G := fun k => k = x) ⟨rfl, rfl, rfl, by simp, fun k hk hx => ?_⟩ fun j hj => .inl hj⟩
    · rw [bk_setCell_same, bk_setCell_same, h3.box]
      rfl
    · rw [← hdl] at hnm
      refine own_turn hnm fun k hk => ?_
      have : k ≠ x := fun e1 => hux (e1 ▸ hk)
      rw [bk_setCell_other _ _ _ _ _ this, bk_setCell_other _ _ _ _ _ this]
    · show (o.b.drop d).length ≤ 8192
      omega
    · rw [bk_setCell_other _ _ _ _ _ hx, bk_setCell_other _ _ _ _ _ hx]
  have HRD := Lib.hid hrd
  have HA := Lib.hid hA0
  have HL := Lib.hid hL
  clear h hdd hsp hdl hrd hA0 hL
  go_enter Try.func20, Try.ntmps20
  go_wp2_with fail
  refine (C.out).mono ?_
  rintro e w1 ⟨rfl, hw⟩
  subst hw
  go_wp2_with fail
  refine (CS.out).mono ?_
  rintro e w1 ⟨rfl, hw⟩
  subst hw
  go_wp2_with fail
  · refine (CC.out _ _ (fun h0 => ?_) (fun h0 => ?_)).mono ?_
    · rw [List.length_drop] at h0
      have := HL.out
      omega
    · obtain ⟨h1, h2⟩ := HA.out h0
      refine ⟨by rw [h1]; simp, by omega⟩
    · skip
      rintro r w3 ⟨u, rfl, ho, hb⟩
      have F3 := Lib.hid (FIN.out w3 u ho hb)
      have k3 := bk_keep hb (bk_lt HI.out.box) HI.out.box
      have fr1 := bk_frozen k3 1
      have e1 := bk_cell k3 1
      have fr0 := bk_frozen k3 0
      have e0 := bk_cell k3 0
      simp [outC] at e1 e0
      have l3 := bk_lt k3
      obtain ⟨A4, c4, hv4⟩ := own_slice ho
      clear ho hb k3 CC FIN
      subst hv4
      go_wp2_with fail
      go_ret
      exact ⟨by simp, _, F3.out⟩
  · refine (CC.out _ _ ?_ (fun h0 => ?_)).mono ?_
    · have := HRD.out.adv (c := k0) (m := d) (by have := HL.out; omega)
      unfold adv at this
      rw [if_neg (by assumption)] at this
      exact this
    · have h1 := HA.out (by simpa using h0)
      have h2 := HL.out
      rw [h1.1] at h2
      simp at h2
      omega
    · skip
      rintro r w3 ⟨u, rfl, ho, hb⟩
      have F3 := Lib.hid (FIN.out w3 u ho hb)
      have k3 := bk_keep hb (bk_lt HI.out.box) HI.out.box
      have fr1 := bk_frozen k3 1
      have e1 := bk_cell k3 1
      have fr0 := bk_frozen k3 0
      have e0 := bk_cell k3 0
      simp [outC] at e1 e0
      have l3 := bk_lt k3
      obtain ⟨A4, c4, hv4⟩ := own_slice ho
      clear ho hb k3 CC FIN
      subst hv4
      go_wp2_with fail
      go_ret
      exact ⟨by simp, _, F3.out⟩
end Go.Proofs.Ytjnfdpakpdahkaa

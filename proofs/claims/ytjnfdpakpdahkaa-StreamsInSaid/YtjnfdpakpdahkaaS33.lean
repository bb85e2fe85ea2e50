/- A book's lists are apart: only their own cells turn. -/
import Derived.Test.YtjnfdpakpdahkaaS18
namespace Go.Proofs.Ytjnfdpakpdahkaa
open Go.RowKit
set_option maxRecDepth 100000
set_option maxHeartbeats 2000000 in
theorem apart_wrt (bb base : Nat) (L : List Lf) (w : World) (h : BK w bb base (L.map Lf.val)) (_hbb : base ≤ bb) (hbase : base ≤ w.heap.size) (hL : ∀ l ∈ L, LfOK base w l) (hd : Dis L) (hN : L.length < 2 ^ 40) :
    Calls Try.prog 26 #[.pointer (some ⟨bb, 0, none⟩)] w fun e w' => e = .returned (.bool true) ∧ Wrt (rgs L) w w' := by
  obtain ⟨A, cp, hb, hg⟩ := h.cellsAt
  rw [List.length_map] at hb hg
  obtain ⟨N, hNL⟩ : ∃ N, N = L.length := ⟨_, rfl⟩
  rw [← hNL] at hb hg hN
  have HB := Lib.hid hb; have HG := Lib.hid hg; have HL := Lib.hid hL; have HD := Lib.hid hd; have HNL := Lib.hid hNL
  have c0 := bk_cell hb 0
  simp at c0
  clear hb hg hL hd h hNL
  by_cases hbig : 120 < N
  · have d1 : decide (120 < (N : Int)) = true := by simp; omega
    have d2 : decide (120 < N) = true := by simp; omega
    go_enter Try.func26, Try.ntmps26
    go_wp2
    go_ret
    exact ⟨rfl, Wrt.refl _ _⟩
  · have d1 : decide (120 < (N : Int)) = false := by simp; omega
    have d2 : decide (120 < N) = false := by simp; omega
    have hN2 : N ≤ 120 := by omega
    clear hbig
    go_enter Try.func26, Try.ntmps26
    go_wp2
    go_loopw [3] (fun i wr => ∃ k : Nat, k ≤ N ∧ i = .int .i64 k ∧ Wrt (rgs L) w wr ∧ Hid (∀ (m : Nat) (l : Lf), L[m]? = some l → m < k → Has wr l.A 0 l.n (B l.i))) (fun i _ => N - (intOf i).toNat)
    case atStart => exact ⟨0, by omega, rfl, Wrt.refl _ _, Lib.hid fun m l _ h => absurd h (by omega)⟩
    case round =>
      obtain ⟨k, hk, rfl, hW, hdone⟩ := hrel
      have c1 := bk_cell (hW.other HL.out HB.out (by decide)) 0
      simp at c1
      by_cases hlt : k < N
      · have d3 : decide ((k : Int) < (N : Int)) = true := by simp; omega
        obtain ⟨g, cur, rfl, hg, hcells⟩ := HG.out (by omega)
        obtain ⟨l, hl⟩ : ∃ l, L[k]? = some l := ⟨L[k]'(by rw [← HNL.out]; exact hlt), List.getElem?_eq_getElem _⟩
        have hlm : l ∈ L := List.mem_of_getElem? hl
        have c2 := bk_cell (hW.other HL.out hg (by decide)) k
        rw [hcells k l.val (by rw [List.getElem?_map, hl]; rfl)] at c2
        have C := Lib.hid (fill_any l.A l.n l.c l.i l.x wr ((HL.out l hlm).wrt hW).room (HL.out l hlm).le (HL.out l hlm).small)
        have HLK := Lib.hid hl
        clear hg hcells hl
        go_wp2_with (refine wpList_invoke rfl _ _ _ rfl 67 _ _ 69 _ _ rfl (m_fill _ _ _ _ _ _) (e_fill _ _) C.out ?_)
        intro w1 hR1 hR2
        have HR := Lib.hid (And.intro hR1 hR2)
        clear hR1 hR2 C
        go_wp2_with fail
        go_roundw
        case rel =>
          refine ⟨k + 1, by omega, by go_num, hW.trans (HR.out.1.mono fun b j hs => ⟨l, hlm, rg_mono hs (Nat.le_refl _) (HL.out l hlm).le⟩), Lib.hid fun m l' hm hk' => ?_⟩
          by_cases e : m = k
          · subst e
            obtain rfl : l = l' := Option.some.inj (HLK.out.symm.trans hm)
            exact HR.out.2
          · exact (hdone.out m l' hm (by omega)).keep HR.out.1 fun b j h1 h2 => HD.out m k l' l e hm HLK.out b j (rg_mono h1 (Nat.le_refl _) (HL.out l' (List.mem_of_getElem? hm)).le) (rg_mono h2 (Nat.le_refl _) (HL.out l hlm).le)
        case measure => simp [intOf]; omega
      · have d3 : decide ((k : Int) < (N : Int)) = false := by simp; omega
        obtain rfl : k = N := by omega
        have HW1 := Lib.hid hW
        have HD1 := Lib.hid (fun (m : Nat) (l : Lf) (hm : L[m]? = some l) => hdone.out m l hm (by rw [HNL.out]; exact (List.getElem?_eq_some_iff.1 hm).1))
        clear hlt hW hdone
        go_wp2_with fail
        go_loopw [4] (fun i w2 => ∃ j : Nat, j ≤ k ∧ i = .int .i64 j ∧ Wrt (rgs L) w w2 ∧ Hid (∀ (m : Nat) (l : Lf), L[m]? = some l → Has w2 l.A 0 l.n (B l.i) ∧ (m < j → Has w2 l.A l.n l.c (B l.x)))) (fun i _ => k - (intOf i).toNat)
        case atStart => exact ⟨0, by omega, rfl, HW1.out, Lib.hid fun m l hm => ⟨HD1.out m l hm, fun h => absurd h (by omega)⟩⟩
        case round =>
          clear c1 HW1 HD1
          obtain ⟨j, hj, rfl, hW, hdone⟩ := hrel
          have c1 := bk_cell (hW.other HL.out HB.out (by decide)) 0
          simp at c1
          by_cases hlt : j < k
          · have d3 : decide ((j : Int) < (k : Int)) = true := by simp; omega
            obtain ⟨g, cur, rfl, hg, hcells⟩ := HG.out (by omega)
            obtain ⟨l, hl⟩ : ∃ l, L[j]? = some l := ⟨L[j]'(by rw [← HNL.out]; exact hlt), List.getElem?_eq_getElem _⟩
            have hlm : l ∈ L := List.mem_of_getElem? hl
            have c2 := bk_cell (hW.other HL.out hg (by decide)) j
            rw [hcells j l.val (by rw [List.getElem?_map, hl]; rfl)] at c2
            have C := Lib.hid (fillRoom_any l.A l.n l.c l.i l.x wr ((HL.out l hlm).wrt hW).room (HL.out l hlm).le (HL.out l hlm).small)
            have HLK := Lib.hid hl
            clear hg hcells hl
            go_wp2_with (refine wpList_invoke rfl _ _ _ rfl 67 _ _ 70 _ _ rfl (m_fillRoom _ _ _ _ _ _) (e_fillRoom _ _) C.out ?_)
            intro w1 hR1 hR2
            have HR := Lib.hid (And.intro hR1 hR2)
            clear hR1 hR2 C
            go_wp2_with fail
            go_roundw
            case rel =>
              have hle := (HL.out l hlm).le
              refine ⟨j + 1, by omega, by go_num, hW.trans (HR.out.1.mono fun b j hs => ⟨l, hlm, rg_mono hs (by omega) (Nat.le_refl _)⟩), Lib.hid fun m l' hm => ⟨?_, fun hk' => ?_⟩⟩
              · refine (hdone.out m l' hm).1.keep HR.out.1 fun b q h1 h2 => ?_
                by_cases e : m = j
                · subst e
                  obtain rfl : l = l' := Option.some.inj (HLK.out.symm.trans hm)
                  obtain ⟨o, e1, e2⟩ := h1
                  obtain ⟨o', e3, e4⟩ := h2
                  rw [e1] at e3
                  cases e3
                  omega
                · exact HD.out m j l' l e hm HLK.out b q (rg_mono h1 (Nat.le_refl _) (HL.out l' (List.mem_of_getElem? hm)).le) (rg_mono h2 (by omega) (Nat.le_refl _))
              · by_cases e : m = j
                · subst e
                  obtain rfl : l = l' := Option.some.inj (HLK.out.symm.trans hm)
                  exact HR.out.2
                · exact ((hdone.out m l' hm).2 (by omega)).keep HR.out.1 fun b q h1 h2 => HD.out m j l' l e hm HLK.out b q (rg_mono h1 (by omega) (Nat.le_refl _)) (rg_mono h2 (by omega) (Nat.le_refl _))
            case measure => simp [intOf]; omega
          · have d3 : decide ((j : Int) < (k : Int)) = false := by simp; omega
            obtain rfl : j = k := by omega
            have HW2 := Lib.hid hW
            have HD2 := Lib.hid (fun (m : Nat) (l : Lf) (hm : L[m]? = some l) => And.intro (hdone.out m l hm).1 ((hdone.out m l hm).2 (by rw [HNL.out]; exact (List.getElem?_eq_some_iff.1 hm).1)))
            clear hlt hW hdone
            go_wp2_with fail
            obtain ⟨wo, rfl⟩ : ∃ wo : World, wo = wr := ⟨_, rfl⟩
            go_loopw [5] (fun i w3 => ∃ q : Nat, q ≤ j ∧ i = .int .i64 q ∧ Below wo.heap.size wo w3) (fun i _ => j - (intOf i).toNat)
            case atStart => exact ⟨0, by omega, rfl, Below.refl _ _⟩
            case round =>
              obtain ⟨q, hq, rfl, hB3⟩ := hrel
              clear c1
              have hWr : Wrt (rgs L) w wr := HW2.out.trans (Wrt.of_below hB3)
              have c1 := bk_cell (hWr.other HL.out HB.out (by decide)) 0
              simp at c1
              have HWR := Lib.hid hWr
              clear hWr
              by_cases hlt : q < j
              · have d3 : decide ((q : Int) < (j : Int)) = true := by simp; omega
                obtain ⟨g, cur, rfl, hg, hcells⟩ := HG.out (by omega)
                obtain ⟨l, hl⟩ : ∃ l, L[q]? = some l := ⟨L[q]'(by rw [← HNL.out]; exact hlt), List.getElem?_eq_getElem _⟩
                have hlm : l ∈ L := List.mem_of_getElem? hl
                have c2 := bk_cell (HWR.out.other HL.out hg (by decide)) q
                rw [hcells q l.val (by rw [List.getElem?_map, hl]; rfl)] at c2
                have hroom := ((HL.out l hlm).wrt HW2.out).room
                have hkeep : ∀ {lo hi : Nat} {v : Value}, Has wo l.A lo hi v → Has wr l.A lo hi v := fun hh => hh.keep (S := fun _ _ => False) (Wrt.of_below hB3) fun _ _ _ hf => hf
                have C := Lib.hid (kept_any l.A l.n l.c l.i l.x wr (hkeep (HD2.out q l hl).1) (hkeep (HD2.out q l hl).2) (fun hc => by
                  obtain ⟨b, o, cur', e, hb, _⟩ := hroom hc
                  exact ⟨b, o, e, Nat.lt_of_lt_of_le (bk_lt hb) hB3.size⟩) (HL.out l hlm).le (HL.out l hlm).small)
                have HLK := Lib.hid hl
                clear hg hcells hl hroom hkeep
                go_wp2_with (refine wpList_invoke rfl _ _ _ rfl 67 _ _ 71 _ _ rfl (m_kept _ _ _ _ _ _) (e_kept _ _) C.out ?_)
                intro w1 hR
                clear C
                go_wp2_with fail
                go_roundw
                case rel => exact ⟨q + 1, by omega, by go_num, hB3.trans (hR.mono hB3.size)⟩
                case measure => simp [intOf]; omega
              · have d3 : decide ((q : Int) < (j : Int)) = false := by simp; omega
                have d4 : decide (q < j) = false := by simp; omega
                clear hlt
                go_wp2_with fail
                go_ret
                exact ⟨rfl, HWR.out⟩
theorem apart_Wk (bb base : Nat) (L : List Lf) (w : World) (h : Bk w bb base L) (hbb : base ≤ bb) (hbase : base ≤ w.heap.size) (hN : L.length < 2 ^ 40) :
    Calls Try.prog 26 #[.pointer (some ⟨bb, 0, none⟩)] w fun e w' => e = .returned (.bool true) ∧ Wrt (rgs L) w w' :=
  apart_wrt bb base L w h.book hbb hbase h.ok h.dis hN
end Go.Proofs.Ytjnfdpakpdahkaa

/- Frames got: the document's. -/
import Derived.Test.YtdmmfffoikelgaaE6
namespace Go.Proofs.Ytdmmfffoikelgaa
open Go.RowKit
set_option maxRecDepth 100000
theorem rfget_short (A : Option Addr) (n c : Nat) (w : World) (hl : n < 14) :
    Calls Try.prog 20 #[.slice A n c] w fun e w' => e = .returned (.tuple #[zfr, .int .i64 5]) ∧ Below w.heap.size w w' := by
  have d1 : decide ((n : Int) < 14) = true := by simp; omega
  go_enter Try.func20, Try.ntmps20
  go_wp2_with fail
  refine ret_two (cs := frc (List.replicate 6 0) (List.replicate 6 0) 0 none 0 0) rfl rfl rfl rfl ?_ Try.underlying27 rfl (by kernel_rfl) ?_
  rotate_left
  · refine ⟨rfl, ?_⟩
    (repeat (first | exact Below.refl _ _ | assumption | refine Below.drew ?_ | refine bdrewN ?_ _ | refine Below.alloc ?_ (by first | omega | (simp <;> omega) | (simp only [World.size_alloc] <;> omega)) _ | refine below_setRow ?_ (by first | omega | (simp <;> omega)) _ | refine Below.setCell ?_ (by first | omega | (simp <;> omega)) _))
  · simp [go_sem]
theorem rfget_limit (A : Option Addr) (n c : Nat) (w : World) (hl : 1514 < n) :
    Calls Try.prog 20 #[.slice A n c] w fun e w' => e = .returned (.tuple #[zfr, .int .i64 3]) ∧ Below w.heap.size w w' := by
  have d1 : decide ((n : Int) < 14) = false := by simp; omega
  have d2 : decide (1514 < (n : Int)) = true := by simp; omega
  go_enter Try.func20, Try.ntmps20
  go_wp2_with fail
  refine ret_two (cs := frc (List.replicate 6 0) (List.replicate 6 0) 0 none 0 0) rfl rfl rfl rfl ?_ Try.underlying27 rfl (by kernel_rfl) ?_
  rotate_left
  · refine ⟨rfl, ?_⟩
    (repeat (first | exact Below.refl _ _ | assumption | refine Below.drew ?_ | refine bdrewN ?_ _ | refine Below.alloc ?_ (by first | omega | (simp <;> omega) | (simp only [World.size_alloc] <;> omega)) _ | refine below_setRow ?_ (by first | omega | (simp <;> omega)) _ | refine Below.setCell ?_ (by first | omega | (simp <;> omega)) _))
  · simp [go_sem]
@[go_sem] theorem builtFrame_kind (x : Int) : Try.prog.built 27 [(2, .int .u16 x)] = some #[.int .u8 0, .int .u8 0, .int .u8 0, .int .u8 0, .int .u8 0, .int .u8 0, .int .u8 0, .int .u8 0, .int .u8 0, .int .u8 0, .int .u8 0, .int .u8 0, .int .u16 x, .slice none 0 0] := by rw [builtFrame]; rfl
theorem frc_setD {d s : List UInt8} {k : Nat} {A : Option Addr} {n c : Nat} (hd : d.length = 6) (i : Nat) (hi : i < 6) (b : UInt8) : (frc d s k A n c).setIfInBounds i (B b) = frc (d.set i b) s k A n c := by
  unfold frc
  rw [List.setIfInBounds_toArray, List.set_append_left _ _ (by simp [hd, hi]), List.map_set]
theorem frc_setS {d s : List UInt8} {k : Nat} {A : Option Addr} {n c : Nat} (hd : d.length = 6) (hs : s.length = 6) (i : Nat) (hi : i < 6) (b : UInt8) : (frc d s k A n c).setIfInBounds (6 + i) (B b) = frc d (s.set i b) k A n c := by
  unfold frc
  rw [List.setIfInBounds_toArray, List.set_append_right _ _ (by simp [hd]), show 6 + i - (List.map B d).length = i by simp [hd], List.set_append_left _ _ (by simp [hs, hi]), List.map_set]
theorem take_set {d : List UInt8} {l : List UInt8} {k : Nat} (hd : d.take k = l.take k) (hk : k < d.length) (hl : k < l.length) : (d.set k l[k]).take (k + 1) = l.take (k + 1) := by
  rw [List.take_succ_eq_append_getElem (by simpa using hk), List.take_succ_eq_append_getElem hl, List.take_set_of_le (Nat.le_refl _), hd]
  simp
def zf (k : Nat) : Obj := .cells (frc (List.replicate 6 0) (List.replicate 6 0) k none 0 0) 27 (0, 0)
/-- What the document gets. -/
def RGot (l : List UInt8) (w : World) (e : Ending) (w' : World) : Prop :=
  ∃ A' c', e = .returned (.tuple #[.agg (frc (l.take 6) ((l.drop 6).take 6) (val ((l.drop 12).take 2)) A' (l.drop 14).length c'), .int .i64 0]) ∧ Rd w' w'.heap.size A' (l.drop 14) ∧ Below w.heap.size w w'
theorem own_lo {w : World} {base n c : Nat} {A : Option Addr} {xs : List Value} (h : w.ownsRow base 5 1 (.slice A n c) n xs) : ∀ b o, A = some ⟨b, o, none⟩ → base ≤ b := fun b o e => by
  obtain ⟨_, ⟨h1, h0⟩ | ⟨g, cap, cur, h1, hg, _⟩⟩ := h
  · cases h1; cases e
  · cases h1; cases e; exact hg
theorem cell_of_bk {w w' : World} {b : Nat} (h : bk w' b = bk w b) (o : Nat) : w'.cell? ⟨b, o, none⟩ = w.cell? ⟨b, o, none⟩ := by
  have h' : w'.heap[b]? = w.heap[b]? := h
  simp only [World.cell?, h']
theorem Rd.turn {w w' : World} {n n' : Nat} {A : Option Addr} {l : List UInt8} (h : Rd w n A l) (hc : ∀ b o, A = some ⟨b, o, none⟩ → ∀ j, w'.cell? ⟨b, o + j, none⟩ = w.cell? ⟨b, o + j, none⟩) (hn : n ≤ n') : Rd w' n' A l := fun h0 => by
  obtain ⟨b, o, e, hlt, hj⟩ := h h0
  exact ⟨b, o, e, by omega, fun j hj' => (hc b o e j).trans (hj j hj')⟩
set_option maxHeartbeats 1000000 in
theorem rfget_good (A : Option Addr) (l : List UInt8) (c : Nat) (w : World) (h : Rd w w.heap.size A l) (hA : A = none → l = [] ∧ c = 0) (hc : l.length ≤ c) (h1 : 14 ≤ l.length) (h2 : l.length ≤ 1514) :
    Calls Try.prog 20 #[.slice A l.length c] w (RGot l w) := by
  obtain ⟨b, o, rfl, hb, hcl⟩ := h (by omega)
  have H := Lib.hid h
  have c12 := hcl 12 (by omega)
  have c13 := hcl 13 (by omega)
  have HCL := Lib.hid hcl
  have d1 : decide ((l.length : Int) < 14) = false := by simp; omega
  have d2 : decide (1514 < (l.length : Int)) = false := by simp; omega
  have hkv : val ((l.drop 12).take 2) = 256 * l[12].toNat + l[13].toNat := by
    rw [List.drop_eq_getElem_cons (by omega), List.drop_eq_getElem_cons (by omega)]
    simp only [List.take_succ_cons, List.take_zero, val, List.foldl_cons, List.foldl_nil]
    show 256 * (256 * 0 + l[12].toNat) + l[13].toNat = _
    omega
  have y12 := l[12].toNat_lt
  have y13 := l[13].toNat_lt
  have hkz : (256 : Int) * (l[12].toNat : Int) + (l[13].toNat : Int) = (val ((l.drop 12).take 2) : Int) := by rw [hkv]; omega
  obtain ⟨kd, hkd⟩ : ∃ kd, kd = val ((l.drop 12).take 2) := ⟨_, rfl⟩
  have HKD := Lib.hid hkd
  clear h hcl hkv hkd
  go_enter Try.func20, Try.ntmps20
  go_wp2_with fail
  go_region
  go_wp2_with fail
  have FB : Below w.heap.size w ((w.alloc (zf 0)).alloc (zf kd)).drew := (((Below.refl _ _).alloc (Nat.le_refl _) _).alloc (by simp) _).drew
  have HFB := Lib.hid FB
  clear FB c12 c13 y12 y13 hkz
  go_loopw [5] (fun i' wr => ∃ (k : Nat) (d s : List UInt8), k ≤ 6 ∧ d.length = 6 ∧ s.length = 6 ∧ d.take k = l.take k ∧ s.take k = (l.drop 6).take k ∧ i' = .int .i64 k ∧ Below w.heap.size w wr ∧ bk wr w.heap.size = some (zf 0) ∧ bk wr (w.heap.size + 1) = some (.cells (frc d s kd none 0 0) 27 (0, 0))) (fun i _ => 6 - (intOf i).toNat)
  case atStart =>
    refine ⟨0, List.replicate 6 0, List.replicate 6 0, by omega, rfl, rfl, rfl, rfl, rfl, ?_, ?_, ?_⟩
    · rw [← HKD.out]; exact HFB.out
    · rw [bk_drew, bk_alloc_past _ _ _ (by simp), bk_alloc_at _ _ _ rfl]; rfl
    · rw [bk_drew, bk_alloc_at _ _ _ (by simp), ← HKD.out]; rfl
  case round =>
    obtain ⟨k, d, s, hk, hd, hs, hdk, hsk, rfl, hbel, hz, hf⟩ := hrel
    have hzl := bk_lt hf
    by_cases hlt : k < 6
    · have d1 : decide ((k : Int) < 6) = true := by simp; omega
      have ha := (hbel.cell (p := ⟨b, o + k, none⟩) (by show b < _; omega)).trans (HCL.out k (by omega))
      have hb' := (hbel.cell (p := ⟨b, o + (6 + k), none⟩) (by show b < _; omega)).trans (HCL.out (6 + k) (by omega))
      have hwk : IntKind.i64.wrap (6 + (k : Int)) = 6 + (k : Int) := by rw [IntKind.wrap_i64]; omega
      have htn : (6 + (k : Int)).toNat = 6 + k := by omega
      have hfz := bk_frozen hf k
      have hfz' := bk_frozen hf (6 + k)
      have hck : wr.cell? ⟨w.heap.size + 1, k, none⟩ = some (B d[k]) := by rw [bk_cell hf]; simp [frc, List.getElem?_append, hd, hlt]
      have hcs : wr.cell? ⟨w.heap.size + 1, 6 + k, none⟩ = some (B s[k]) := by rw [bk_cell hf]; simp [frc, List.getElem?_append, hd, hs, hlt]
      have HF := Lib.hid hf; have HZ := Lib.hid hz; have HB := Lib.hid hbel
      have hbl : ¬ b = w.heap.size + 1 := by omega
      clear hf hz hbel
      go_wp2_with fail
      go_roundw
      case rel =>
        refine ⟨k + 1, d.set k l[k], s.set k l[6 + k], by omega, by simpa using hd, by simpa using hs, take_set hdk (by omega) (by omega), ?_, by go_num, (HB.out.setCell (show w.heap.size ≤ w.heap.size + 1 by omega) _).setCell (show w.heap.size ≤ w.heap.size + 1 by omega) _, ?_, ?_⟩
        · have := take_set (l := l.drop 6) hsk (by omega) (by rw [List.length_drop]; omega)
          rwa [List.getElem_drop] at this
        · rw [bk_setCell_other _ _ _ _ _ (by omega), bk_setCell_other _ _ _ _ _ (by omega)]; exact HZ.out
        · rw [bk_setCell_same, bk_setCell_same, HF.out]
          show some (Obj.cells (((frc d s kd none 0 0).setIfInBounds k (B l[k])).setIfInBounds (6 + k) (B l[6 + k])) _ _) = _
          rw [frc_setD hd k hlt, frc_setS (by simpa using hd) hs k hlt]
      case measure => simp [intOf]; omega
    · have d1 : decide ((k : Int) < 6) = false := by simp; omega
      obtain rfl : k = 6 := by omega
      have hd' : d = l.take 6 := by rw [← hdk, List.take_of_length_le (by omega)]
      have hs' : s = (l.drop 6).take 6 := by rw [← hsk, List.take_of_length_le (by omega)]
      subst hd' hs'
      have RD := Lib.hid ((H.out.below hbel (Nat.le_refl _)).mono hbel.size)
      clear hdk hsk
      have hlr : l.length - 14 = (l.drop 14).length := by rw [List.length_drop]
      have HLR := Lib.hid hlr
      have HF := Lib.hid hf; have HZ := Lib.hid hz; have HB := Lib.hid hbel
      clear hlr hf hz hbel
      by_cases hc14 : c = 14
      · have RA : Hid (Rd wr wr.heap.size (some ⟨b, o, none⟩) (l.drop 14)) := Lib.hid (by rw [List.drop_of_length_le (by omega)]; exact Rd.nil)
        go_wp2_with (at_builtin; refine append_rd rfl _ _ rfl wr.heap.size (.slice none 0 0) 0 [] rfl (World.ownsRow_nil _ _ _ _) (some ⟨b, o, none⟩) (l.drop 14) (c - 14) (by rw [← HLR.out]; first | rfl | (rw [hc14]; rfl)) (fun h => by cases h) RA.out (by rw [← HLR.out]; omega) (Nat.le_refl _) ?_)
        intro v1 w1 hown hgrow
        rw [HLR.out, ← List.map_drop] at hown
        obtain ⟨A1, c1, rfl, hR1, _, hle1⟩ := Rd.of_own hown rfl
        have HLO := Lib.hid (own_lo hown)
        have b1 : Below wr.heap.size wr w1 := (Below.refl _ _).grown hgrow (Nat.le_refl _) (fun k hk => by simp [Value.ownBlock] at hk)
        have k1 := bk_keep b1 hzl HF.out
        have k2 : bk w1 w.heap.size = some (.cells (frc (List.replicate 6 0) (List.replicate 6 0) 0 none 0 0) 27 (0, 0)) := bk_keep b1 (by omega) HZ.out
        have f1 := Lib.hid (HB.out.trans (b1.mono HB.out.size))
        have hf13 := bk_frozen k1 13
        have hc13 := (bk_cell k1 13).trans (frc_body hd hs)
        have HR1 := Lib.hid hR1; have K1 := Lib.hid k1; have K2 := Lib.hid k2
        clear b1 hown hgrow hR1
        go_wp2_with fail
        refine ret_two (cs := frc (l.take 6) ((l.drop 6).take 6) kd A1 (l.length - 14) c1) rfl rfl rfl rfl ?_ Try.underlying27 rfl (by rw [frc_size hd hs]; kernel_rfl) ?_
        rotate_left
        · refine ⟨A1, c1, by rw [← HKD.out, ← HLR.out]; rfl, HR1.out.turn (fun b o e j => ?_) (by simp [World.setRow, World.setCell]), below_setRow (f1.out.setCell (show w.heap.size ≤ w.heap.size + 1 by omega) _) (Nat.le_refl _) _⟩
          have hlo := HLO.out b o e
          refine cell_of_bk ?_ _
          rw [bk_setRow_other _ _ _ _ (by omega), bk_setCell_other _ _ _ _ _ (by omega)]
        · rw [bk_setRow_same, bk_setCell_other _ _ _ _ _ (by omega), K2.out]; rfl
      · have RA : Hid (Rd wr wr.heap.size (some ⟨b, o + 14, none⟩) (l.drop 14)) := Lib.hid (by
          have := RD.out.adv (c := c) (m := 14) hc
          unfold adv at this
          rwa [if_neg hc14] at this)
        go_wp2_with (at_builtin; refine append_rd rfl _ _ rfl wr.heap.size (.slice none 0 0) 0 [] rfl (World.ownsRow_nil _ _ _ _) (some ⟨b, o + 14, none⟩) (l.drop 14) (c - 14) (by rw [← HLR.out]; first | rfl | (rw [hc14]; rfl)) (fun h => by cases h) RA.out (by rw [← HLR.out]; omega) (Nat.le_refl _) ?_)
        intro v1 w1 hown hgrow
        rw [HLR.out, ← List.map_drop] at hown
        obtain ⟨A1, c1, rfl, hR1, _, hle1⟩ := Rd.of_own hown rfl
        have HLO := Lib.hid (own_lo hown)
        have b1 : Below wr.heap.size wr w1 := (Below.refl _ _).grown hgrow (Nat.le_refl _) (fun k hk => by simp [Value.ownBlock] at hk)
        have k1 := bk_keep b1 hzl HF.out
        have k2 : bk w1 w.heap.size = some (.cells (frc (List.replicate 6 0) (List.replicate 6 0) 0 none 0 0) 27 (0, 0)) := bk_keep b1 (by omega) HZ.out
        have f1 := Lib.hid (HB.out.trans (b1.mono HB.out.size))
        have hf13 := bk_frozen k1 13
        have hc13 := (bk_cell k1 13).trans (frc_body hd hs)
        have HR1 := Lib.hid hR1; have K1 := Lib.hid k1; have K2 := Lib.hid k2
        clear b1 hown hgrow hR1
        go_wp2_with fail
        refine ret_two (cs := frc (l.take 6) ((l.drop 6).take 6) kd A1 (l.length - 14) c1) rfl rfl rfl rfl ?_ Try.underlying27 rfl (by rw [frc_size hd hs]; kernel_rfl) ?_
        rotate_left
        · refine ⟨A1, c1, by rw [← HKD.out, ← HLR.out]; rfl, HR1.out.turn (fun b o e j => ?_) (by simp [World.setRow, World.setCell]), below_setRow (f1.out.setCell (show w.heap.size ≤ w.heap.size + 1 by omega) _) (Nat.le_refl _) _⟩
          have hlo := HLO.out b o e
          refine cell_of_bk ?_ _
          rw [bk_setRow_other _ _ _ _ (by omega), bk_setCell_other _ _ _ _ _ (by omega)]
        · rw [bk_setRow_same, bk_setCell_other _ _ _ _ _ (by omega), K2.out]; rfl
end Go.Proofs.Ytdmmfffoikelgaa

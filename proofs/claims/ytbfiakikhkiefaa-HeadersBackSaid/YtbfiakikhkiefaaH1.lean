/- Headers: the walk's box, and its smaller methods. -/
import Derived.Test.YtbfiakikhkiefaaH0
import Derived.Test.YtbfiakikhkiefaaMgD
import Derived.BigRegion
namespace Go.Proofs.Ytbfiakikhkiefaa
open Go.RowKit
set_option maxRecDepth 100000
set_option maxHeartbeats 1000000
/-- A walk through a chain. -/
structure Wk where
  nx : UInt8
  b : List UInt8
  p : Nat
  told : Nat
  fs : Bool
  mc : Bool
  al : Bool
  fi : Bool
  fid : Nat
  fo : Nat
  fm : Bool
  code : Nat
  fat : Nat
def wkC (s : Wk) (v : Value) : Array Value := #[B s.nx, v, .int .i64 (s.p : Int), .int .i64 (s.told : Int), .bool s.fs, .bool s.mc, .bool s.al, .bool s.fi, .int .u32 (s.fid : Int), .int .u16 (s.fo : Int), .bool s.fm, .int .u8 (s.code : Int), .int .u32 (s.fat : Int)]
theorem wkC_size (s : Wk) (v : Value) : (wkC s v).size = 13 := rfl
/-- The walk's box at x: its bytes lie below n. -/
def WB (w : World) (n x : Nat) (s : Wk) (AA : Option Addr) (cc : Nat) : Prop :=
  bk w x = some (.cells (wkC s (.slice AA s.b.length cc)) 76 (0, 0)) ∧ Rd w n AA s.b ∧ (AA = none → s.b = [] ∧ cc = 0) ∧ s.b.length ≤ cc ∧ n ≤ x
/-- One block alone turns, others may come. -/
structure Gb (g : Nat) (w w' : World) : Prop where
  os : w'.os = w.os
  tape : w'.tape = w.tape
  output : w'.output = w.output
  size : w.heap.size ≤ w'.heap.size
  old : ∀ k, k < w.heap.size → k ≠ g → bk w' k = bk w k
theorem Gb.refl (g : Nat) (w : World) : Gb g w w := ⟨rfl, rfl, rfl, Nat.le_refl _, fun _ _ _ => rfl⟩
theorem Gb.trans {g : Nat} {w w' w'' : World} (h : Gb g w w') (k : Gb g w' w'') : Gb g w w'' :=
  ⟨k.os.trans h.os, k.tape.trans h.tape, k.output.trans h.output, Nat.le_trans h.size k.size, fun i hi hg => (k.old i (Nat.lt_of_lt_of_le hi h.size) hg).trans (h.old i hi hg)⟩
theorem Gb.of {g : Nat} {w w' : World} (h : Below w.heap.size w w') : Gb g w w' := ⟨h.os, h.tape, h.output, h.size, fun i hi _ => h.block i hi⟩
theorem Gb.keep {g m : Nat} {w w' : World} {o : Obj} (h : Gb g w w') (hm : m ≠ g) (hk : bk w m = some o) : bk w' m = some o := (h.old m (bk_lt hk) hm).trans hk
theorem Gb.below {g n : Nat} {w w' : World} (h : Gb g w w') (hn : n ≤ g) (hw : n ≤ w.heap.size) : Below n w w' := ⟨h.os, h.tape, h.output, h.size, fun k hk => h.old k (by omega) (by omega)⟩
theorem Gb.setCell {g : Nat} {w w' : World} (h : Gb g w w') (i : Nat) (v : Value) : Gb g w (w'.setCell ⟨g, i, none⟩ v) :=
  ⟨h.os, h.tape, h.output, by rw [show (w'.setCell ⟨g, i, none⟩ v).heap.size = w'.heap.size by simp [World.setCell]]; exact h.size, fun k hk hg => (bk_setCell_other _ _ _ _ _ hg).trans (h.old k hk hg)⟩
theorem Gb.setRow {g : Nat} {w w' : World} (h : Gb g w w') (c : Array Value) : Gb g w (w'.setRow g c) :=
  ⟨h.os, h.tape, h.output, by simp [World.setRow]; exact h.size, fun k hk hg => (bk_setRow_other _ _ _ _ hg).trans (h.old k hk hg)⟩
theorem Gb.drew {g : Nat} {w w' : World} (h : Gb g w w') : Gb g w w'.drew := h.trans (Gb.of (Below.refl w'.heap.size w').drew)
theorem Rd.drop {w : World} {n b o size : Nat} {l : List UInt8} (h : Rd w n (some ⟨b, o, none⟩) l) (hs : size ≤ l.length) : Rd w n (some ⟨b, o + size, none⟩) (l.drop size) := fun h0 => by
  rw [List.length_drop] at h0
  obtain ⟨b', o', e, hlt, hc⟩ := h (by omega)
  cases e
  exact ⟨b, o + size, rfl, hlt, fun j hj => by rw [List.length_drop] at hj; rw [List.getElem_drop, Nat.add_assoc]; exact hc (size + j) (by omega)⟩
theorem Gb.rd {g n : Nat} {w w' : World} {A : Option Addr} {l : List UInt8} (h : Gb g w w') (hr : Rd w n A l) (hn : n ≤ g) (hg : g ≤ w.heap.size) : Rd w' n A l :=
  hr.below (h.below hn (by omega)) (Nat.le_refl _)
theorem size_any (n x : Nat) (s : Wk) (AA : Option Addr) (cc least : Nat) (w : World) (h : WB w n x s AA cc) (h1 : 2 ≤ least) (hl : least < 8) :
    Calls Try.prog 54 #[.pointer (some ⟨x, 0, none⟩), .int .i64 (least : Int)] w fun e w' => e = .returned (.int .i64 ((if s.b.length < least ∨ s.b.length < hsz s.b then 0 else hsz s.b : Nat) : Int)) ∧ w = w' := by
  obtain ⟨hb, hr, hN, hc, hn⟩ := h
  obtain ⟨nx, b, p, told, fs, mc, al, fi, fid, fo, fm, code, fat⟩ := s
  simp only at hr hN hc
  have c1 := bk_cell hb 1
  simp [wkC] at c1
  have lb := bk_lt hb
  obtain ⟨z, hz⟩ : ∃ z, z = hsz b := ⟨_, rfl⟩
  rw [← hz]
  by_cases hlt : b.length < least
  · have d1 : decide ((b.length : Int) < (least : Int)) = true := by simp; omega
    have d2 : decide (b.length < least) = true := by simp; omega
    rw [if_pos (.inl hlt)]
    clear hb hr hz
    go_enter Try.func54, Try.ntmps54
    go_wp2
    go_ret
    exact ⟨rfl, rfl⟩
  · have d1 : decide ((b.length : Int) < (least : Int)) = false := by simp; omega
    have d2 : decide (b.length < least) = false := by simp; omega
    obtain ⟨bb, o, rfl, hbn, hcl⟩ := hr (by omega)
    have u1 := hcl 1 (by omega)
    obtain ⟨y, hy⟩ : ∃ y, y = b[1] := ⟨_, rfl⟩
    rw [← hy] at u1
    have h1i : (1 : Int) < (b.length : Int) := by omega
    have hy8 := y.toNat_lt
    have f1 : IntKind.i64.wrap (y.toNat : Int) = (y.toNat : Int) := by rw [IntKind.wrap_i64]; omega
    have f2 : IntKind.i64.wrap ((y.toNat : Int) + 1) = (y.toNat : Int) + 1 := by rw [IntKind.wrap_i64]; omega
    have hzy : z = 8 * (y.toNat + 1) := by
      rw [hz, hy]; unfold hsz at8
      rw [List.getD_eq_getElem?_getD, List.getElem?_eq_getElem (by omega)]; rfl
    have f3 : IntKind.i64.wrap (((y.toNat : Int) + 1) * 8) = (z : Int) := by rw [IntKind.wrap_i64]; omega
    clear hb hcl hz hy hzy
    by_cases hgt : b.length < z
    · have d3 : decide ((b.length : Int) < (z : Int)) = true := by simp; omega
      have d4 : decide (b.length < z) = true := by simp; omega
      rw [if_pos (.inr hgt)]
      go_enter Try.func54, Try.ntmps54
      go_wp2
      go_ret
      exact ⟨rfl, rfl⟩
    · have d3 : decide ((b.length : Int) < (z : Int)) = false := by simp; omega
      have d4 : decide (b.length < z) = false := by simp; omega
      rw [if_neg (show ¬ (b.length < least ∨ b.length < z) by omega)]
      go_enter Try.func54, Try.ntmps54
      go_wp2
      go_ret
      exact ⟨rfl, rfl⟩
theorem pass_any (n x : Nat) (s : Wk) (AA : Option Addr) (cc size : Nat) (w : World) (h : WB w n x s AA cc) (h1 : 1 ≤ s.b.length) (hs : size ≤ s.b.length) (hp : s.p < 2 ^ 40) (hs2 : size < 2 ^ 40) :
    Calls Try.prog 48 #[.pointer (some ⟨x, 0, none⟩), .int .i64 (size : Int)] w fun e w' => ∃ A' c', e = .returned (.int .i64 0) ∧
      WB w' n x { s with nx := at8 s.b 0, b := s.b.drop size, p := s.p + size, told := s.p, fs := false } A' c' ∧ Gb x w w' := by
  obtain ⟨hb, hr, hN, hc, hn⟩ := h
  obtain ⟨nx, b, p, told, fs, mc, al, fi, fid, fo, fm, code, fat⟩ := s
  simp only at hr hN hc h1 hs hp hb ⊢
  obtain ⟨bb, o, rfl, hbn, hcl⟩ := hr (by omega)
  have u0 := hcl 0 (by omega)
  obtain ⟨y, hy⟩ : ∃ y, y = b[0] := ⟨_, rfl⟩
  rw [← hy] at u0
  simp only [Nat.add_zero] at u0
  have h0i : (0 : Int) < (b.length : Int) := by omega
  have c1 := bk_cell hb 1
  have c2 := bk_cell hb 2
  have c0 := bk_cell hb 0; have c3 := bk_cell hb 3; have c4 := bk_cell hb 4
  simp [wkC] at c0 c1 c2 c3 c4
  have h0n : 0 < b.length := by omega
  have z0 := bk_frozen hb 0; have z1 := bk_frozen hb 1; have z2 := bk_frozen hb 2; have z3 := bk_frozen hb 3; have z4 := bk_frozen hb 4
  have lb := bk_lt hb
  have hbx : bb ≠ x := by omega
  have LB := Lib.hid lb
  have HR := Lib.hid hr; have HB := Lib.hid hb; have HY := Lib.hid hy
  clear hr hb hcl hy
  have e1 : IntKind.i64.wrap ((p : Int) + (size : Int)) = ((p + size : Nat) : Int) := by rw [IntKind.wrap_i64]; omega
  obtain ⟨q, hq⟩ : ∃ q, q = p + size := ⟨_, rfl⟩
  rw [← hq] at e1 ⊢
  have h1s : decide (size ≤ b.length) = true := by simpa using hs
  have hsI : (size : Int) ≤ (b.length : Int) := by omega
  have hscI : (size : Int) ≤ (cc : Int) := by omega
  have hsc : size ≤ cc := by omega
  clear hq
  go_enter Try.func48, Try.ntmps48
  go_upto_region 1 with fail
  go_region
  have g1 : Gb x w (((w.setCell ⟨x, 0, none⟩ (Value.int IntKind.u8 y.toNat)).setCell ⟨x, 3, none⟩ (Value.int IntKind.i64 p)).setCell ⟨x, 4, none⟩ (Value.bool false)).drew := ((((Gb.refl x w).setCell 0 _).setCell 3 _).setCell 4 _).drew
  have k1 : bk (((w.setCell ⟨x, 0, none⟩ (Value.int IntKind.u8 y.toNat)).setCell ⟨x, 3, none⟩ (Value.int IntKind.i64 p)).setCell ⟨x, 4, none⟩ (Value.bool false)).drew x = some (.cells (wkC ⟨y, b, p, p, false, mc, al, fi, fid, fo, fm, code, fat⟩ (.slice (some ⟨bb, o, none⟩) b.length cc)) 76 (0, 0)) := by
    rw [bk_drew, bk_setCell_same, bk_setCell_same, bk_setCell_same, HB.out]; rfl
  have G1 := Lib.hid g1
  clear c0 c1 c2 c3 c4 z0 z1 z2 z3 z4 lb u0 g1 HB
  generalize (((w.setCell ⟨x, 0, none⟩ (Value.int IntKind.u8 y.toNat)).setCell ⟨x, 3, none⟩ (Value.int IntKind.i64 p)).setCell ⟨x, 4, none⟩ (Value.bool false)).drew = w1 at *
  have c1 := bk_cell k1 1; have c2 := bk_cell k1 2
  simp [wkC] at c1 c2
  have z1 := bk_frozen k1 1; have z2 := bk_frozen k1 2
  have lb := bk_lt k1
  have HB := Lib.hid k1
  clear k1
  have hbl : (b.drop size).length = b.length - size := by rw [List.length_drop]
  by_cases hcs : cc - size = 0
  · go_upto_region 2 with fail
    go_region
    have g2 : Gb x w1 ((w1.setCell ⟨x, 1, none⟩ (Value.slice (some ⟨bb, o, none⟩) (b.length - size) (0))).setCell ⟨x, 2, none⟩ (Value.int IntKind.i64 q)).drew := (((Gb.refl x w1).setCell 1 _).setCell 2 _).drew
    have k2 : bk ((w1.setCell ⟨x, 1, none⟩ (Value.slice (some ⟨bb, o, none⟩) (b.length - size) (0))).setCell ⟨x, 2, none⟩ (Value.int IntKind.i64 q)).drew x = some (.cells (wkC ⟨y, b.drop size, q, p, false, mc, al, fi, fid, fo, fm, code, fat⟩ (.slice (some ⟨bb, o, none⟩) (b.drop size).length (0))) 76 (0, 0)) := by
      rw [bk_drew, bk_setCell_same, bk_setCell_same, HB.out, hbl]; rfl
    have hbw := (G1.out.trans g2).rd HR.out hn (Nat.le_of_lt LB.out)
    have G2 := Lib.hid (G1.out.trans g2)
    have HF := Lib.hid (And.intro k2 hbw)
    clear g2 k2 hbw c1 c2 z1 z2 lb
    generalize ((w1.setCell ⟨x, 1, none⟩ (Value.slice (some ⟨bb, o, none⟩) (b.length - size) (0))).setCell ⟨x, 2, none⟩ (Value.int IntKind.i64 q)).drew = w2 at *
    go_wp2_with fail
    go_ret
    refine ⟨some ⟨bb, o, none⟩, 0, rfl, ⟨by rw [show at8 b 0 = y by rw [HY.out]; unfold at8; rw [List.getD_eq_getElem?_getD, List.getElem?_eq_getElem h0n]; rfl]; exact HF.out.1, ?_, (fun h => by cases h), by show (b.drop size).length ≤ _; omega, hn⟩, G2.out⟩
    have := HF.out.2
    first
      | exact this.drop hs
      | (show Rd _ _ _ (b.drop size); rw [List.drop_of_length_le (by omega)]; exact Rd.nil)
  · go_upto_region 2 with fail
    go_region
    have g2 : Gb x w1 ((w1.setCell ⟨x, 1, none⟩ (Value.slice (some ⟨bb, o + size, none⟩) (b.length - size) (cc - size))).setCell ⟨x, 2, none⟩ (Value.int IntKind.i64 q)).drew := (((Gb.refl x w1).setCell 1 _).setCell 2 _).drew
    have k2 : bk ((w1.setCell ⟨x, 1, none⟩ (Value.slice (some ⟨bb, o + size, none⟩) (b.length - size) (cc - size))).setCell ⟨x, 2, none⟩ (Value.int IntKind.i64 q)).drew x = some (.cells (wkC ⟨y, b.drop size, q, p, false, mc, al, fi, fid, fo, fm, code, fat⟩ (.slice (some ⟨bb, o + size, none⟩) (b.drop size).length (cc - size))) 76 (0, 0)) := by
      rw [bk_drew, bk_setCell_same, bk_setCell_same, HB.out, hbl]; rfl
    have hbw := (G1.out.trans g2).rd HR.out hn (Nat.le_of_lt LB.out)
    have G2 := Lib.hid (G1.out.trans g2)
    have HF := Lib.hid (And.intro k2 hbw)
    clear g2 k2 hbw c1 c2 z1 z2 lb
    generalize ((w1.setCell ⟨x, 1, none⟩ (Value.slice (some ⟨bb, o + size, none⟩) (b.length - size) (cc - size))).setCell ⟨x, 2, none⟩ (Value.int IntKind.i64 q)).drew = w2 at *
    go_wp2_with fail
    go_ret
    refine ⟨some ⟨bb, o + size, none⟩, cc - size, rfl, ⟨by rw [show at8 b 0 = y by rw [HY.out]; unfold at8; rw [List.getD_eq_getElem?_getD, List.getElem?_eq_getElem h0n]; rfl]; exact HF.out.1, ?_, (fun h => by cases h), by show (b.drop size).length ≤ _; omega, hn⟩, G2.out⟩
    have := HF.out.2
    first
      | exact this.drop hs
      | (show Rd _ _ _ (b.drop size); rw [List.drop_of_length_le (by omega)]; exact Rd.nil)
theorem faulty_any (n x : Nat) (s : Wk) (AA : Option Addr) (cc code p : Nat) (w : World) (h : WB w n x s AA cc) (_ : code < 256) (hp : p < 2 ^ 60) :
    Calls Try.prog 53 #[.pointer (some ⟨x, 0, none⟩), .int .u8 (code : Int), .int .i64 (p : Int)] w fun e w' => e = .returned (.int .i64 7) ∧ WB w' n x { s with code := code, fat := min p 4294967295 } AA cc ∧ Gb x w w' := by
  obtain ⟨hb, hr, hN, hcc, hn⟩ := h
  obtain ⟨nx, b, p0, told, fs, mc, al, fi, fid, fo, fm, code0, fat⟩ := s
  simp only at hr hN hcc hb ⊢
  have lb := bk_lt hb
  have HR := Lib.hid hr; have HB := Lib.hid hb
  have c11 := bk_cell hb 11; have c12 := bk_cell hb 12
  simp [wkC] at c11 c12
  have z11 := bk_frozen hb 11; have z12 := bk_frozen hb 12
  have LB := Lib.hid lb
  clear hb hr
  by_cases hpm : p ≤ 4294967295
  · have hq1 : min (p : Int) 4294967295 = (p : Int) := by omega
    have hq2 : IntKind.u32.wrap (p : Int) = (p : Int) := by rw [IntKind.wrap_u32]; omega
    have hq3 : (p : Int) ≤ 4294967295 := by omega
    have hm : min p 4294967295 = p := by omega
    rw [hm]
    clear hm
    go_enter Try.func53, Try.ntmps53
    go_wp2_with fail
    go_ret
    have g : Gb x w ((w.setCell ⟨x, 11, none⟩ (.int .u8 (code : Int))).setCell ⟨x, 12, none⟩ (.int .u32 ((p : Nat) : Int))) := ((Gb.refl x w).setCell 11 _).setCell 12 _
    refine ⟨rfl, ⟨?_, g.rd HR.out hn (Nat.le_of_lt LB.out), hN, hcc, hn⟩, g⟩
    rw [bk_setCell_same, bk_setCell_same, HB.out]
    rfl
  · have hq1 : min (p : Int) 4294967295 = 4294967295 := by omega
    have hq3 : ¬ ((p : Int) ≤ 4294967295) := by omega
    have hq4 : 4294967295 < (p : Int) := by omega
    have hm : min p 4294967295 = 4294967295 := by omega
    rw [hm]
    clear hm
    go_enter Try.func53, Try.ntmps53
    go_wp2_with fail
    go_ret
    have g : Gb x w ((w.setCell ⟨x, 11, none⟩ (.int .u8 (code : Int))).setCell ⟨x, 12, none⟩ (.int .u32 ((4294967295 : Nat) : Int))) := ((Gb.refl x w).setCell 11 _).setCell 12 _
    refine ⟨rfl, ⟨?_, g.rd HR.out hn (Nat.le_of_lt LB.out), hN, hcc, hn⟩, g⟩
    rw [bk_setCell_same, bk_setCell_same, HB.out]
    rfl
/-- What is done about an option that nobody knows. -/
theorem judge_any (n x : Nat) (s : Wk) (AA : Option Addr) (cc p : Nat) (k : UInt8) (w : World) (h : WB w n x s AA cc) (hp : p < 2 ^ 60) :
    Calls Try.prog 56 #[.pointer (some ⟨x, 0, none⟩), B k, .int .i64 (p : Int)] w fun e w' => e = .returned (.int .i64 (jc k s.mc : Int)) ∧ WB w' n x (if jc k s.mc = 7 then { s with code := 2, fat := min p 4294967295 } else s) AA cc ∧ Gb x w w' := by
  have F := Lib.hid (faulty_any n x s AA cc 2 p w h (by omega) hp)
  have H := Lib.hid h
  obtain ⟨hb, _, _, _, _⟩ := h
  have c5 := bk_cell hb 5
  simp [wkC] at c5
  have lb := bk_lt hb
  have hk8 := k.toNat_lt
  obtain ⟨y, hy⟩ : ∃ y, y = k.toNat / 64 := ⟨_, rfl⟩
  have sh : (k.toNat : Int) / 64 = (y : Int) := by omega
  have hy4 : y < 4 := by omega
  have HJ : Hid (jc k s.mc = if y = 0 then 0 else if y = 1 then 8 else if y = 3 ∧ s.mc = true then 8 else 7) := Lib.hid (by
    unfold jc
    rw [hy]
    by_cases a1 : k.toNat < 64
    · rw [if_pos a1, if_pos (by omega)]
    · rw [if_neg a1, if_neg (show ¬ k.toNat / 64 = 0 by omega)]
      by_cases a2 : k.toNat < 128
      · rw [if_pos a2, if_pos (by omega)]
      · rw [if_neg a2, if_neg (show ¬ k.toNat / 64 = 1 by omega)]
        have e : 192 ≤ k.toNat ↔ k.toNat / 64 = 3 := by omega
        simp only [e])
  obtain ⟨j, hj⟩ : ∃ j, j = jc k s.mc := ⟨_, rfl⟩
  rw [← hj] at HJ ⊢
  obtain ⟨mc, hmc⟩ : ∃ m, m = s.mc := ⟨_, rfl⟩
  rw [← hmc] at c5 HJ
  clear hb hy hj hmc
  obtain rfl | rfl | rfl | rfl : y = 0 ∨ y = 1 ∨ y = 2 ∨ y = 3 := by omega
  · obtain rfl : j = 0 := HJ.out
    go_enter Try.func56, Try.ntmps56
    go_wp2_with fail
    go_ret
    exact ⟨rfl, H.out, Gb.refl _ _⟩
  · obtain rfl : j = 8 := HJ.out
    go_enter Try.func56, Try.ntmps56
    go_wp2_with fail
    go_ret
    exact ⟨rfl, H.out, Gb.refl _ _⟩
  · obtain rfl : j = 7 := by rw [HJ.out, if_neg (by omega), if_neg (by omega), if_neg (by omega)]
    go_enter Try.func56, Try.ntmps56
    go_wp2_with fail
    refine F.out.mono ?_
    rintro e w1 ⟨rfl, h1, g1⟩
    have H1 := Lib.hid h1; have G1 := Lib.hid g1
    clear h1 g1 F H
    go_wp2_with fail
    go_ret
    exact ⟨rfl, H1.out, G1.out⟩
  · cases mc
    · obtain rfl : j = 7 := by rw [HJ.out, if_neg (by omega), if_neg (by omega), if_neg (by simp)]
      go_enter Try.func56, Try.ntmps56
      go_wp2_with fail
      refine F.out.mono ?_
      rintro e w1 ⟨rfl, h1, g1⟩
      have H1 := Lib.hid h1; have G1 := Lib.hid g1
      clear h1 g1 F H
      go_wp2_with fail
      go_ret
      exact ⟨rfl, H1.out, G1.out⟩
    · obtain rfl : j = 8 := by rw [HJ.out, if_neg (by omega), if_neg (by omega), if_pos ⟨rfl, rfl⟩]
      go_enter Try.func56, Try.ntmps56
      go_wp2_with fail
      go_ret
      exact ⟨rfl, H.out, Gb.refl _ _⟩
end Go.Proofs.Ytbfiakikhkiefaa

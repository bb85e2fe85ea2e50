/- Headers: what is done at each header. -/
import Derived.Test.YtbfiakikhkiefaaH2
import Derived.Test.YtbfiakikhkiefaaMgD
import Derived.Deep.RegionHeld3
import Derived.Laws.Bits64b
namespace Go.Proofs.Ytbfiakikhkiefaa
open Go.RowKit
set_option maxRecDepth 100000
set_option maxHeartbeats 1000000
def shortB (b : List UInt8) (least : Nat) : Bool := decide (b.length < least ∨ b.length < hsz b)
def Wk.endE (s : Wk) : Nat := if shortB s.b 2 then 5 else (opr s.nx s.b s.mc).1
def Wk.endS (s : Wk) : Wk := if shortB s.b 2 then s else s.opts (hsz s.b) (opr s.nx s.b s.mc)
theorem end_any (n x : Nat) (s : Wk) (AA : Option Addr) (cc : Nat) (w : World) (h : WB w n x s AA cc) (hp : s.p < 2 ^ 40) (hb40 : s.b.length < 2 ^ 40) :
    Calls Try.prog 46 #[.pointer (some ⟨x, 0, none⟩)] w fun e w' => ∃ A' c', e = .returned (.int .i64 (s.endE : Int)) ∧ WB w' n x s.endS A' c' ∧ Gb x w w' := by
  have S := size_any n x s AA cc 2 w h (by omega) (by omega)
  unfold Wk.endE Wk.endS shortB
  have H := Lib.hid h
  have hz8 := hsz_ge s.b
  by_cases hs : s.b.length < 2 ∨ s.b.length < hsz s.b
  · rw [if_pos hs] at S
    rw [decide_eq_true hs, if_pos rfl, if_pos rfl]
    have C := Lib.hid S
    clear S h hs
    go_enter Try.func46, Try.ntmps46
    go_wp2_with fail
    refine C.out.mono ?_
    rintro e w1 ⟨rfl, rfl⟩
    go_wp2_with fail
    go_ret
    first | exact ⟨AA, cc, rfl, H.out, Gb.refl _ _⟩ | exact ⟨rfl, ⟨AA, cc, H.out⟩, Gb.refl _ _⟩
  · rw [if_neg hs] at S
    rw [decide_eq_false hs, if_neg (show ¬ (false = true) by decide), if_neg (show ¬ (false = true) by decide)]
    have O := options_any n x s AA cc (hsz s.b) w h (by omega) (by omega) hp hb40
    have C := Lib.hid S; have C2 := Lib.hid O
    obtain ⟨z, hz⟩ : ∃ z, z = hsz s.b := ⟨_, rfl⟩
    have hz0 : ¬ (z : Int) = 0 := by omega
    have HRO : Hid (opr s.nx s.b s.mc = opt (s.b.take z) (s.nx == 0) s.mc 2 false) := Lib.hid (by rw [hz]; rfl)
    rw [← hz] at C C2 ⊢
    clear S O h hs hz hz8
    go_enter Try.func46, Try.ntmps46
    go_wp2_with fail
    refine C.out.mono ?_
    rintro e w1 ⟨rfl, rfl⟩
    go_wp2_with fail
    refine C2.out.mono ?_
    rintro e w1 ⟨A', c', rfl, h1, g1⟩
    have H1 := Lib.hid h1; have G1 := Lib.hid g1
    clear h1 g1 C C2
    go_wp2_with fail
    go_ret
    exact ⟨A', c', by rw [HRO.out]; rfl, by rw [HRO.out]; exact H1.out, G1.out⟩
def Wk.fault (s : Wk) (code p : Nat) : Wk := { s with code := code, fat := min p 4294967295 }
def Wk.eachE (s : Wk) : Nat := if s.fs && s.p == 40 then s.endE else 7
def Wk.eachS (s : Wk) : Wk := if s.fs && s.p == 40 then s.endS else s.fault 1 s.told
theorem each_any (n x : Nat) (s : Wk) (AA : Option Addr) (cc : Nat) (w : World) (h : WB w n x s AA cc) (hp : s.p < 2 ^ 40) (ht : s.told < 2 ^ 40) (hb40 : s.b.length < 2 ^ 40) :
    Calls Try.prog 45 #[.pointer (some ⟨x, 0, none⟩)] w fun e w' => ∃ A' c', e = .returned (.int .i64 (s.eachE : Int)) ∧ WB w' n x s.eachS A' c' ∧ Gb x w w' := by
  have F := Lib.hid (faulty_any n x s AA cc 1 s.told w h (by omega) (by omega))
  have E := Lib.hid (end_any n x s AA cc w h hp hb40)
  have c2 := h.cell 2; have c3 := h.cell 3; have c4 := h.cell 4
  simp [wkC] at c2 c3 c4
  unfold Wk.eachE Wk.eachS
  have H := Lib.hid h
  clear h
  obtain ⟨fs, hfs⟩ : ∃ b, b = s.fs := ⟨_, rfl⟩
  obtain ⟨p, hpp⟩ : ∃ b, b = s.p := ⟨_, rfl⟩
  rw [← hfs] at c4 ⊢
  rw [← hpp] at c2 ⊢
  clear hfs hpp
  cases fs
  case false =>
    go_enter Try.func45, Try.ntmps45
    go_wp2_with fail
    refine F.out.mono ?_
    rintro e w1 ⟨rfl, h1, g1⟩
    have H1 := Lib.hid h1; have G1 := Lib.hid g1
    clear h1 g1 F E c2 c3 c4
    go_wp2_with fail
    go_ret
    first | exact ⟨AA, cc, rfl, H1.out, G1.out⟩ | exact ⟨rfl, ⟨AA, cc, H1.out⟩, G1.out⟩
  case true =>
    by_cases hp40 : p = 40
    · have hp40' : (p : Int) = 40 := by omega
      rw [hp40]
      clear hp40
      go_enter Try.func45, Try.ntmps45
      go_wp2_with fail
      refine E.out.mono ?_
      rintro e w1 ⟨A', c', rfl, h1, g1⟩
      have H1 := Lib.hid h1; have G1 := Lib.hid g1
      clear h1 g1 F E c2 c3 c4
      go_wp2_with fail
      go_ret
      first | exact ⟨A', c', rfl, H1.out, G1.out⟩ | exact ⟨rfl, ⟨A', c', H1.out⟩, G1.out⟩
    · have hp40' : ¬ (p : Int) = 40 := by omega
      have hpe : (p == 40) = false := by rw [beq_eq_false_iff_ne]; exact hp40
      rw [hpe]
      clear hpe
      go_enter Try.func45, Try.ntmps45
      go_wp2_with fail
      refine F.out.mono ?_
      rintro e w1 ⟨rfl, h1, g1⟩
      have H1 := Lib.hid h1; have G1 := Lib.hid g1
      clear h1 g1 F E c2 c3 c4
      go_wp2_with fail
      go_ret
      first | exact ⟨AA, cc, rfl, H1.out, G1.out⟩ | exact ⟨rfl, ⟨AA, cc, H1.out⟩, G1.out⟩
def Wk.routeE (s : Wk) : Nat := if shortB s.b 4 then 5 else if at8 s.b 3 = 0 then 0 else 7
def Wk.routeS (s : Wk) : Wk := if shortB s.b 4 then s else if at8 s.b 3 = 0 then s.pass (hsz s.b) else s.fault 0 (s.p + 3)
theorem route_any (n x : Nat) (s : Wk) (AA : Option Addr) (cc : Nat) (w : World) (h : WB w n x s AA cc) (hp : s.p < 2 ^ 40) (hb40 : s.b.length < 2 ^ 40) :
    Calls Try.prog 47 #[.pointer (some ⟨x, 0, none⟩)] w fun e w' => ∃ A' c', e = .returned (.int .i64 (s.routeE : Int)) ∧ WB w' n x s.routeS A' c' ∧ Gb x w w' := by
  have S := size_any n x s AA cc 4 w h (by omega) (by omega)
  unfold Wk.routeE Wk.routeS shortB
  have H := Lib.hid h
  have hz8 := hsz_ge s.b
  by_cases hs : s.b.length < 4 ∨ s.b.length < hsz s.b
  · rw [if_pos hs] at S
    rw [decide_eq_true hs, if_pos rfl, if_pos rfl]
    have C := Lib.hid S
    clear S h hs
    go_enter Try.func47, Try.ntmps47
    go_wp2_with fail
    refine C.out.mono ?_
    rintro e w1 ⟨rfl, rfl⟩
    go_wp2_with fail
    go_ret
    first | exact ⟨AA, cc, rfl, H.out, Gb.refl _ _⟩ | exact ⟨rfl, ⟨AA, cc, H.out⟩, Gb.refl _ _⟩
  · rw [if_neg hs] at S
    rw [decide_eq_false hs, if_neg (show ¬ (false = true) by decide), if_neg (show ¬ (false = true) by decide)]
    have P := pass_any n x s AA cc (hsz s.b) w h (by omega) (by omega) hp (by omega)
    obtain ⟨q, hq⟩ : ∃ q, q = s.p + 3 := ⟨_, rfl⟩
    have F := Lib.hid (faulty_any n x s AA cc 0 q w h (by omega) (by omega))
    have hpq : IntKind.i64.wrap ((s.p : Int) + 3) = (q : Int) := by rw [IntKind.wrap_i64]; omega
    rw [← hq]
    have c1 := h.cell 1; have c2 := h.cell 2
    simp [wkC] at c1 c2
    obtain ⟨bb, o, rfl, hbn, u⟩ := h.byte (i := 3) (by omega)
    have h3l : (3 : Int) < (s.b.length : Int) := by omega
    have h3l' : 3 < s.b.length := by omega
    have C := Lib.hid S; have C2 := Lib.hid P
    obtain ⟨z, hz⟩ : ∃ z, z = hsz s.b := ⟨_, rfl⟩
    have hz0 : ¬ (z : Int) = 0 := by omega
    rw [← hz] at C C2 ⊢
    obtain ⟨y, hy⟩ : ∃ y, y = at8 s.b 3 := ⟨_, rfl⟩
    rw [← hy] at u ⊢
    clear S P h hs hz hz8 hy hq
    by_cases hy0 : y.toNat = 0
    · have hy0' : (y.toNat : Int) = 0 := by omega
      have hye : y = 0 := UInt8.toNat_inj.1 hy0
      rw [if_pos hye, if_pos hye]
      clear hye
      go_enter Try.func47, Try.ntmps47
      go_wp2_with fail
      refine C.out.mono ?_
      rintro e w1 ⟨rfl, rfl⟩
      go_wp2_with fail
      refine C2.out.mono ?_
      rintro e w1 ⟨A', c', rfl, h1, g1⟩
      have H1 := Lib.hid h1; have G1 := Lib.hid g1
      clear h1 g1 C C2 c1 c2 u
      go_wp2_with fail
      go_ret
      first | exact ⟨A', c', rfl, H1.out, G1.out⟩ | exact ⟨rfl, ⟨A', c', H1.out⟩, G1.out⟩
    · have hy0' : ¬ (y.toNat : Int) = 0 := by omega
      have hye : ¬ y = 0 := fun e => hy0 (by rw [e]; rfl)
      rw [if_neg hye, if_neg hye]
      clear hye
      go_enter Try.func47, Try.ntmps47
      go_wp2_with fail
      refine C.out.mono ?_
      rintro e w1 ⟨rfl, rfl⟩
      go_wp2_with fail
      refine F.out.mono ?_
      rintro e w1 ⟨rfl, h1, g1⟩
      have H1 := Lib.hid h1; have G1 := Lib.hid g1
      clear h1 g1 C C2 c1 c2 u F
      go_wp2_with fail
      go_ret
      first | exact ⟨_, _, rfl, H1.out, G1.out⟩ | exact ⟨rfl, ⟨_, _, H1.out⟩, G1.out⟩
/-- All of a datagram? -/
def wholeB (b : List UInt8) : Bool := decide (wd b / 8 = 0) && !(wd b % 2 == 1)
def Wk.partS (s : Wk) : Wk := if wholeB s.b then s.pass 8 else Wk.pass { s with fi := true, fid := pid s.b, fo := wd s.b / 8, fm := wd s.b % 2 == 1 } 8
theorem val_2 (a b : UInt8) : val [a, b] = 256 * a.toNat + b.toNat := by simp only [val, List.foldl_cons, List.foldl_nil]; omega
theorem val_4 (a b c d : UInt8) : val [a, b, c, d] = 16777216 * a.toNat + 65536 * b.toNat + 256 * c.toNat + d.toNat := by simp only [val, List.foldl_cons, List.foldl_nil]; omega
theorem take_two (l : List UInt8) (i : Nat) (h : i + 2 ≤ l.length) : (l.drop i).take 2 = [at8 l i, at8 l (i + 1)] := by
  have e : ∀ j, j < l.length → at8 l j = l.getD j 0 := fun _ _ => rfl
  apply List.ext_getElem?
  intro j
  rcases (show j = 0 ∨ j = 1 ∨ 2 ≤ j by omega) with rfl | rfl | hj
  · simp [List.getElem?_drop, at8, List.getD_eq_getElem?_getD, List.getElem?_eq_getElem (show i < l.length by omega)]
  · simp [List.getElem?_drop, at8, List.getD_eq_getElem?_getD, List.getElem?_eq_getElem (show i + 1 < l.length by omega)]
  · rw [List.getElem?_eq_none (by simp; omega), List.getElem?_eq_none (by simp; omega)]
theorem take_four (l : List UInt8) (i : Nat) (h : i + 4 ≤ l.length) : (l.drop i).take 4 = [at8 l i, at8 l (i + 1), at8 l (i + 2), at8 l (i + 3)] := by
  have h1 := take_two l i (by omega)
  have h2 := take_two l (i + 2) (by omega)
  have e : (l.drop i).take 4 = (l.drop i).take 2 ++ (l.drop (i + 2)).take 2 := by
    rw [← List.drop_drop, ← List.take_add]
  rw [e, h1, h2]
  rfl
theorem WB.up {w w' : World} {n x : Nat} {s : Wk} {AA : Option Addr} {cc : Nat} (h : WB w n x s AA cc) (hb : Below w.heap.size w w') : WB w' n x s AA cc := by
  have lx := bk_lt h.1
  exact ⟨bk_keep hb lx h.1, h.2.1.below hb (by have := h.2.2.2.2; omega), h.2.2.1, h.2.2.2.1, h.2.2.2.2⟩
theorem bits_and1 (x : Nat) (h : x < 2 ^ 64) : bits BinOp.and IntKind.u64 (x : Int) 1 = ((x % 2 : Nat) : Int) := by
  have e := bits_and_u64_nat x 1 (by omega) (by omega)
  rw [Nat.and_one_is_mod] at e
  exact e
theorem part_any (n x : Nat) (s : Wk) (AA : Option Addr) (cc : Nat) (w : World) (h : WB w n x s AA cc) (hf : s.fi = false) (h8 : 8 ≤ s.b.length) (hp : s.p < 2 ^ 40) (hb40 : s.b.length < 2 ^ 40) :
    Calls Try.prog 33 #[.pointer (some ⟨x, 0, none⟩)] w fun e w' => ∃ A' c', e = .returned (.tuple #[.bool (!wholeB s.b), .int .i64 0]) ∧ WB w' n x s.partS A' c' ∧ Gb x w w' := by
  have c1 := h.cell 1
  simp [wkC] at c1
  have lx := bk_lt h.1
  have O := of_PK AA s.b cc w (h.2.1.mono (by have := h.2.2.2.2; omega)) h.2.2.1 (by omega) x lx
  have C := Lib.hid O
  have H := Lib.hid h
  have d1 : decide ((s.b.length : Int) < 8) = false := by simp; omega
  have d1' : decide (s.b.length < 8) = false := by simp; omega
  clear O h
  go_enter Try.func33, Try.ntmps33
  go_wp2_with fail
  refine C.out.mono ?_
  rintro e w1 ⟨gc, gb, rfl, hgc, hgd, hgg, hgb, hP, hB, b1⟩
  have hbb : w.heap.size ≤ gb := hgb (by omega)
  have hne : gb ≠ gc := by omega
  have FO : ∀ {w' w'' : World}, Below w.heap.size w w' → w'.grownBy w'' (some gc) → Below w.heap.size w w'' := fun h1 h2 => h1.grown h2 h1.size fun k hk => by cases hk; exact hgc
  have HP := Lib.hid hP; have HB := Lib.hid hB; have F := Lib.hid b1
  clear hP hB b1 C c1 hgb d1 d1'
  have e0 : val ((s.b.drop 2).take 2) = wd s.b := by rw [take_two s.b 2 (by omega), val_2]; rfl
  have e4 : val ((s.b.drop 4).take 4) = pid s.b := by rw [take_four s.b 4 (by omega), val_4]; rfl
  have HE := Lib.hid (And.intro e0 e4)
  clear e0 e4
  go_wp2_with fail
  refine (num_at gc gb s.b 0 2 _ HP.out HB.out hgg (by omega) (by omega) (by omega)).mono ?_
  rintro e w2 ⟨rfl, hP2, hg2⟩
  replace HP := Lib.hid hP2; replace HB := Lib.hid (HB.out.grown hg2 hne); replace F := Lib.hid (FO F.out hg2)
  clear hP2 hg2
  go_wp2_with fail
  refine (num_at gc gb s.b 2 2 _ HP.out HB.out hgg (by omega) (by omega) (by omega)).mono ?_
  rintro e w3 ⟨rfl, hP3, hg3⟩
  rw [HE.out.1]
  replace HP := Lib.hid hP3; replace HB := Lib.hid (HB.out.grown hg3 hne); replace F := Lib.hid (FO F.out hg3)
  clear hP3 hg3
  go_wp2_with fail
  refine (num_at gc gb s.b 4 4 _ HP.out HB.out hgg (by omega) (by omega) (by omega)).mono ?_
  rintro e w4 ⟨rfl, hP4, hg4⟩
  rw [HE.out.2]
  replace F := Lib.hid (FO F.out hg4)
  clear hP4 hg4 HP HB HE
  have HW := Lib.hid (H.out.up F.out)
  have hs4 : w.heap.size ≤ w4.heap.size := F.out.size
  obtain ⟨W, hW⟩ : ∃ W, W = wd s.b := ⟨_, rfl⟩
  obtain ⟨I, hI⟩ : ∃ I, I = pid s.b := ⟨_, rfl⟩
  have hW16 : W < 65536 := by
    rw [hW]; unfold wd
    have := (at8 s.b 2).toNat_lt; have := (at8 s.b 3).toNat_lt; omega
  have hI32 : I < 4294967296 := by
    rw [hI]; unfold pid
    have := (at8 s.b 4).toNat_lt; have := (at8 s.b 5).toNat_lt; have := (at8 s.b 6).toNat_lt; have := (at8 s.b 7).toNat_lt; omega
  have HPS : Hid (s.partS = if (decide (W / 8 = 0) && !(W % 2 == 1)) then s.pass 8 else Wk.pass { s with fi := true, fid := I, fo := W / 8, fm := W % 2 == 1 } 8) := Lib.hid (by rw [hW, hI]; rfl)
  have HWB : Hid (wholeB s.b = (decide (W / 8 = 0) && !(W % 2 == 1))) := Lib.hid (by rw [hW]; rfl)
  rw [← hW, ← hI]
  obtain ⟨u, hu⟩ : ∃ u, u = W % 2 := ⟨_, rfl⟩
  obtain ⟨y, hy⟩ : ∃ y, y = W / 8 := ⟨_, rfl⟩
  rw [← hu, ← hy] at HPS HWB
  have b1 : bits BinOp.and IntKind.u64 (W : Int) 1 = (u : Int) := by rw [hu]; exact bits_and1 W (by omega)
  have b2 : (W : Int) / 8 = (y : Int) := by rw [hy]; omega
  have b3 : IntKind.u16.wrap (y : Int) = (y : Int) := by rw [IntKind.wrap_u16]; omega
  have b4 : IntKind.u32.wrap (I : Int) = (I : Int) := by rw [IntKind.wrap_u32]; omega
  have hu2 : u < 2 := by omega
  clear hW hI hu hy
  obtain ⟨mb, hmb⟩ : ∃ b, b = (u == 1) := ⟨_, rfl⟩
  have ub : ((u : Int) == 1) = mb := by rw [hmb, Bool.eq_iff_iff]; simp; omega
  rw [show (u == 1) = mb from hmb.symm] at HPS HWB
  clear hmb
  have k7 := HW.out.cell 7; have k8 := HW.out.cell 8; have k9 := HW.out.cell 9; have k10 := HW.out.cell 10
  simp [wkC] at k7 k8 k9 k10
  have z7 := bk_frozen HW.out.1 7; have z8 := bk_frozen HW.out.1 8; have z9 := bk_frozen HW.out.1 9; have z10 := bk_frozen HW.out.1 10
  have h8' := Lib.hid h8
  by_cases hy0 : 0 < y
  · have d1 : decide ((0 : Int) < (y : Int)) = true := by simp; omega
    have d2 : decide (0 < y) = true := by simp; omega
    have d3 : decide (y = 0) = false := by simp; omega
    rw [d3, Bool.false_and, if_neg (by decide)] at HPS
    rw [d3, Bool.false_and] at HWB
    go_upto_region 9 with fail
    have GX : Hid (Gb x w ((((w4.setCell ⟨x, 7, none⟩ (.bool true)).setCell ⟨x, 8, none⟩ (.int .u32 (I : Int))).setCell ⟨x, 9, none⟩ (.int .u16 (y : Int))).setCell ⟨x, 10, none⟩ (.bool mb))) := Lib.hid (((((Gb.of (g := x) F.out).setCell 7 _).setCell 8 _).setCell 9 _).setCell 10 _)
    have HX : Hid (WB ((((w4.setCell ⟨x, 7, none⟩ (.bool true)).setCell ⟨x, 8, none⟩ (.int .u32 (I : Int))).setCell ⟨x, 9, none⟩ (.int .u16 (y : Int))).setCell ⟨x, 10, none⟩ (.bool mb)) n x { s with fi := true, fid := I, fo := y, fm := mb } AA cc) := Lib.hid (by
      obtain ⟨h1, h2, h3, h4, h5⟩ := HW.out
      refine ⟨?_, (((((Gb.refl x w4).setCell 7 _).setCell 8 _).setCell 9 _).setCell 10 _).rd h2 h5 (by omega), h3, h4, h5⟩
      rw [bk_setCell_same, bk_setCell_same, bk_setCell_same, bk_setCell_same, h1]
      rfl)
    generalize ((((w4.setCell ⟨x, 7, none⟩ (.bool true)).setCell ⟨x, 8, none⟩ (.int .u32 (I : Int))).setCell ⟨x, 9, none⟩ (.int .u16 (y : Int))).setCell ⟨x, 10, none⟩ (.bool mb)) = w6 at *
    clear k7 k8 k9 k10 z7 z8 z9 z10
    have k7 : (w6).cell? ⟨x, 7, none⟩ = some (.bool true) := (HX.out.cell 7).trans (by first | (simp [wkC]; done) | simp [wkC, hf])
    have GD := Lib.hid (GX.out.drew)
    have C9 : Hid (Calls Try.prog 48 #[.pointer (some ⟨x, 0, none⟩), .int .i64 8] (w6).drew fun e w' => ∃ A' c', e = .returned (.int .i64 0) ∧ WB w' n x (Wk.pass ({ s with fi := true, fid := I, fo := y, fm := mb } : Wk) 8) A' c' ∧ Gb x (w6).drew w') :=
      Lib.hid (pass_any n x ({ s with fi := true, fid := I, fo := y, fm := mb } : Wk) AA cc 8 (w6).drew (HX.out.up ((Below.refl _ _).drew)) (show 1 ≤ s.b.length by omega) h8'.out hp (by omega))
    clear HX GX
    go_region_held3 (fun w' => w'.cell? ⟨x, 7, none⟩ = some (.bool true)) (first | assumption | exact k75)
      (first
        | (go_at_call 48; refine C9.out.mono ?_; clear C9; rintro e w5 ⟨A', c', rfl, h5, g5⟩; have k75 : w5.cell? ⟨x, 7, none⟩ = some (.bool true) := (h5.cell 7).trans (by first | (simp [wkC, Wk.pass]; done) | simp [wkC, Wk.pass, hf]); have H5 := Lib.hid h5; have G5 := Lib.hid g5; clear h5 g5))
    all_goals
      go_wp2_with fail
      go_ret2
      refine ⟨A', c', by rw [HWB.out]; rfl, by rw [HPS.out]; exact H5.out, GD.out.trans G5.out⟩
  · obtain rfl : y = 0 := by omega
    cases mb
    case true =>
      rw [show (decide (0 = 0) && !true) = false from rfl] at HPS HWB
      rw [if_neg (by decide)] at HPS
      go_upto_region 9 with fail
      have GX : Hid (Gb x w ((((w4.setCell ⟨x, 7, none⟩ (.bool true)).setCell ⟨x, 8, none⟩ (.int .u32 (I : Int))).setCell ⟨x, 9, none⟩ (.int .u16 0)).setCell ⟨x, 10, none⟩ (.bool true))) := Lib.hid (((((Gb.of (g := x) F.out).setCell 7 _).setCell 8 _).setCell 9 _).setCell 10 _)
      have HX : Hid (WB ((((w4.setCell ⟨x, 7, none⟩ (.bool true)).setCell ⟨x, 8, none⟩ (.int .u32 (I : Int))).setCell ⟨x, 9, none⟩ (.int .u16 0)).setCell ⟨x, 10, none⟩ (.bool true)) n x { s with fi := true, fid := I, fo := 0, fm := true } AA cc) := Lib.hid (by
        obtain ⟨h1, h2, h3, h4, h5⟩ := HW.out
        refine ⟨?_, (((((Gb.refl x w4).setCell 7 _).setCell 8 _).setCell 9 _).setCell 10 _).rd h2 h5 (by omega), h3, h4, h5⟩
        rw [bk_setCell_same, bk_setCell_same, bk_setCell_same, bk_setCell_same, h1]
        rfl)
      generalize ((((w4.setCell ⟨x, 7, none⟩ (.bool true)).setCell ⟨x, 8, none⟩ (.int .u32 (I : Int))).setCell ⟨x, 9, none⟩ (.int .u16 0)).setCell ⟨x, 10, none⟩ (.bool true)) = w6 at *
      clear k7 k8 k9 k10 z7 z8 z9 z10
      have k7 : (w6).cell? ⟨x, 7, none⟩ = some (.bool true) := (HX.out.cell 7).trans (by first | (simp [wkC]; done) | simp [wkC, hf])
      have GD := Lib.hid (GX.out.drew)
      have C9 : Hid (Calls Try.prog 48 #[.pointer (some ⟨x, 0, none⟩), .int .i64 8] (w6).drew fun e w' => ∃ A' c', e = .returned (.int .i64 0) ∧ WB w' n x (Wk.pass ({ s with fi := true, fid := I, fo := 0, fm := true } : Wk) 8) A' c' ∧ Gb x (w6).drew w') :=
        Lib.hid (pass_any n x ({ s with fi := true, fid := I, fo := 0, fm := true } : Wk) AA cc 8 (w6).drew (HX.out.up ((Below.refl _ _).drew)) (show 1 ≤ s.b.length by omega) h8'.out hp (by omega))
      clear HX GX
      go_region_held3 (fun w' => w'.cell? ⟨x, 7, none⟩ = some (.bool true)) (first | assumption | exact k75)
        (first
          | (go_at_call 48; refine C9.out.mono ?_; clear C9; rintro e w5 ⟨A', c', rfl, h5, g5⟩; have k75 : w5.cell? ⟨x, 7, none⟩ = some (.bool true) := (h5.cell 7).trans (by first | (simp [wkC, Wk.pass]; done) | simp [wkC, Wk.pass, hf]); have H5 := Lib.hid h5; have G5 := Lib.hid g5; clear h5 g5))
      all_goals
        go_wp2_with fail
        go_ret2
        refine ⟨A', c', by rw [HWB.out]; rfl, by rw [HPS.out]; exact H5.out, GD.out.trans G5.out⟩
    case false =>
      rw [show (decide (0 = 0) && !false) = true from rfl] at HPS HWB
      rw [if_pos rfl] at HPS
      go_upto_region 9 with fail
      have GX := Lib.hid (Gb.of (g := x) F.out)
      have HX := HW
      clear HW
      clear k7 k8 k9 k10 z7 z8 z9 z10
      have k7 : (w4).cell? ⟨x, 7, none⟩ = some (.bool false) := (HX.out.cell 7).trans (by first | (simp [wkC]; done) | simp [wkC, hf])
      have GD := Lib.hid (GX.out.drew)
      have C9 : Hid (Calls Try.prog 48 #[.pointer (some ⟨x, 0, none⟩), .int .i64 8] (w4).drew fun e w' => ∃ A' c', e = .returned (.int .i64 0) ∧ WB w' n x (Wk.pass s 8) A' c' ∧ Gb x (w4).drew w') :=
        Lib.hid (pass_any n x s AA cc 8 (w4).drew (HX.out.up ((Below.refl _ _).drew)) (show 1 ≤ s.b.length by omega) h8'.out hp (by omega))
      clear HX GX
      go_region_held3 (fun w' => w'.cell? ⟨x, 7, none⟩ = some (.bool false)) (first | assumption | exact k75)
        (first
          | (go_at_call 48; refine C9.out.mono ?_; clear C9; rintro e w5 ⟨A', c', rfl, h5, g5⟩; have k75 : w5.cell? ⟨x, 7, none⟩ = some (.bool false) := (h5.cell 7).trans (by first | (simp [wkC, Wk.pass]; done) | simp [wkC, Wk.pass, hf]); have H5 := Lib.hid h5; have G5 := Lib.hid g5; clear h5 g5))
      all_goals
        go_wp2_with fail
        go_ret2
        refine ⟨A', c', by rw [HWB.out]; rfl, by rw [HPS.out]; exact H5.out, GD.out.trans G5.out⟩
theorem part_short (n x : Nat) (s : Wk) (AA : Option Addr) (cc : Nat) (w : World) (h : WB w n x s AA cc) (h8 : s.b.length < 8) :
    Calls Try.prog 33 #[.pointer (some ⟨x, 0, none⟩)] w fun e w' => e = .returned (.tuple #[.bool false, .int .i64 5]) ∧ w = w' := by
  have c1 := h.cell 1
  simp [wkC] at c1
  have d1 : decide ((s.b.length : Int) < 8) = true := by simp; omega
  have d1' : decide (s.b.length < 8) = true := by simp; omega
  clear h
  go_enter Try.func33, Try.ntmps33
  go_wp2_with fail
  go_ret2
  exact ⟨rfl, rfl⟩
end Go.Proofs.Ytbfiakikhkiefaa

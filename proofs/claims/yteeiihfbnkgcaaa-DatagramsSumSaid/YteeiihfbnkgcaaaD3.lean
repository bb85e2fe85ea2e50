/- Datagrams got: the program's. -/
import Derived.Test.YteeiihfbnkgcaaaD1
import Derived.Test.YteeiihfbnkgcaaaS29
namespace Go.Proofs.Yteeiihfbnkgcaaa
open Go.RowKit
set_option maxRecDepth 100000
def zdg : Value := .agg (dgc 0 0 none 0 0)
/-- What is told of bytes; what is wrong; what is got. -/
def dsz (l : List UInt8) : Nat := val ((l.drop 4).take 2)
def dcs (l : List UInt8) : Nat := val ((l.drop 6).take 2)
def gE (src dst l : List UInt8) : Int := if l.length < 8 then 5 else if dsz l < 8 ∨ l.length < dsz l then 4 else if dcs l = 0 ∨ sumOf (ovr src dst 17 (l.take (dsz l))) ≠ 0 then 6 else 0
def gF (src dst l : List UInt8) : Nat := if gE src dst l = 0 then val (l.take 2) else 0
def gT (src dst l : List UInt8) : Nat := if gE src dst l = 0 then val ((l.drop 2).take 2) else 0
def gD (src dst l : List UInt8) : List UInt8 := if gE src dst l = 0 then (l.drop 8).take (dsz l - 8) else []
section
variable {src dst l : List UInt8}
theorem gE_short (h : l.length < 8) : gE src dst l = 5 := by simp [gE, h]
theorem gE_form (h : 8 ≤ l.length) (hf : dsz l < 8 ∨ l.length < dsz l) : gE src dst l = 4 := by unfold gE; rw [if_neg (by omega), if_pos hf]
theorem gE_sum (h : 8 ≤ l.length) (hf : ¬ (dsz l < 8 ∨ l.length < dsz l)) (hs : dcs l = 0 ∨ sumOf (ovr src dst 17 (l.take (dsz l))) ≠ 0) : gE src dst l = 6 := by unfold gE; rw [if_neg (by omega), if_neg hf, if_pos hs]
theorem gE_ok (h : 8 ≤ l.length) (hf : ¬ (dsz l < 8 ∨ l.length < dsz l)) (hs : ¬ (dcs l = 0 ∨ sumOf (ovr src dst 17 (l.take (dsz l))) ≠ 0)) : gE src dst l = 0 := by unfold gE; rw [if_neg (by omega), if_neg hf, if_neg hs]
theorem gF_bad (h : gE src dst l ≠ 0) : gF src dst l = 0 := by simp [gF, h]
theorem gT_bad (h : gE src dst l ≠ 0) : gT src dst l = 0 := by simp [gT, h]
theorem gD_bad (h : gE src dst l ≠ 0) : gD src dst l = [] := by simp [gD, h]
end
def DGot (src dst l : List UInt8) (w : World) (e : Ending) (w' : World) : Prop :=
  ∃ A', e = .returned (.tuple #[.agg (dgc (gF src dst l) (gT src dst l) A' (gD src dst l).length (gD src dst l).length), .int .i64 (gE src dst l)]) ∧ Gots (gD src dst l) w.heap.size A' w' ∧ Below w.heap.size w w'
theorem DGot.bad {src dst l : List UInt8} {w w' : World} {e : Ending} {x : Int} (hE : gE src dst l = x) (h0 : x ≠ 0) (he : e = .returned (.tuple #[zdg, .int .i64 x])) (hb : Below w.heap.size w w') : DGot src dst l w e w' := by
  have h : gE src dst l ≠ 0 := by rw [hE]; exact h0
  refine ⟨none, ?_, by rw [gD_bad h]; exact Gots.nil, hb⟩
  rw [he, hE, gF_bad h, gT_bad h, gD_bad h]; rfl
theorem dget_short (src dst : List UInt8) (A : Option Addr) (n c : Nat) (w : World) (_h1 : src.length = 16) (_h2 : dst.length = 16) (hl : n < 8) :
    Calls Try.prog 16 #[av src, av dst, .slice A n c] w fun e w' => e = .returned (.tuple #[zdg, .int .i64 5]) ∧ Below w.heap.size w w' := by
  have d1 : decide ((n : Int) < 8) = true := by simp; omega
  go_enter Try.func16, Try.ntmps16
  go_wp2_with fail
  refine ret_two (cs := dgc 0 0 none 0 0) rfl rfl rfl rfl ?_ Try.underlying29 rfl (by kernel_rfl) ?_
  rotate_left
  · refine ⟨rfl, ?_⟩
    (repeat (first | exact Below.refl _ _ | assumption | refine Below.drew ?_ | refine bdrewN ?_ _ | refine Below.alloc ?_ (by first | omega | (simp <;> omega) | (simp only [World.size_alloc] <;> omega)) _ | refine below_setRow ?_ (by first | omega | (simp <;> omega)) _ | refine Below.setCell ?_ (by first | omega | (simp <;> omega)) _))
  · simp [go_sem]
/-- What a told holds when k numbers are read. -/
def tcs (l : List UInt8) (k : Nat) : Array Value := #[.int .u16 ((if 0 < k then val (l.take 2) else 0 : Nat) : Int), .int .u16 ((if 1 < k then val ((l.drop 2).take 2) else 0 : Nat) : Int), .slice none 0 0, .int .u16 ((if 2 < k then val ((l.drop 4).take 2) else 0 : Nat) : Int), .int .u16 ((if 3 < k then val ((l.drop 6).take 2) else 0 : Nat) : Int)]
@[go_sem] theorem xt_told (a b : Nat) (A : Option Addr) (n c : Nat) (x y : Value) : xt #[.int .u16 (a : Int), .int .u16 (b : Int), .slice A n c, x, y] 0 3 = dgc a b A n c := by simp [xt, dgc]
/-- What stays while the told is filled. -/
structure Oth (src dst : List UInt8) (x tb : Nat) (w : World) : Prop where
  a : bk w x = some (.cells (src.map B).toArray 23 (0, 0))
  b : bk w (x + 1) = some (.cells (dst.map B).toArray 23 (0, 0))
  c : bk w (x + 1 + 1) = some (.cells (dgc 0 0 none 0 0) 29 (0, 0))
  p : bk w (tb + 1) = some (.cells #[.pointer (some ⟨tb, 0, none⟩), .pointer (some ⟨tb, 1, none⟩), .pointer (some ⟨tb, 3, none⟩), .pointer (some ⟨tb, 4, none⟩)] 66 (0, 0))
theorem Oth.keep {src dst : List UInt8} {x tb : Nat} {w w' : World} (h : Oth src dst x tb w) (hx : ∀ b, b < w.heap.size → (b = x ∨ b = x + 1 ∨ b = x + 1 + 1 ∨ b = tb + 1) → bk w' b = bk w b) : Oth src dst x tb w' :=
  ⟨(hx _ (bk_lt h.a) (.inl rfl)).trans h.a, (hx _ (bk_lt h.b) (.inr (.inl rfl))).trans h.b, (hx _ (bk_lt h.c) (.inr (.inr (.inl rfl)))).trans h.c, (hx _ (bk_lt h.p) (.inr (.inr (.inr rfl)))).trans h.p⟩
set_option maxHeartbeats 1000000 in
theorem dget_big (src dst : List UInt8) (A : Option Addr) (l : List UInt8) (c : Nat) (w : World) (h1 : src.length = 16) (h2 : dst.length = 16) (h : Rd w w.heap.size A l) (hA : A = none → l = [] ∧ c = 0) (hC : l.length ≤ c) (h8 : 8 ≤ l.length) (hl : l.length < 2 ^ 32) :
    Calls Try.prog 16 #[av src, av dst, .slice A l.length c] w (DGot src dst l w) := by
  have H := Lib.hid h; have HA := Lib.hid hA
  clear h hA
  have d1 : decide ((l.length : Int) < 8) = false := by simp; omega
  go_enter Try.func16, Try.ntmps16
  go_wp2_with fail
  have a3 : Below w.heap.size w (((w.alloc (.cells (src.map B).toArray 23)).alloc (.cells (dst.map B).toArray 23)).alloc (.cells #[.int .u16 0, .int .u16 0, .slice none 0 0] 29)) := (((Below.refl _ _).alloc (Nat.le_refl _) _).alloc (by simp) _).alloc (by simp <;> omega) _
  have k0 : bk (((w.alloc (.cells (src.map B).toArray 23)).alloc (.cells (dst.map B).toArray 23)).alloc (.cells #[.int .u16 0, .int .u16 0, .slice none 0 0] 29)) w.heap.size = some (.cells (src.map B).toArray 23 (0, 0)) := by rw [bk_alloc_past _ _ _ (by simp <;> omega), bk_alloc_past _ _ _ (by simp)]; exact bk_alloc_at _ _ _ rfl
  have k1 : bk (((w.alloc (.cells (src.map B).toArray 23)).alloc (.cells (dst.map B).toArray 23)).alloc (.cells #[.int .u16 0, .int .u16 0, .slice none 0 0] 29)) (w.heap.size + 1) = some (.cells (dst.map B).toArray 23 (0, 0)) := by rw [bk_alloc_past _ _ _ (by simp)]; exact bk_alloc_at _ _ _ (by simp)
  have k2 : bk (((w.alloc (.cells (src.map B).toArray 23)).alloc (.cells (dst.map B).toArray 23)).alloc (.cells #[.int .u16 0, .int .u16 0, .slice none 0 0] 29)) (w.heap.size + 1 + 1) = some (.cells (dgc 0 0 none 0 0) 29 (0, 0)) := bk_alloc_at _ _ _ (by simp)
  have A3 := Lib.hid a3; have K0 := Lib.hid k0; have K1 := Lib.hid k1; have K2 := Lib.hid k2
  clear a3 k0 k1 k2
  generalize (((w.alloc (.cells (src.map B).toArray 23)).alloc (.cells (dst.map B).toArray 23)).alloc (.cells #[.int .u16 0, .int .u16 0, .slice none 0 0] 29)) = wa at *
  have hx := bk_lt K2.out
  refine (of_PK A l c wa ((H.out.below A3.out (Nat.le_refl _)).mono A3.out.size) HA.out (by omega) w.heap.size (by omega)).mono ?_
  rintro e w1 ⟨gc, gb, rfl, hgc, _, hgg, hgb, hP, hB, b1⟩
  have hgb := hgb (by omega)
  have f1 := A3.out.trans (b1.mono A3.out.size)
  have J0 := Lib.hid (bk_keep b1 (by omega) K0.out); have J1 := Lib.hid (bk_keep b1 (by omega) K1.out); have J2 := Lib.hid (bk_keep b1 (by omega) K2.out)
  have hgcl : gc < w1.heap.size := by obtain ⟨cs, hc⟩ := hP.obj; exact bk_lt hc
  have hs1 := b1.size
  have HP := Lib.hid hP; have HB := Lib.hid hB; have F1 := Lib.hid f1
  clear hP hB f1 b1 K0 K1 K2 A3
  go_wp2_with fail
  have a5 : Below w1.heap.size w1 ((w1.alloc (.cells #[.int .u16 0, .int .u16 0, .slice none 0 0, .int .u16 0, .int .u16 0] 65)).alloc (.cells #[.pointer (some ⟨w1.heap.size, 0, none⟩), .pointer (some ⟨w1.heap.size, 1, none⟩), .pointer (some ⟨w1.heap.size, 3, none⟩), .pointer (some ⟨w1.heap.size, 4, none⟩)] 66)) := ((Below.refl _ _).alloc (Nat.le_refl _) _).alloc (by simp) _
  have kt : bk ((w1.alloc (.cells #[.int .u16 0, .int .u16 0, .slice none 0 0, .int .u16 0, .int .u16 0] 65)).alloc (.cells #[.pointer (some ⟨w1.heap.size, 0, none⟩), .pointer (some ⟨w1.heap.size, 1, none⟩), .pointer (some ⟨w1.heap.size, 3, none⟩), .pointer (some ⟨w1.heap.size, 4, none⟩)] 66)) w1.heap.size = some (.cells (tcs l 0) 65 (0, 0)) := by rw [bk_alloc_past _ _ _ (by simp)]; exact bk_alloc_at _ _ _ rfl
  have kp : bk ((w1.alloc (.cells #[.int .u16 0, .int .u16 0, .slice none 0 0, .int .u16 0, .int .u16 0] 65)).alloc (.cells #[.pointer (some ⟨w1.heap.size, 0, none⟩), .pointer (some ⟨w1.heap.size, 1, none⟩), .pointer (some ⟨w1.heap.size, 3, none⟩), .pointer (some ⟨w1.heap.size, 4, none⟩)] 66)) (w1.heap.size + 1) = some (.cells #[.pointer (some ⟨w1.heap.size, 0, none⟩), .pointer (some ⟨w1.heap.size, 1, none⟩), .pointer (some ⟨w1.heap.size, 3, none⟩), .pointer (some ⟨w1.heap.size, 4, none⟩)] 66 (0, 0)) := bk_alloc_at _ _ _ (by simp)
  have hoth : Oth src dst w.heap.size w1.heap.size ((w1.alloc (.cells #[.int .u16 0, .int .u16 0, .slice none 0 0, .int .u16 0, .int .u16 0] 65)).alloc (.cells #[.pointer (some ⟨w1.heap.size, 0, none⟩), .pointer (some ⟨w1.heap.size, 1, none⟩), .pointer (some ⟨w1.heap.size, 3, none⟩), .pointer (some ⟨w1.heap.size, 4, none⟩)] 66)) := ⟨bk_keep a5 (by omega) J0.out, bk_keep a5 (by omega) J1.out, bk_keep a5 (by omega) J2.out, kp⟩
  have hP5 := Lib.hid (HP.out.keep (bk_keep a5 hgcl rfl)); have hB5 := Lib.hid (HB.out.keep fun h => bk_keep a5 h rfl)
  have F5 := Lib.hid (F1.out.trans (a5.mono F1.out.size))
  have HO := Lib.hid hoth
  have hsz : w1.heap.size + 1 < (((w1.alloc (.cells #[.int .u16 0, .int .u16 0, .slice none 0 0, .int .u16 0, .int .u16 0] 65)).alloc (.cells #[.pointer (some ⟨w1.heap.size, 0, none⟩), .pointer (some ⟨w1.heap.size, 1, none⟩), .pointer (some ⟨w1.heap.size, 3, none⟩), .pointer (some ⟨w1.heap.size, 4, none⟩)] 66))).heap.size := by simp
  clear kp a5 J0 J1 J2 HP HB hoth
  generalize ((w1.alloc (.cells #[.int .u16 0, .int .u16 0, .slice none 0 0, .int .u16 0, .int .u16 0] 65)).alloc (.cells #[.pointer (some ⟨w1.heap.size, 0, none⟩), .pointer (some ⟨w1.heap.size, 1, none⟩), .pointer (some ⟨w1.heap.size, 3, none⟩), .pointer (some ⟨w1.heap.size, 4, none⟩)] 66)) = wb at *
  obtain ⟨tb, htb⟩ : ∃ tb, tb = w1.heap.size := ⟨_, rfl⟩
  rw [← htb] at kt HO hgcl hsz hs1
  rw [← htb]
  have hne : ¬ tb = gc := by omega
  clear htb
  go_loopw [27] (fun i wr => ∃ k : Nat, k ≤ 4 ∧ i = .int .i64 k ∧ Hid (PK wr gc gb l (some (2 * k))) ∧ Hid (PB wr gb l) ∧ bk wr tb = some (.cells (tcs l k) 65 (0, 0)) ∧ Hid (Oth src dst w.heap.size tb wr) ∧ Hid (Below w.heap.size w wr)) (fun i _ => 4 - (intOf i).toNat)
  case atStart => exact ⟨0, by omega, rfl, hP5, hB5, kt, HO, F5⟩
  case round =>
    clear kt hP5 hB5 HO F5
    obtain ⟨k, hk, rfl, hPk, hBk, hkt, hOth, hF⟩ := hrel
    by_cases hlt : k < 4
    · have e1 : decide ((k : Int) < 4) = true := by simp; omega
      have hv := val_lt ((l.drop (2 * k)).take 2)
      rw [List.length_take, List.length_drop, show min 2 (l.length - 2 * k) = 2 by omega] at hv
      have C := num_at gc gb l (2 * k) 2 wr hPk.out hBk.out hgg (by omega) (by omega) (by omega)
      have hkp := hOth.out.p
      obtain rfl | rfl | rfl | rfl : k = 0 ∨ k = 1 ∨ k = 2 ∨ k = 3 := by omega
      ·
        have cp := bk_cell hkp 0
        simp at cp
        generalize hve : val ((l.drop (2 * 0)).take 2) = v at *
        have HV := Lib.hid hve
        have hwv : IntKind.u16.wrap (v : Int) = v := by rw [IntKind.wrap_u16]; omega
        have HC := Lib.hid C
        clear C hve
        go_wp2_with fail
        refine HC.out.mono ?_
        rintro e w2 ⟨rfl, hP2, hg2⟩
        have kt2 : bk w2 tb = some (.cells (tcs l 0) 65 (0, 0)) := (hg2.block tb (bk_lt hkt) (fun e => hne (by injection e))).trans hkt
        have ct := bk_cell kt2 0
        simp [tcs] at ct
        have fz := bk_frozen kt2 0
        have HK2 := Lib.hid kt2
        have HP2 := Lib.hid hP2; have HG2 := Lib.hid hg2
        clear hP2 hg2 kt2 hkt HC hkp cp
        go_wp2_with fail
        go_roundw
        case rel =>
          refine ⟨0 + 1, by omega, by simp, Lib.hid (HP2.out.keep (bk_setCell_other _ _ _ _ _ (by omega))), Lib.hid ((hBk.out.grown HG2.out (by omega)).keep fun _ => bk_setCell_other _ _ _ _ _ (by omega)), ?_, Lib.hid (hOth.out.keep fun b hb hbs => (bk_setCell_other _ _ _ _ _ (by omega)).trans (HG2.out.block b hb (fun e => (show b ≠ gc by omega) (by injection e)))), Lib.hid ((hF.out.grown HG2.out hF.out.size fun k hk => by cases hk; omega).setCell (p := ⟨tb, 0, none⟩) (show w.heap.size ≤ tb by omega) _)⟩
          rw [bk_setCell_same, HK2.out, ← HV.out]
          simp [tcs, putObj]
        case measure => simp [intOf]
      ·
        have cp := bk_cell hkp 1
        simp at cp
        generalize hve : val ((l.drop (2 * 1)).take 2) = v at *
        have HV := Lib.hid hve
        have hwv : IntKind.u16.wrap (v : Int) = v := by rw [IntKind.wrap_u16]; omega
        have HC := Lib.hid C
        clear C hve
        go_wp2_with fail
        refine HC.out.mono ?_
        rintro e w2 ⟨rfl, hP2, hg2⟩
        have kt2 : bk w2 tb = some (.cells (tcs l 1) 65 (0, 0)) := (hg2.block tb (bk_lt hkt) (fun e => hne (by injection e))).trans hkt
        have ct := bk_cell kt2 1
        simp [tcs] at ct
        have fz := bk_frozen kt2 1
        have HK2 := Lib.hid kt2
        have HP2 := Lib.hid hP2; have HG2 := Lib.hid hg2
        clear hP2 hg2 kt2 hkt HC hkp cp
        go_wp2_with fail
        go_roundw
        case rel =>
          refine ⟨1 + 1, by omega, by simp, Lib.hid (HP2.out.keep (bk_setCell_other _ _ _ _ _ (by omega))), Lib.hid ((hBk.out.grown HG2.out (by omega)).keep fun _ => bk_setCell_other _ _ _ _ _ (by omega)), ?_, Lib.hid (hOth.out.keep fun b hb hbs => (bk_setCell_other _ _ _ _ _ (by omega)).trans (HG2.out.block b hb (fun e => (show b ≠ gc by omega) (by injection e)))), Lib.hid ((hF.out.grown HG2.out hF.out.size fun k hk => by cases hk; omega).setCell (p := ⟨tb, 1, none⟩) (show w.heap.size ≤ tb by omega) _)⟩
          rw [bk_setCell_same, HK2.out, ← HV.out]
          simp [tcs, putObj]
        case measure => simp [intOf]
      ·
        have cp := bk_cell hkp 2
        simp at cp
        generalize hve : val ((l.drop (2 * 2)).take 2) = v at *
        have HV := Lib.hid hve
        have hwv : IntKind.u16.wrap (v : Int) = v := by rw [IntKind.wrap_u16]; omega
        have HC := Lib.hid C
        clear C hve
        go_wp2_with fail
        refine HC.out.mono ?_
        rintro e w2 ⟨rfl, hP2, hg2⟩
        have kt2 : bk w2 tb = some (.cells (tcs l 2) 65 (0, 0)) := (hg2.block tb (bk_lt hkt) (fun e => hne (by injection e))).trans hkt
        have ct := bk_cell kt2 3
        simp [tcs] at ct
        have fz := bk_frozen kt2 3
        have HK2 := Lib.hid kt2
        have HP2 := Lib.hid hP2; have HG2 := Lib.hid hg2
        clear hP2 hg2 kt2 hkt HC hkp cp
        go_wp2_with fail
        go_roundw
        case rel =>
          refine ⟨2 + 1, by omega, by simp, Lib.hid (HP2.out.keep (bk_setCell_other _ _ _ _ _ (by omega))), Lib.hid ((hBk.out.grown HG2.out (by omega)).keep fun _ => bk_setCell_other _ _ _ _ _ (by omega)), ?_, Lib.hid (hOth.out.keep fun b hb hbs => (bk_setCell_other _ _ _ _ _ (by omega)).trans (HG2.out.block b hb (fun e => (show b ≠ gc by omega) (by injection e)))), Lib.hid ((hF.out.grown HG2.out hF.out.size fun k hk => by cases hk; omega).setCell (p := ⟨tb, 3, none⟩) (show w.heap.size ≤ tb by omega) _)⟩
          rw [bk_setCell_same, HK2.out, ← HV.out]
          simp [tcs, putObj]
        case measure => simp [intOf]
      ·
        have cp := bk_cell hkp 3
        simp at cp
        generalize hve : val ((l.drop (2 * 3)).take 2) = v at *
        have HV := Lib.hid hve
        have hwv : IntKind.u16.wrap (v : Int) = v := by rw [IntKind.wrap_u16]; omega
        have HC := Lib.hid C
        clear C hve
        go_wp2_with fail
        refine HC.out.mono ?_
        rintro e w2 ⟨rfl, hP2, hg2⟩
        have kt2 : bk w2 tb = some (.cells (tcs l 3) 65 (0, 0)) := (hg2.block tb (bk_lt hkt) (fun e => hne (by injection e))).trans hkt
        have ct := bk_cell kt2 4
        simp [tcs] at ct
        have fz := bk_frozen kt2 4
        have HK2 := Lib.hid kt2
        have HP2 := Lib.hid hP2; have HG2 := Lib.hid hg2
        clear hP2 hg2 kt2 hkt HC hkp cp
        go_wp2_with fail
        go_roundw
        case rel =>
          refine ⟨3 + 1, by omega, by simp, Lib.hid (HP2.out.keep (bk_setCell_other _ _ _ _ _ (by omega))), Lib.hid ((hBk.out.grown HG2.out (by omega)).keep fun _ => bk_setCell_other _ _ _ _ _ (by omega)), ?_, Lib.hid (hOth.out.keep fun b hb hbs => (bk_setCell_other _ _ _ _ _ (by omega)).trans (HG2.out.block b hb (fun e => (show b ≠ gc by omega) (by injection e)))), Lib.hid ((hF.out.grown HG2.out hF.out.size fun k hk => by cases hk; omega).setCell (p := ⟨tb, 4, none⟩) (show w.heap.size ≤ tb by omega) _)⟩
          rw [bk_setCell_same, HK2.out, ← HV.out]
          simp [tcs, putObj]
        case measure => simp [intOf]
    · have e1 : decide ((k : Int) < 4) = false := by simp; omega
      obtain rfl : k = 4 := by omega
      obtain ⟨sz, hsz'⟩ : ∃ sz, sz = val ((l.drop 4).take 2) := ⟨_, rfl⟩
      obtain ⟨cs, hcs⟩ : ∃ cs, cs = val ((l.drop 6).take 2) := ⟨_, rfl⟩
      have htc : tcs l 4 = #[.int .u16 (val (l.take 2) : Nat), .int .u16 (val ((l.drop 2).take 2) : Nat), .slice none 0 0, .int .u16 (sz : Nat), .int .u16 (cs : Nat)] := by simp [tcs, hsz', hcs]
      have hs2 := val_lt ((l.drop 4).take 2)
      rw [List.length_take, List.length_drop, show min 2 (l.length - 4) = 2 by omega, ← hsz'] at hs2
      rw [htc] at hkt
      have HSZ := Lib.hid hsz'; have HCS := Lib.hid hcs
      clear htc hsz' hcs
      have c3 := bk_cell hkt 3
      have c4 := bk_cell hkt 4
      simp at c3 c4
      have ws : IntKind.i64.wrap (sz : Int) = sz := by rw [IntKind.wrap_i64]; omega
      have HKT := Lib.hid hkt
      clear hkt
      have ltb := bk_lt HKT.out
      have kz := hOth.out.c
      have kx := hOth.out.a
      have ky := hOth.out.b
      have ltx := bk_lt kx
      have lty := bk_lt ky
      have ltz := bk_lt kz
      by_cases hf : sz < 8 ∨ l.length < sz
      · have dform : (decide ((sz : Int) < 8) || decide ((l.length : Int) < (sz : Int))) = true := by simp; omega
        by_cases hf1 : sz < 8
        · have e2 : decide ((sz : Int) < 8) = true := by simp; omega
          go_wp2_with fail
          refine ret_two (cs := dgc 0 0 none 0 0) rfl rfl rfl rfl ?_ Try.underlying29 rfl (by kernel_rfl) ?_
          rotate_left
          · exact DGot.bad (gE_form h8 (by unfold dsz; rw [← HSZ.out]; exact hf)) (by decide) rfl (below_setRow hF.out (by omega) _)
          · rw [bk_setRow_same, kz]; rfl
        · have e2 : decide ((sz : Int) < 8) = false := by simp; omega
          have e3 : decide ((l.length : Int) < (sz : Int)) = true := by simp; omega
          go_wp2_with fail
          refine ret_two (cs := dgc 0 0 none 0 0) rfl rfl rfl rfl ?_ Try.underlying29 rfl (by kernel_rfl) ?_
          rotate_left
          · exact DGot.bad (gE_form h8 (by unfold dsz; rw [← HSZ.out]; exact hf)) (by decide) rfl (below_setRow hF.out (by omega) _)
          · rw [bk_setRow_same, kz]; rfl
      · have e2 : decide ((sz : Int) < 8) = false := by simp; omega
        have e3 : decide ((l.length : Int) < (sz : Int)) = false := by simp; omega
        have htl : (l.take sz).length = sz := by rw [List.length_take]; omega
        have CG : ∀ x : Later wr.heap.size wr, Calls Try.prog 29 #[.agg (src.map B).toArray, .agg (dst.map B).toArray, .int .u8 17, .slice A sz c] x.w fun e w'' => e = .returned (.bool (decide (sumOf (ovr src dst 17 (l.take sz)) = 0))) ∧ Below x.w.heap.size x.w w'' := fun x => by
          have R := ((H.out.below hF.out (Nat.le_refl _)).mono hF.out.size)
          have R' := (R.below x.h (Nat.le_refl _)).mono x.h.size
          have C := good_any src dst 17 A (l.take sz) c x.w h1 h2 R'.take (by rw [htl]; omega)
          rw [htl] at C
          exact C
        have HCG := Lib.hid CG
        clear CG
        generalize hge : decide (sumOf (ovr src dst 17 (l.take sz)) = 0) = good at *
        have HGE := Lib.hid hge
        have hszc : sz ≤ c := by omega
        have esz : decide (sz ≤ c) = true := by simp; omega
        clear hge
        go_wp2_with fail
        by_cases hc0 : cs = 0
        · have e4 : ((cs : Int) == 0) = true := by simp; omega
          refine wp_region_later (wr.heap.size) (by kernel_rfl) (by kernel_rfl) ?_
          repeat (go_big_quiet_step ((fail)))
          (first | refine wpQuiet_nil ?_ | (go_big_quiet_want; (try go_big_quiet_op); trace_state; fail))
          intro w6 hw'
          have q6 := later_elim hw'
          clear hw'
          have kz6 := bk_keep q6 ltz kz
          have f6 := hF.out.trans (q6.mono hF.out.size)
          clear q6
          go_wp2_with fail
          refine ret_two (cs := dgc 0 0 none 0 0) rfl rfl rfl rfl ?_ Try.underlying29 rfl (by kernel_rfl) ?_
          rotate_left
          · exact DGot.bad (gE_sum h8 (by unfold dsz; rw [← HSZ.out]; exact hf) (.inl (by unfold dcs; rw [← HCS.out]; exact hc0))) (by decide) rfl (below_setRow f6 (by omega) _)
          · rw [bk_setRow_same, kz6]; rfl
        · have e4 : ((cs : Int) == 0) = false := by simp; omega
          refine wp_region_later (wr.heap.size) (by kernel_rfl) (by kernel_rfl) ?_
          repeat (go_big_quiet_step (((rename_i xq; with_reducible exact later_call xq (Nat.le_refl _) (HCG.out xq)))))
          (first | refine wpQuiet_nil ?_ | (go_big_quiet_want; (try go_big_quiet_op); trace_state; fail))
          intro w6 hw'
          have q6 := later_elim hw'
          clear hw'
          have kz6 := bk_keep q6 ltz kz
          have f6 := hF.out.trans (q6.mono hF.out.size)
          have kt6 := bk_keep q6 ltb HKT.out
          have KT6 := Lib.hid kt6
          have gcl : gc < wr.heap.size := by obtain ⟨cs, hc⟩ := hPk.out.obj; exact bk_lt hc
          have P6 := Lib.hid (hPk.out.keep (bk_keep q6 gcl rfl))
          have B6 := Lib.hid (hBk.out.keep fun h => bk_keep q6 h rfl)
          have s6 := q6.size
          have F6 := Lib.hid f6
          clear q6 kt6
          cases good
          · go_wp2_with fail
            refine ret_two (cs := dgc 0 0 none 0 0) rfl rfl rfl rfl ?_ Try.underlying29 rfl (by kernel_rfl) ?_
            rotate_left
            · exact DGot.bad (gE_sum h8 (by unfold dsz; rw [← HSZ.out]; exact hf) (.inr (by unfold dsz; rw [← HSZ.out]; simpa using HGE.out))) (by decide) rfl (below_setRow f6 (by omega) _)
            · rw [bk_setRow_same, kz6]; rfl
          · clear f6
            have w8 : IntKind.i64.wrap ((sz : Int) - 8) = ((sz - 8 : Nat) : Int) := by rw [IntKind.wrap_i64]; omega
            have HP6 := pbytes_any gc gb l (some (2 * 4)) ((sz - 8 : Nat) : Int) w6 P6.out
            have e8 : cutB ((sz - 8 : Nat) : Int) (stOf l (some (2 * 4))) = ((l.drop 8).take (sz - 8), some ((l.drop 8).drop (sz - 8))) := cutB_good (by rw [List.length_drop]; omega)
            have e9 : ((l.drop 8).take (sz - 8)).length = sz - 8 := by rw [List.length_take, List.length_drop]; omega
            have C8 : Calls Try.prog 30 #[.pointer (some ⟨gc, 0, none⟩), .int .i64 ((sz - 8 : Nat) : Int)] w6 fun e w' => ∃ A', e = .returned (.slice A' (sz - 8) (sz - 8)) ∧ (0 < sz - 8 → A' = some ⟨gb, 8, none⟩) ∧ w6.grownBy w' (some gc) := by
              refine HP6.mono ?_
              rintro e w' ⟨A', he, hA', _, hg⟩
              rw [e8] at he hA'
              simp only [e9] at he hA'
              exact ⟨A', he, fun h => by obtain ⟨q, hq, h', _⟩ := hA' h; cases hq; exact h', hg⟩
            have HC8 := Lib.hid C8
            have ltz6 := bk_lt kz6
            have KZ6 := Lib.hid kz6
            have E9 := Lib.hid e9
            clear HP6 e8 e9 C8 kz6
            go_wp2_with fail
            refine HC8.out.mono ?_
            rintro e w7 ⟨A7, rfl, hA7, hg7⟩
            have ht7 : bk w7 tb = _ := (hg7.block tb (bk_lt KT6.out) (fun e => hne (by injection e))).trans KT6.out
            have kz7 : bk w7 (w.heap.size + 1 + 1) = _ := (hg7.block _ ltz6 (fun e => (show ¬ w.heap.size + 1 + 1 = gc by omega) (by injection e))).trans KZ6.out
            have B7 := Lib.hid (B6.out.grown hg7 (by omega))
            have F7 := Lib.hid (F6.out.grown hg7 F6.out.size fun k hk => by cases hk; omega)
            have HA7 := Lib.hid hA7
            have s7 := hg7.size
            have u2 := bk_cell ht7 2
            simp at u2
            have z2 := bk_frozen ht7 2
            have ltb7 := bk_lt ht7
            have htz : ¬ w.heap.size + 1 + 1 = tb := by omega
            clear hg7 hA7 HC8
            go_wp2_with fail
            have E0 : gE src dst l = 0 := gE_ok h8 (by unfold dsz; rw [← HSZ.out]; exact hf) (by unfold dcs dsz; rw [← HSZ.out, ← HCS.out]; simpa [hc0] using HGE.out)
            have eF : gF src dst l = val (l.take 2) := by simp [gF, E0]
            have eT : gT src dst l = val ((l.drop 2).take 2) := by simp [gT, E0]
            have eD : gD src dst l = (l.drop 8).take (sz - 8) := by simp [gD, E0, dsz, ← HSZ.out]
            have eN : (gD src dst l).length = sz - 8 := by rw [eD, E9.out]
            refine ret_two (cs := dgc (gF src dst l) (gT src dst l) A7 (gD src dst l).length (gD src dst l).length) rfl rfl rfl rfl ?_ Try.underlying29 rfl (by kernel_rfl) ?_
            rotate_left
            · refine ⟨A7, by rw [E0]; rfl, ?_, below_setRow (F7.out.setCell (p := ⟨tb, 2, none⟩) (show w.heap.size ≤ tb by omega) _) (by omega) _⟩
              rw [eD]
              refine Gots.of_PB (gb := gb) (B7.out.keep fun h => ?_) (by have := w6.heap.size; simp; omega) (by omega) (fun h => HA7.out (by rw [E9.out] at h; exact h))
              rw [bk_setRow_other _ _ _ _ (by omega), bk_setCell_other _ _ _ _ _ (by omega)]
            · rw [bk_setRow_same, bk_setCell_other _ _ _ _ _ htz, kz7, eF, eT, eN]; rfl
theorem dget_any (src dst : List UInt8) (A : Option Addr) (l : List UInt8) (c : Nat) (w : World) (h1 : src.length = 16) (h2 : dst.length = 16) (h : Rd w w.heap.size A l) (hA : A = none → l = [] ∧ c = 0) (hC : l.length ≤ c) (hl : l.length < 2 ^ 32) :
    Calls Try.prog 16 #[av src, av dst, .slice A l.length c] w (DGot src dst l w) := by
  by_cases h8 : 8 ≤ l.length
  · exact dget_big src dst A l c w h1 h2 h hA hC h8 hl
  · refine (dget_short src dst A l.length c w h1 h2 (by omega)).mono ?_
    rintro e w' ⟨rfl, hb⟩
    exact DGot.bad (gE_short (by omega)) (by decide) rfl hb
end Go.Proofs.Yteeiihfbnkgcaaa

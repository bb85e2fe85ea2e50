/- Infos: options that are not whole. -/
import Derived.Test.YtfldoihindbdmaaMgG
namespace Go.Proofs.Ytfldoihindbdmaa
open Go.RowKit
set_option maxRecDepth 100000
set_option maxHeartbeats 2000000
/-- Options that are not whole. -/
inductive BadO : List UInt8 → Prop
  | short (b : List UInt8) (h0 : b ≠ []) (h : b.length < 4 ∨ b.length < 4 + val ((b.drop 2).take 2)) : BadO b
  | cons (b : List UInt8) (n : Nat) (h4 : 4 ≤ b.length) (hn : val ((b.drop 2).take 2) = n) (hl : 4 + n ≤ b.length) (hr : BadO (b.drop (4 + n))) : BadO b
theorem BadO.inv {b : List UInt8} (h : BadO b) : (b ≠ [] ∧ (b.length < 4 ∨ b.length < 4 + val ((b.drop 2).take 2))) ∨ ∃ n, 4 ≤ b.length ∧ val ((b.drop 2).take 2) = n ∧ 4 + n ≤ b.length ∧ BadO (b.drop (4 + n)) := by
  cases h with
  | short _ h0 h => exact .inl ⟨h0, h⟩
  | cons _ n h4 hn hl hr => exact .inr ⟨n, h4, hn, hl, hr⟩
theorem opts_or : ∀ (n : Nat) (b : List UInt8), b.length ≤ n → (∃ ol, Opts b ol) ∨ BadO b
  | 0, b, h => by
    have : b = [] := List.eq_nil_of_length_eq_zero (by omega)
    subst this
    exact .inl ⟨[], .nil⟩
  | n + 1, b, h => by
    by_cases h0 : b = []
    · subst h0
      exact .inl ⟨[], .nil⟩
    by_cases h4 : b.length < 4
    · exact .inr (.short b h0 (.inl h4))
    by_cases hl : b.length < 4 + val ((b.drop 2).take 2)
    · exact .inr (.short b h0 (.inr hl))
    rcases opts_or n (b.drop (4 + val ((b.drop 2).take 2))) (by rw [List.length_drop]; omega) with ⟨ol, ho⟩ | hb
    · exact .inl ⟨_, .cons b _ ol (by omega) rfl (by omega) ho⟩
    · exact .inr (.cons b _ (by omega) rfl (by omega) hb)
structure OptsBt (w0 w : World) (b : List UInt8) (g gc n : Nat) (M : Nat → Option Value) (rest : List UInt8) (done : List (Nat × List UInt8)) : Prop where
  kc : KC w gc rest
  map : MapIs w g n M
  dn : DoneM w (gc + 1) done M
  op : BadO rest
  ge : w0.heap.size ≤ g
  lt : g < gc
  bel : Below w0.heap.size w0 w
  sz : n + rest.length < 2 ^ 30
def OptBJ (w0 : World) (A : Option Addr) (b : List UInt8) (c : Nat) (a : Act) (w : World) : Prop :=
  ∃ (g gc n : Nat) (M : Nat → Option Value) (rest : List UInt8) (done : List (Nat × List UInt8)) (u1 u2 u3 u6 u7 u8 u9 u10 u11 u12 u13 u14 u15 u16 u17 u18 u19 u20 u21 u22 u23 u24 u25 u26 u27 u28 u29 u30 u31 u32 u33 u34 u35 : Value), a = { tmps := #[.slice A b.length c, u1, u2, u3, .map (some g), .pointer (some ⟨gc, 0, none⟩), u6, u7, u8, u9, u10, u11, u12, u13, u14, u15, u16, u17, u18, u19, u20, u21, u22, u23, u24, u25, u26, u27, u28, u29, u30, u31, u32, u33, u34, u35], defers := [] } ∧ OptsBt w0 w b g gc n M rest done
theorem OptBJ.mk {w0 w : World} {A : Option Addr} {b : List UInt8} {c : Nat} {g gc n : Nat} {M : Nat → Option Value} {rest : List UInt8} {done : List (Nat × List UInt8)} {u1 u2 u3 u6 u7 u8 u9 u10 u11 u12 u13 u14 u15 u16 u17 u18 u19 u20 u21 u22 u23 u24 u25 u26 u27 u28 u29 u30 u31 u32 u33 u34 u35 : Value} (h : OptsBt w0 w b g gc n M rest done) :
    OptBJ w0 A b c { tmps := #[.slice A b.length c, u1, u2, u3, .map (some g), .pointer (some ⟨gc, 0, none⟩), u6, u7, u8, u9, u10, u11, u12, u13, u14, u15, u16, u17, u18, u19, u20, u21, u22, u23, u24, u25, u26, u27, u28, u29, u30, u31, u32, u33, u34, u35], defers := [] } w := ⟨g, gc, n, M, rest, done, _, _, _, _, _, _, _, _, _, _, _, _, _, _, _, _, _, _, _, _, _, _, _, _, _, _, _, _, _, _, _, _, _, rfl, h⟩
theorem options_bad (A : Option Addr) (b : List UInt8) (c : Nat) (w : World) (h : Rd w w.heap.size A b) (hA : A = none → b = [] ∧ c = 0) (hl : b.length < 2 ^ 30) (ho : BadO b) :
    Calls Try.prog 27 #[.slice A b.length c] w fun e w' => e = .returned (.tuple #[.map none, .bool false]) ∧ Below w.heap.size w w' := by
  have HR := Lib.hid h
  have HA := Lib.hid hA
  have HOP := Lib.hid ho
  have HL := Lib.hid hl
  clear h hA ho hl
  go_enter Try.func27, Try.ntmps27
  go_wp2
  refine wp_scope_jumps 0 (OptBJ w A b c) mCut rfl ?_ ?_
  · go_wp2_with fail
    rw [run_makeMap]
    have b1 : Below w.heap.size w (w.alloc (.map #[] 0)) := (Below.refl _ _).alloc (Nat.le_refl _) _
    have M1 := Lib.hid (MapIs.made w)
    have CO := Lib.hid (of_K A b c (w.alloc (.map #[] 0)) ((HR.out.below b1 (Nat.le_refl _)).mono b1.size) HA.out (by have := HL.out; omega))
    have B1 := Lib.hid b1
    clear b1
    go_wp2_with fail
    refine CO.out.mono ?_
    rintro e w1 ⟨gc, rfl, hgc, hkc, bc⟩
    have HO : Hid (OptsBt w w1 b w.heap.size gc 0 (fun _ => none) b []) := Lib.hid ⟨hkc, M1.out.turn (Tn.of bc) (F := fun _ => False) (fun e => e), fun k => rfl, HOP.out, Nat.le_refl _, by rw [World.size_alloc] at hgc; omega, B1.out.trans (bc.mono B1.out.size), by have := HL.out; omega⟩
    clear hkc bc CO B1 M1 hgc
    go_wp2_with fail
    go_step3
    obtain ⟨M0, done0, n0, HO⟩ : ∃ M done n, Hid (OptsBt w w1 b w.heap.size gc n M b done) := ⟨_, _, _, HO⟩
    have CL := Lib.hid (left_K gc (b) w1 HO.out.kc)
    rcases HO.out.op.inv with ⟨h0, hsh⟩ | ⟨k, h4, hkn, hkl, hop⟩
    · have n1 : (((b).length : Int) == 0) = false := beq_eq_false_iff_ne.2 (by have : (b).length ≠ 0 := fun e => h0 (List.eq_nil_of_length_eq_zero e); omega)
      have HSH := Lib.hid hsh
      have T0 := Lib.hid HO.out.bel
      clear h0 hsh
      by_cases hs2 : (b).length < 2
      · have CN := Lib.hid (num_KS gc (b) 2 w1 HO.out.kc (by omega))
        clear hs2
        go_wp2_with fail
        refine CL.out.mono ?_
        rintro e w1 ⟨rfl, rfl⟩
        go_wp2_with fail
        refine CN.out.mono ?_
        rintro e w2 ⟨rfl, hk2, ho2⟩
        have CN2 := Lib.hid (num_KB gc 2 w2 hk2)
        clear CL CN hk2
        go_wp2_with fail
        refine CN2.out.mono ?_
        rintro e w3 ⟨rfl, hk3, ho3⟩
        have CY := Lib.hid (bytes_KB gc 0 w3 hk3)
        clear CN2 hk3
        go_wp2_with fail
        refine CY.out.mono ?_
        rintro e w4 ⟨rfl, hk4, ho4⟩
        have HO4 := Lib.hid ((ho2.trans ho3).trans ho4)
        have CB := Lib.hid (bad_KB gc w4 hk4)
        clear ho2 ho3 ho4 hk4 CY
        go_wp2_with fail
        refine CB.out.mono ?_
        rintro e w5 ⟨rfl, rfl⟩
        clear CB
        go_wp2_with fail
        simp only [Exit.jump]
        go_ret2
        exact ⟨rfl, T0.out.trans (HO4.out.below (n := w.heap.size) (by have := HO.out.ge; have := HO.out.lt; omega))⟩
      · have CN := Lib.hid (num_K gc (b) 2 w1 HO.out.kc (by decide) (by decide) (by omega))
        have hv1 := val_lt ((b).take 2)
        obtain ⟨cd, hcd⟩ : ∃ cd, cd = val ((b).take 2) := ⟨_, rfl⟩
        have hcd2 : cd < 65536 := by rw [hcd]; refine Nat.lt_of_lt_of_le hv1 (Nat.le_trans (Nat.pow_le_pow_right (by decide) (show _ ≤ 2 by rw [List.length_take]; omega)) (by decide))
        rw [← hcd] at CN
        clear hv1 hcd
        by_cases hs4 : (b).length < 4
        · have HS4 := Lib.hid (And.intro hs2 hs4)
          clear hs2 hs4
          go_wp2_with fail
          refine CL.out.mono ?_
          rintro e w1 ⟨rfl, rfl⟩
          go_wp2_with fail
          refine CN.out.mono ?_
          rintro e w2 ⟨rfl, hk2, ho2⟩
          have CN2 := Lib.hid (num_KS gc (List.drop 2 (b)) 2 w2 hk2 (by rw [List.length_drop]; have := HS4.out; omega))
          clear CL CN hk2
          go_wp2_with fail
          refine CN2.out.mono ?_
          rintro e w3 ⟨rfl, hk3, ho3⟩
          have CY := Lib.hid (bytes_KB gc 0 w3 hk3)
          clear CN2 hk3
          go_wp2_with fail
          refine CY.out.mono ?_
          rintro e w4 ⟨rfl, hk4, ho4⟩
          have HO4 := Lib.hid ((ho2.trans ho3).trans ho4)
          have CB := Lib.hid (bad_KB gc w4 hk4)
          clear ho2 ho3 ho4 hk4 CY
          go_wp2_with fail
          refine CB.out.mono ?_
          rintro e w5 ⟨rfl, rfl⟩
          clear CB
          go_wp2_with fail
          simp only [Exit.jump]
          go_ret2
          exact ⟨rfl, T0.out.trans (HO4.out.below (n := w.heap.size) (by have := HO.out.ge; have := HO.out.lt; omega))⟩
        · have hv2 := val_lt (List.take 2 (List.drop 2 (b)))
          obtain ⟨k, hkn⟩ : ∃ k, k = val (List.take 2 (List.drop 2 (b))) := ⟨_, rfl⟩
          have hk2 : k < 65536 := by rw [hkn]; refine Nat.lt_of_lt_of_le hv2 (Nat.le_trans (Nat.pow_le_pow_right (by decide) (show _ ≤ 2 by rw [List.length_take]; omega)) (by decide))
          have HKN := Lib.hid hkn
          have HS4 : Hid (4 ≤ (b).length ∧ (b).length < 4 + k) := Lib.hid (by have := HSH.out; rw [← hkn] at this; omega)
          clear hs2 hs4 hkn hv2
          go_wp2_with fail
          refine CL.out.mono ?_
          rintro e w1 ⟨rfl, rfl⟩
          go_wp2_with fail
          refine CN.out.mono ?_
          rintro e w2 ⟨rfl, hk2', ho2⟩
          have CN2 := Lib.hid (num_K gc (List.drop 2 (b)) 2 w2 hk2' (by decide) (by decide) (by rw [List.length_drop]; have := HS4.out; omega))
          rw [← HKN.out, List.drop_drop] at CN2
          clear CL CN hk2'
          go_wp2_with fail
          refine CN2.out.mono ?_
          rintro e w3 ⟨rfl, hk3, ho3⟩
          have CY := Lib.hid (bytes_KS gc (List.drop (2 + 2) (b)) k w3 hk3 (by rw [List.length_drop]; have := HS4.out; omega))
          clear CN2 hk3
          go_wp2_with fail
          refine CY.out.mono ?_
          rintro e w4 ⟨rfl, hk4, ho4⟩
          have HO4 := Lib.hid ((ho2.trans ho3).trans ho4)
          have CB := Lib.hid (bad_KB gc w4 hk4)
          clear ho2 ho3 ho4 hk4 CY
          go_wp2_with fail
          refine CB.out.mono ?_
          rintro e w5 ⟨rfl, rfl⟩
          clear CB
          go_wp2_with fail
          simp only [Exit.jump]
          go_ret2
          exact ⟨rfl, T0.out.trans (HO4.out.below (n := w.heap.size) (by have := HO.out.ge; have := HO.out.lt; omega))⟩
    · have n1 : (((b).length : Int) == 0) = false := beq_eq_false_iff_ne.2 (by omega)
      have CN := Lib.hid (num_K gc (b) 2 w1 HO.out.kc (by decide) (by decide) (by omega))
      have hv1 := val_lt ((b).take 2)
      obtain ⟨cd, hcd⟩ : ∃ cd, cd = val ((b).take 2) := ⟨_, rfl⟩
      have hcd2 : cd < 65536 := by rw [hcd]; refine Nat.lt_of_lt_of_le hv1 (Nat.le_trans (Nat.pow_le_pow_right (by decide) (show _ ≤ 2 by rw [List.length_take]; omega)) (by decide))
      have hv2 := val_lt (List.take 2 (List.drop 2 (b)))
      have hk2 : k < 65536 := by rw [← hkn]; refine Nat.lt_of_lt_of_le hv2 (Nat.le_trans (Nat.pow_le_pow_right (by decide) (show _ ≤ 2 by rw [List.length_take]; omega)) (by decide))
      rw [← hcd] at CN
      have HKN := Lib.hid hkn
      have HOP2 := Lib.hid hop
      have HKL := Lib.hid (And.intro h4 hkl)
      obtain ⟨dt, hdt⟩ : ∃ dt, dt = ((b).drop 4).take k := ⟨_, rfl⟩
      have hdl : dt.length = k := by rw [hdt, List.length_take, List.length_drop]; omega
      have HDT := Lib.hid (And.intro hdt hdl)
      clear hv1 hcd hv2 hkn hop h4 hkl hdt hdl
      go_wp2_with fail
      refine CL.out.mono ?_
      rintro e w1 ⟨rfl, rfl⟩
      go_wp2_with fail
      refine CN.out.mono ?_
      rintro e w2 ⟨rfl, hk2', ho2⟩
      have CN2 := Lib.hid (num_K gc (List.drop 2 (b)) 2 w2 hk2' (by decide) (by decide) (by rw [List.length_drop]; have := HKL.out.1; omega))
      rw [HKN.out, List.drop_drop] at CN2
      clear CL CN hk2'
      go_wp2_with fail
      refine CN2.out.mono ?_
      rintro e w3 ⟨rfl, hk3, ho3⟩
      have CY := Lib.hid (bytes_K gc (List.drop (2 + 2) (b)) k w3 hk3 (by rw [List.length_drop]; have := HKL.out; omega))
      rw [List.drop_drop] at CY
      clear CN2 hk3
      go_wp2_with fail
      refine CY.out.mono ?_
      rintro e w4 ⟨A4, rfl, hr4, hk4, ho4⟩
      have HO4 := Lib.hid ((ho2.trans ho3).trans ho4)
      have HK4 := Lib.hid hk4
      have HR4 := Lib.hid hr4
      have CB := Lib.hid (bad_K gc _ w4 hk4)
      clear ho2 ho3 ho4 hk4 hr4 CY
      go_wp2_with fail
      refine CB.out.mono ?_
      rintro e w5 ⟨rfl, rfl⟩
      have T4 : Tn (fun j => j = gc) w1 w4 := ⟨HO4.out.os, HO4.out.tape, HO4.out.output, Nat.le_of_eq HO4.out.size.symm, fun j _ hj => HO4.out.old j hj⟩
      have M4 := Lib.hid (HO.out.map.turn T4 (Nat.ne_of_lt HO.out.lt))
      have D4 := Lib.hid (HO.out.dn.turn T4 fun j hj => by rw [hj]; exact Nat.lt_succ_self _)
      have hlook := M4.out.look (k := cd) (by omega)
      have hd := D4.out cd
      have B14 : Below w.heap.size w w4 := HO.out.bel.trans (T4.below (n := w.heap.size) (fun j hj => by rw [hj]; have := HO.out.ge; have := HO.out.lt; omega) HO.out.bel.size)
      have HB4 := Lib.hid B14
      have e22 : 2 + 2 + k = 4 + k := rfl
      rw [e22] at HK4
      clear B14 CB e22
      cases hlk : List.lookup cd (done0) with
      | some d0 =>
        simp only [hlk] at hd
        obtain ⟨b0, o0, c0, e0, _, _⟩ := hd
        rw [e0] at hlook
        have hlook' : Sem.run Try.prog (Instr.lookup 70 (.map (some (w.heap.size))) (.int .u64 (cd : Int)) false) w4 = .ok (.slice (some ⟨b0, o0, none⟩) d0.length c0) w4 := hlook
        have HJ : Hid (OptsBt w w4 b (w.heap.size) gc (n0) (M0) (List.drop (4 + k) (b)) ((done0) ++ [(cd, dt)])) := Lib.hid ⟨HK4.out, M4.out, D4.out.skip hlk, HOP2.out, HO.out.ge, HO.out.lt, HB4.out, by have := HO.out.sz; rw [List.length_drop]; omega⟩
        have hm : (List.drop (4 + k) (b)).length < (b).length := by have := HKL.out; rw [List.length_drop]; omega
        clear hlook hlk T4
        go_wp2_with fail
        go_step3
        exact ⟨rfl, OptBJ.mk HJ.out⟩
      | none =>
        simp only [hlk] at hd
        have hlook' : Sem.run Try.prog (Instr.lookup 70 (.map (some (w.heap.size))) (.int .u64 (cd : Int)) false) w4 = .ok (.slice none 0 0) w4 := by rw [hlook, hd]; rfl
        have HLK := Lib.hid hlk
        have HD := Lib.hid hd
        have lt4 := HK4.out.lt
        have E5 := Lib.hid (own_empty w4 w4.heap.size (Nat.le_refl _))
        have b45 : Below w4.heap.size w4 (w4.alloc (.cells #[] 5 (0, 0))) := (by (repeat (first | exact Below.refl _ _ | assumption | refine Below.drew ?_ | refine bdrewN ?_ _ | refine Below.alloc ?_ (by first | omega | (simp <;> omega) | (simp only [World.size_alloc] <;> omega)) _ | refine below_setRow ?_ (by first | omega | (simp <;> omega)) _ | refine Below.setCell ?_ (by first | omega | (simp <;> omega)) _)))
        have R5 : Hid (Rd (w4.alloc (.cells #[] 5 (0, 0))) (w4.alloc (.cells #[] 5 (0, 0))).heap.size A4 dt) := Lib.hid (by
          rw [HDT.out.1]; exact (HR4.out.below b45 (Nat.le_of_lt lt4)).mono (Nat.le_trans (Nat.le_of_lt lt4) b45.size))
        have N5 : Hid (A4 = none → dt = [] ∧ k = 0) := Lib.hid fun e => by
          have h1 := R5.out
          rw [e] at h1
          have h2 := Rd.none_nil h1
          have h3 := HDT.out.2
          rw [h2] at h3
          exact ⟨h2, h3.symm⟩
        have B45 := Lib.hid b45
        clear hlook hlk hd T4 b45
        go_wp2_with (at_builtin; refine wpList_copy rfl _ _ rfl w4.heap.size w4.heap.size dt k rfl E5.out A4 k rfl HDT.out.2.symm R5.out N5.out (by simp) (by rw [HDT.out.2]; omega) ?_)
        intro b6 c6 w6 ho6 hg6
        have b46 : Below w4.heap.size w4 w6 := B45.out.grown hg6 (by simp) (fun q hq => by cases hq; exact Nat.le_refl _)
        have t46 := Tn.of (F := fun _ => False) b46
        have M6 := M4.out.turn t46 (fun e => e)
        have D6 := D4.out.turn t46 (fun q hq => hq.elim)
        have K6 := HK4.out.keep b46 lt4
        have R6 : Rd w6 w6.heap.size (some ⟨b6, 0, none⟩) dt := by
          obtain ⟨A9, c9, e9, hR9, _, _⟩ := Rd.of_own ho6 rfl
          cases e9
          exact hR9
        have lo6 : gc + 1 ≤ b6 ∧ dt.length ≤ c6 ∧ c6 < 2 ^ 63 := by
          refine ⟨by have := (ho6.lt b6 rfl).1; omega, ?_⟩
          rcases ho6.2 with ⟨q, _⟩ | ⟨g9, cap9, cur9, q, _, _, hle9, hm9, _⟩
          · cases q
          · cases q
            exact ⟨hle9, by unfold maxLen at hm9; omega⟩
        have D7 := Lib.hid (D6.add (cc := c6) HLK.out R6 lo6)
        obtain ⟨D, hown, hI, hAt⟩ := M6
        obtain ⟨es, ck, hmap, _⟩ := id hown
        have K6' := Lib.hid K6
        have HMP := Lib.hid hmap
        have HAT := Lib.hid (And.intro hI hAt)
        have HB6 := Lib.hid (HB4.out.trans (b46.mono HB4.out.size))
        have hnm : (n0) < maxLen := by have := HO.out.sz; unfold maxLen; omega
        clear ho6 hg6 b46 t46 D6 K6 R6 lo6 hmap hI hAt E5 R5 N5 B45 hlook'
        go_wp2_with (at_mapUpdate; refine wpList_mapUpdate_in _ rfl _ _ _ 70 rfl 29 22 law64 Try.underlying70 RV (w.heap.size) _ _ rfl hown hnm _ _ _ rfl rfl (key64 (q := cd) (by omega)) _ [] rfl ?_; intro w7 hown7 hturn7)
        have t7 : Tn (fun j => j = (w.heap.size)) w6 w7 := by
          have hg := hturn7.grown
          exact ⟨hg.os, hg.tape, hg.output, hg.size, fun q hq hn => hg.block q hq (fun e => hn (by cases e; rfl))⟩
        have hglt := HO.out.lt
        have hgge := HO.out.ge
        have HJ : Hid (OptsBt w w7 b (w.heap.size) gc ((n0) + 1) (fun j => if j = cd then some (.slice (some ⟨b6, 0, none⟩) dt.length c6) else (M0) j) (List.drop (4 + k) (b)) ((done0) ++ [(cd, dt)])) := Lib.hid ⟨K6'.out.map HMP.out t7 (by omega), MapIs.put HAT.out.1 HAT.out.2 (by omega) hown7, D7.out.turn t7 (fun q hq => by rw [hq]; omega), HOP2.out, HO.out.ge, HO.out.lt, HB6.out.trans (t7.below (n := w.heap.size) (fun q hq => by rw [hq]; exact hgge) HB6.out.size), by have := HO.out.sz; have := HKL.out; rw [List.length_drop]; omega⟩
        have hm : (List.drop (4 + k) (b)).length < (b).length := by have := HKL.out; rw [List.length_drop]; omega
        clear hown7 hturn7 t7 hown D7 HAT K6' HMP
        go_wp2_with fail
        go_step3
        exact ⟨rfl, OptBJ.mk HJ.out⟩
  · rintro a' w' ⟨g, gc, n, M, rest, done, u1, u2, u3, u6, u7, u8, u9, u10, u11, u12, u13, u14, u15, u16, u17, u18, u19, u20, u21, u22, u23, u24, u25, u26, u27, u28, u29, u30, u31, u32, u33, u34, u35, rfl, HO⟩
    replace HO := Lib.hid HO
    have CL := Lib.hid (left_K gc (rest) w' HO.out.kc)
    rcases HO.out.op.inv with ⟨h0, hsh⟩ | ⟨k, h4, hkn, hkl, hop⟩
    · have n1 : (((rest).length : Int) == 0) = false := beq_eq_false_iff_ne.2 (by have : (rest).length ≠ 0 := fun e => h0 (List.eq_nil_of_length_eq_zero e); omega)
      have HSH := Lib.hid hsh
      have T0 := Lib.hid HO.out.bel
      clear h0 hsh
      by_cases hs2 : (rest).length < 2
      · have CN := Lib.hid (num_KS gc (rest) 2 w' HO.out.kc (by omega))
        clear hs2
        go_wp2_with fail
        refine CL.out.mono ?_
        rintro e w1 ⟨rfl, rfl⟩
        go_wp2_with fail
        refine CN.out.mono ?_
        rintro e w2 ⟨rfl, hk2, ho2⟩
        have CN2 := Lib.hid (num_KB gc 2 w2 hk2)
        clear CL CN hk2
        go_wp2_with fail
        refine CN2.out.mono ?_
        rintro e w3 ⟨rfl, hk3, ho3⟩
        have CY := Lib.hid (bytes_KB gc 0 w3 hk3)
        clear CN2 hk3
        go_wp2_with fail
        refine CY.out.mono ?_
        rintro e w4 ⟨rfl, hk4, ho4⟩
        have HO4 := Lib.hid ((ho2.trans ho3).trans ho4)
        have CB := Lib.hid (bad_KB gc w4 hk4)
        clear ho2 ho3 ho4 hk4 CY
        go_wp2_with fail
        refine CB.out.mono ?_
        rintro e w5 ⟨rfl, rfl⟩
        clear CB
        go_wp2_with fail
        simp only [Exit.jump]
        go_ret2
        exact ⟨rfl, T0.out.trans (HO4.out.below (n := w.heap.size) (by have := HO.out.ge; have := HO.out.lt; omega))⟩
      · have CN := Lib.hid (num_K gc (rest) 2 w' HO.out.kc (by decide) (by decide) (by omega))
        have hv1 := val_lt ((rest).take 2)
        obtain ⟨cd, hcd⟩ : ∃ cd, cd = val ((rest).take 2) := ⟨_, rfl⟩
        have hcd2 : cd < 65536 := by rw [hcd]; refine Nat.lt_of_lt_of_le hv1 (Nat.le_trans (Nat.pow_le_pow_right (by decide) (show _ ≤ 2 by rw [List.length_take]; omega)) (by decide))
        rw [← hcd] at CN
        clear hv1 hcd
        by_cases hs4 : (rest).length < 4
        · have HS4 := Lib.hid (And.intro hs2 hs4)
          clear hs2 hs4
          go_wp2_with fail
          refine CL.out.mono ?_
          rintro e w1 ⟨rfl, rfl⟩
          go_wp2_with fail
          refine CN.out.mono ?_
          rintro e w2 ⟨rfl, hk2, ho2⟩
          have CN2 := Lib.hid (num_KS gc (List.drop 2 (rest)) 2 w2 hk2 (by rw [List.length_drop]; have := HS4.out; omega))
          clear CL CN hk2
          go_wp2_with fail
          refine CN2.out.mono ?_
          rintro e w3 ⟨rfl, hk3, ho3⟩
          have CY := Lib.hid (bytes_KB gc 0 w3 hk3)
          clear CN2 hk3
          go_wp2_with fail
          refine CY.out.mono ?_
          rintro e w4 ⟨rfl, hk4, ho4⟩
          have HO4 := Lib.hid ((ho2.trans ho3).trans ho4)
          have CB := Lib.hid (bad_KB gc w4 hk4)
          clear ho2 ho3 ho4 hk4 CY
          go_wp2_with fail
          refine CB.out.mono ?_
          rintro e w5 ⟨rfl, rfl⟩
          clear CB
          go_wp2_with fail
          simp only [Exit.jump]
          go_ret2
          exact ⟨rfl, T0.out.trans (HO4.out.below (n := w.heap.size) (by have := HO.out.ge; have := HO.out.lt; omega))⟩
        · have hv2 := val_lt (List.take 2 (List.drop 2 (rest)))
          obtain ⟨k, hkn⟩ : ∃ k, k = val (List.take 2 (List.drop 2 (rest))) := ⟨_, rfl⟩
          have hk2 : k < 65536 := by rw [hkn]; refine Nat.lt_of_lt_of_le hv2 (Nat.le_trans (Nat.pow_le_pow_right (by decide) (show _ ≤ 2 by rw [List.length_take]; omega)) (by decide))
          have HKN := Lib.hid hkn
          have HS4 : Hid (4 ≤ (rest).length ∧ (rest).length < 4 + k) := Lib.hid (by have := HSH.out; rw [← hkn] at this; omega)
          clear hs2 hs4 hkn hv2
          go_wp2_with fail
          refine CL.out.mono ?_
          rintro e w1 ⟨rfl, rfl⟩
          go_wp2_with fail
          refine CN.out.mono ?_
          rintro e w2 ⟨rfl, hk2', ho2⟩
          have CN2 := Lib.hid (num_K gc (List.drop 2 (rest)) 2 w2 hk2' (by decide) (by decide) (by rw [List.length_drop]; have := HS4.out; omega))
          rw [← HKN.out, List.drop_drop] at CN2
          clear CL CN hk2'
          go_wp2_with fail
          refine CN2.out.mono ?_
          rintro e w3 ⟨rfl, hk3, ho3⟩
          have CY := Lib.hid (bytes_KS gc (List.drop (2 + 2) (rest)) k w3 hk3 (by rw [List.length_drop]; have := HS4.out; omega))
          clear CN2 hk3
          go_wp2_with fail
          refine CY.out.mono ?_
          rintro e w4 ⟨rfl, hk4, ho4⟩
          have HO4 := Lib.hid ((ho2.trans ho3).trans ho4)
          have CB := Lib.hid (bad_KB gc w4 hk4)
          clear ho2 ho3 ho4 hk4 CY
          go_wp2_with fail
          refine CB.out.mono ?_
          rintro e w5 ⟨rfl, rfl⟩
          clear CB
          go_wp2_with fail
          simp only [Exit.jump]
          go_ret2
          exact ⟨rfl, T0.out.trans (HO4.out.below (n := w.heap.size) (by have := HO.out.ge; have := HO.out.lt; omega))⟩
    · have n1 : (((rest).length : Int) == 0) = false := beq_eq_false_iff_ne.2 (by omega)
      have CN := Lib.hid (num_K gc (rest) 2 w' HO.out.kc (by decide) (by decide) (by omega))
      have hv1 := val_lt ((rest).take 2)
      obtain ⟨cd, hcd⟩ : ∃ cd, cd = val ((rest).take 2) := ⟨_, rfl⟩
      have hcd2 : cd < 65536 := by rw [hcd]; refine Nat.lt_of_lt_of_le hv1 (Nat.le_trans (Nat.pow_le_pow_right (by decide) (show _ ≤ 2 by rw [List.length_take]; omega)) (by decide))
      have hv2 := val_lt (List.take 2 (List.drop 2 (rest)))
      have hk2 : k < 65536 := by rw [← hkn]; refine Nat.lt_of_lt_of_le hv2 (Nat.le_trans (Nat.pow_le_pow_right (by decide) (show _ ≤ 2 by rw [List.length_take]; omega)) (by decide))
      rw [← hcd] at CN
      have HKN := Lib.hid hkn
      have HOP2 := Lib.hid hop
      have HKL := Lib.hid (And.intro h4 hkl)
      obtain ⟨dt, hdt⟩ : ∃ dt, dt = ((rest).drop 4).take k := ⟨_, rfl⟩
      have hdl : dt.length = k := by rw [hdt, List.length_take, List.length_drop]; omega
      have HDT := Lib.hid (And.intro hdt hdl)
      clear hv1 hcd hv2 hkn hop h4 hkl hdt hdl
      go_wp2_with fail
      refine CL.out.mono ?_
      rintro e w1 ⟨rfl, rfl⟩
      go_wp2_with fail
      refine CN.out.mono ?_
      rintro e w2 ⟨rfl, hk2', ho2⟩
      have CN2 := Lib.hid (num_K gc (List.drop 2 (rest)) 2 w2 hk2' (by decide) (by decide) (by rw [List.length_drop]; have := HKL.out.1; omega))
      rw [HKN.out, List.drop_drop] at CN2
      clear CL CN hk2'
      go_wp2_with fail
      refine CN2.out.mono ?_
      rintro e w3 ⟨rfl, hk3, ho3⟩
      have CY := Lib.hid (bytes_K gc (List.drop (2 + 2) (rest)) k w3 hk3 (by rw [List.length_drop]; have := HKL.out; omega))
      rw [List.drop_drop] at CY
      clear CN2 hk3
      go_wp2_with fail
      refine CY.out.mono ?_
      rintro e w4 ⟨A4, rfl, hr4, hk4, ho4⟩
      have HO4 := Lib.hid ((ho2.trans ho3).trans ho4)
      have HK4 := Lib.hid hk4
      have HR4 := Lib.hid hr4
      have CB := Lib.hid (bad_K gc _ w4 hk4)
      clear ho2 ho3 ho4 hk4 hr4 CY
      go_wp2_with fail
      refine CB.out.mono ?_
      rintro e w5 ⟨rfl, rfl⟩
      have T4 : Tn (fun j => j = gc) w' w4 := ⟨HO4.out.os, HO4.out.tape, HO4.out.output, Nat.le_of_eq HO4.out.size.symm, fun j _ hj => HO4.out.old j hj⟩
      have M4 := Lib.hid (HO.out.map.turn T4 (Nat.ne_of_lt HO.out.lt))
      have D4 := Lib.hid (HO.out.dn.turn T4 fun j hj => by rw [hj]; exact Nat.lt_succ_self _)
      have hlook := M4.out.look (k := cd) (by omega)
      have hd := D4.out cd
      have B14 : Below w.heap.size w w4 := HO.out.bel.trans (T4.below (n := w.heap.size) (fun j hj => by rw [hj]; have := HO.out.ge; have := HO.out.lt; omega) HO.out.bel.size)
      have HB4 := Lib.hid B14
      have e22 : 2 + 2 + k = 4 + k := rfl
      rw [e22] at HK4
      clear B14 CB e22
      cases hlk : List.lookup cd (done) with
      | some d0 =>
        simp only [hlk] at hd
        obtain ⟨b0, o0, c0, e0, _, _⟩ := hd
        rw [e0] at hlook
        have hlook' : Sem.run Try.prog (Instr.lookup 70 (.map (some (g))) (.int .u64 (cd : Int)) false) w4 = .ok (.slice (some ⟨b0, o0, none⟩) d0.length c0) w4 := hlook
        have HJ : Hid (OptsBt w w4 b (g) gc (n) (M) (List.drop (4 + k) (rest)) ((done) ++ [(cd, dt)])) := Lib.hid ⟨HK4.out, M4.out, D4.out.skip hlk, HOP2.out, HO.out.ge, HO.out.lt, HB4.out, by have := HO.out.sz; rw [List.length_drop]; omega⟩
        have hm : (List.drop (4 + k) (rest)).length < (rest).length := by have := HKL.out; rw [List.length_drop]; omega
        clear hlook hlk T4
        go_wp2_with fail
        go_step3
        exact ⟨rfl, OptBJ.mk HJ.out, mCut_lt HO.out.kc HJ.out.kc hm rfl rfl⟩
      | none =>
        simp only [hlk] at hd
        have hlook' : Sem.run Try.prog (Instr.lookup 70 (.map (some (g))) (.int .u64 (cd : Int)) false) w4 = .ok (.slice none 0 0) w4 := by rw [hlook, hd]; rfl
        have HLK := Lib.hid hlk
        have HD := Lib.hid hd
        have lt4 := HK4.out.lt
        have E5 := Lib.hid (own_empty w4 w4.heap.size (Nat.le_refl _))
        have b45 : Below w4.heap.size w4 (w4.alloc (.cells #[] 5 (0, 0))) := (by (repeat (first | exact Below.refl _ _ | assumption | refine Below.drew ?_ | refine bdrewN ?_ _ | refine Below.alloc ?_ (by first | omega | (simp <;> omega) | (simp only [World.size_alloc] <;> omega)) _ | refine below_setRow ?_ (by first | omega | (simp <;> omega)) _ | refine Below.setCell ?_ (by first | omega | (simp <;> omega)) _)))
        have R5 : Hid (Rd (w4.alloc (.cells #[] 5 (0, 0))) (w4.alloc (.cells #[] 5 (0, 0))).heap.size A4 dt) := Lib.hid (by
          rw [HDT.out.1]; exact (HR4.out.below b45 (Nat.le_of_lt lt4)).mono (Nat.le_trans (Nat.le_of_lt lt4) b45.size))
        have N5 : Hid (A4 = none → dt = [] ∧ k = 0) := Lib.hid fun e => by
          have h1 := R5.out
          rw [e] at h1
          have h2 := Rd.none_nil h1
          have h3 := HDT.out.2
          rw [h2] at h3
          exact ⟨h2, h3.symm⟩
        have B45 := Lib.hid b45
        clear hlook hlk hd T4 b45
        go_wp2_with (at_builtin; refine wpList_copy rfl _ _ rfl w4.heap.size w4.heap.size dt k rfl E5.out A4 k rfl HDT.out.2.symm R5.out N5.out (by simp) (by rw [HDT.out.2]; omega) ?_)
        intro b6 c6 w6 ho6 hg6
        have b46 : Below w4.heap.size w4 w6 := B45.out.grown hg6 (by simp) (fun q hq => by cases hq; exact Nat.le_refl _)
        have t46 := Tn.of (F := fun _ => False) b46
        have M6 := M4.out.turn t46 (fun e => e)
        have D6 := D4.out.turn t46 (fun q hq => hq.elim)
        have K6 := HK4.out.keep b46 lt4
        have R6 : Rd w6 w6.heap.size (some ⟨b6, 0, none⟩) dt := by
          obtain ⟨A9, c9, e9, hR9, _, _⟩ := Rd.of_own ho6 rfl
          cases e9
          exact hR9
        have lo6 : gc + 1 ≤ b6 ∧ dt.length ≤ c6 ∧ c6 < 2 ^ 63 := by
          refine ⟨by have := (ho6.lt b6 rfl).1; omega, ?_⟩
          rcases ho6.2 with ⟨q, _⟩ | ⟨g9, cap9, cur9, q, _, _, hle9, hm9, _⟩
          · cases q
          · cases q
            exact ⟨hle9, by unfold maxLen at hm9; omega⟩
        have D7 := Lib.hid (D6.add (cc := c6) HLK.out R6 lo6)
        obtain ⟨D, hown, hI, hAt⟩ := M6
        obtain ⟨es, ck, hmap, _⟩ := id hown
        have K6' := Lib.hid K6
        have HMP := Lib.hid hmap
        have HAT := Lib.hid (And.intro hI hAt)
        have HB6 := Lib.hid (HB4.out.trans (b46.mono HB4.out.size))
        have hnm : (n) < maxLen := by have := HO.out.sz; unfold maxLen; omega
        clear ho6 hg6 b46 t46 D6 K6 R6 lo6 hmap hI hAt E5 R5 N5 B45 hlook'
        go_wp2_with (at_mapUpdate; refine wpList_mapUpdate_in _ rfl _ _ _ 70 rfl 29 22 law64 Try.underlying70 RV (g) _ _ rfl hown hnm _ _ _ rfl rfl (key64 (q := cd) (by omega)) _ [] rfl ?_; intro w7 hown7 hturn7)
        have t7 : Tn (fun j => j = (g)) w6 w7 := by
          have hg := hturn7.grown
          exact ⟨hg.os, hg.tape, hg.output, hg.size, fun q hq hn => hg.block q hq (fun e => hn (by cases e; rfl))⟩
        have hglt := HO.out.lt
        have hgge := HO.out.ge
        have HJ : Hid (OptsBt w w7 b (g) gc ((n) + 1) (fun j => if j = cd then some (.slice (some ⟨b6, 0, none⟩) dt.length c6) else (M) j) (List.drop (4 + k) (rest)) ((done) ++ [(cd, dt)])) := Lib.hid ⟨K6'.out.map HMP.out t7 (by omega), MapIs.put HAT.out.1 HAT.out.2 (by omega) hown7, D7.out.turn t7 (fun q hq => by rw [hq]; omega), HOP2.out, HO.out.ge, HO.out.lt, HB6.out.trans (t7.below (n := w.heap.size) (fun q hq => by rw [hq]; exact hgge) HB6.out.size), by have := HO.out.sz; have := HKL.out; rw [List.length_drop]; omega⟩
        have hm : (List.drop (4 + k) (rest)).length < (rest).length := by have := HKL.out; rw [List.length_drop]; omega
        clear hown7 hturn7 t7 hown D7 HAT K6' HMP
        go_wp2_with fail
        go_step3
        exact ⟨rfl, OptBJ.mk HJ.out, mCut_lt HO.out.kc HJ.out.kc hm rfl rfl⟩
end Go.Proofs.Ytfldoihindbdmaa

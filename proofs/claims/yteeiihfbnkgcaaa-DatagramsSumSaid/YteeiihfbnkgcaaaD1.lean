/- Datagrams put: the program's. -/
import Derived.Test.YteeiihfbnkgcaaaD0
import Derived.Test.YteeiihfbnkgcaaaU5
import Derived.Deep.Onto
namespace Go.Proofs.Yteeiihfbnkgcaaa
open Go.RowKit
set_option maxRecDepth 100000
/-- Numbers, two bytes each. -/
def nb2s (ns : List Nat) : List UInt8 := (ns.map (nb 2)).flatten
theorem nb2s_length (ns : List Nat) : (nb2s ns).length = 2 * ns.length := by
  induction ns with
  | nil => rfl
  | cons n ns ih => simp only [nb2s, List.map_cons, List.flatten_cons, List.length_append, nb_length, List.length_cons] at *; omega
theorem nb2s_take (ns : List Nat) (k : Nat) (h : k < ns.length) : nb2s (ns.take (k + 1)) = nb2s (ns.take k) ++ nb 2 ns[k] := by
  rw [List.take_succ_eq_append_getElem h]; unfold nb2s; rw [List.map_append, List.flatten_append]; simp
/-- A datagram's head; its checksum as it is put; its bytes. -/
def dhead (f t n c : Nat) : List UInt8 := nb2s [f, t, n, c]
def dsum (src dst : List UInt8) (f t : Nat) (l : List UInt8) : Nat :=
  if sumOf (ovr src dst 17 (dhead f t (8 + l.length) 0 ++ l)) = 0 then 65535 else sumOf (ovr src dst 17 (dhead f t (8 + l.length) 0 ++ l))
def dgb (src dst : List UInt8) (f t : Nat) (l : List UInt8) : List UInt8 := dhead f t (8 + l.length) (dsum src dst f t l) ++ l
theorem dgb_length (src dst : List UInt8) (f t : Nat) (l : List UInt8) : (dgb src dst f t l).length = 8 + l.length := by simp [dgb, dhead, nb2s_length]
theorem dput_long (src dst : List UInt8) (f t : Nat) (A : Option Addr) (n c : Nat) (w : World) (_h1 : src.length = 16) (_h2 : dst.length = 16) (hl : 65527 < n) (h63 : n < 2 ^ 62) :
    Calls Try.prog 9 #[av src, av dst, .agg (dgc f t A n c)] w fun e w' => e = .returned (.tuple #[.slice none 0 0, .int .i64 3]) ∧ Below w.heap.size w w' := by
  have w8 : IntKind.i64.wrap (8 + (n : Int)) = 8 + (n : Int) := by rw [IntKind.wrap_i64]; omega
  have d1 : decide (65535 < 8 + (n : Int)) = true := by simp; omega
  go_enter Try.func9, Try.ntmps9
  have a0 : Below w.heap.size w (((w.alloc (.cells (src.map B).toArray 23)).alloc (.cells (dst.map B).toArray 23)).alloc (.cells (dgc f t A n c) 29)) := (((Below.refl _ _).alloc (Nat.le_refl _) _).alloc (by simp) _).alloc (by simp; omega) _
  go_wp2_with fail
  refine bodyPost_ret (results_tmp2 rfl _ _ _) rfl ?_
  exact ⟨rfl, a0⟩
theorem own_set {w : World} {base n g cap j : Nat} {L : List UInt8} (h : w.ownsRow base 5 1 (.slice (some ⟨g, 0, none⟩) n cap) n (L.map B)) (x : UInt8) :
    (w.setCell ⟨g, j, none⟩ (B x)).ownsRow base 5 1 (.slice (some ⟨g, 0, none⟩) n cap) n ((L.set j x).map B) := by
  obtain ⟨hl, ⟨h1, _⟩ | ⟨g', cap', cur, h1, hg, hb, hle, hm, hs, ht⟩⟩ := h
  · cases h1
  · cases h1
    refine ⟨by simpa using hl, .inr ⟨g, cap, cur.setIfInBounds j (B x), rfl, hg, ?_, hle, hm, by simpa using hs, ?_⟩⟩
    · have : bk (w.setCell ⟨g, j, none⟩ (B x)) g = some (.cells (cur.setIfInBounds j (B x)) 5 (0, 0)) := by rw [bk_setCell_same, show bk w g = _ from hb]; rfl
      exact this
    · rw [Array.toList_setIfInBounds, List.take_set, ht, List.map_set]
theorem nb2' (k : Nat) : nb 2 k = [UInt8.ofNat (k / 256), UInt8.ofNat k] := by simp [nb, List.range_succ]
theorem dset (f t n c : Nat) (l : List UInt8) : ((dhead f t n 0 ++ l).set 6 (UInt8.ofNat (c / 256))).set 7 (UInt8.ofNat c) = dhead f t n c ++ l := by
  simp only [dhead, nb2s, List.map_cons, List.map_nil, List.flatten_cons, List.flatten_nil, nb2', List.append_nil, List.cons_append, List.nil_append, List.set_cons_succ, List.set_cons_zero]
theorem put_end {w : World} {base g cap f t : Nat} {src dst l L : List UInt8} {v6 v7 : Value} (h : w.ownsRow base 5 1 (.slice (some ⟨g, 0, none⟩) L.length cap) L.length (L.map B)) (hL : L = dhead f t (8 + l.length) 0 ++ l)
    (h6 : v6 = B (UInt8.ofNat (dsum src dst f t l / 256))) (h7 : v7 = B (UInt8.ofNat (dsum src dst f t l))) :
    ((w.setCell ⟨g, 6, none⟩ v6).setCell ⟨g, 7, none⟩ v7).ownsRow base 5 1 (.slice (some ⟨g, 0, none⟩) L.length cap) (dgb src dst f t l).length ((dgb src dst f t l).map B) := by
  subst h6 h7
  have o1 := own_set (j := 7) (own_set (j := 6) h (UInt8.ofNat (dsum src dst f t l / 256))) (UInt8.ofNat (dsum src dst f t l))
  have e1 : (L.set 6 (UInt8.ofNat (dsum src dst f t l / 256))).set 7 (UInt8.ofNat (dsum src dst f t l)) = dgb src dst f t l := by rw [hL, dset]; rfl
  have e2 : L.length = (dgb src dst f t l).length := by rw [← e1]; simp
  rw [e1, e2] at o1
  rw [e2]
  exact o1
theorem own_below {w w' : World} {base n : Nat} {v : Value} {xs : List Value} (h : w.ownsRow base 5 1 v n xs) (hb : Below w.heap.size w w') : w'.ownsRow base 5 1 v n xs := by
  obtain ⟨hl, h1 | ⟨g, cap, cur, h1, hg, hk, h2⟩⟩ := h
  · exact ⟨hl, .inl h1⟩
  · exact ⟨hl, .inr ⟨g, cap, cur, h1, hg, bk_keep hb (bk_lt (w := w) hk) hk, h2⟩⟩
theorem own_some {w : World} {base n c : Nat} {A : Option Addr} {xs : List Value} (h : w.ownsRow base 5 1 (.slice A n c) n xs) (h0 : 0 < n) : ∃ g cur, A = some ⟨g, 0, none⟩ ∧ bk w g = some (.cells cur 5 (0, 0)) ∧ n ≤ cur.size ∧ base ≤ g := by
  obtain ⟨hl, ⟨h1, h2⟩ | ⟨g, cap, cur, h1, hg, hk, h2, h3, h4, _⟩⟩ := h
  · omega
  · cases h1
    exact ⟨g, cur, rfl, hk, by omega, hg⟩
theorem sumOf_le (L : List UInt8) : sumOf L ≤ 65535 := by unfold sumOf; omega
set_option maxHeartbeats 1000000 in
theorem dput_any (src dst : List UInt8) (f t : Nat) (A : Option Addr) (l : List UInt8) (c : Nat) (w : World) (h1 : src.length = 16) (h2 : dst.length = 16) (hf : f < 65536) (ht : t < 65536) (h : Rd w w.heap.size A l) (hA : A = none → l = [] ∧ c = 0) (hl : l.length ≤ 65527) :
    Calls Try.prog 9 #[av src, av dst, .agg (dgc f t A l.length c)] w fun e w' => ∃ v, e = .returned (.tuple #[v, .int .i64 0]) ∧ w'.ownsRow w.heap.size 5 1 v (dgb src dst f t l).length ((dgb src dst f t l).map B) ∧ Below w.heap.size w w' := by
  have H := Lib.hid h; have HA := Lib.hid hA
  clear h hA
  have w8 : IntKind.i64.wrap (8 + (l.length : Int)) = 8 + (l.length : Int) := by rw [IntKind.wrap_i64]; omega
  have w9 : IntKind.u16.wrap (8 + (l.length : Int)) = 8 + (l.length : Int) := by rw [IntKind.wrap_u16]; omega
  have d1 : decide (65535 < 8 + (l.length : Int)) = false := by simp; omega
  go_enter Try.func9, Try.ntmps9
  go_wp2_with fail
  have a4 : Below w.heap.size w ((((w.alloc (.cells (src.map B).toArray 23)).alloc (.cells (dst.map B).toArray 23)).alloc (.cells (dgc f t A l.length c) 29)).alloc (.cells #[.int .u16 (f : Int), .int .u16 (t : Int), .int .u16 (8 + (l.length : Int)), .int .u16 0] 26)) := ((((Below.refl _ _).alloc (Nat.le_refl _) _).alloc (by simp) _).alloc (by simp <;> omega) _).alloc (by simp <;> omega) _
  have k0 : bk ((((w.alloc (.cells (src.map B).toArray 23)).alloc (.cells (dst.map B).toArray 23)).alloc (.cells (dgc f t A l.length c) 29)).alloc (.cells #[.int .u16 (f : Int), .int .u16 (t : Int), .int .u16 (8 + (l.length : Int)), .int .u16 0] 26)) w.heap.size = some (.cells (src.map B).toArray 23 (0, 0)) := by rw [bk_alloc_past _ _ _ (by simp <;> omega), bk_alloc_past _ _ _ (by simp <;> omega), bk_alloc_past _ _ _ (by simp)]; exact bk_alloc_at _ _ _ rfl
  have k1 : bk ((((w.alloc (.cells (src.map B).toArray 23)).alloc (.cells (dst.map B).toArray 23)).alloc (.cells (dgc f t A l.length c) 29)).alloc (.cells #[.int .u16 (f : Int), .int .u16 (t : Int), .int .u16 (8 + (l.length : Int)), .int .u16 0] 26)) (w.heap.size + 1) = some (.cells (dst.map B).toArray 23 (0, 0)) := by rw [bk_alloc_past _ _ _ (by simp <;> omega), bk_alloc_past _ _ _ (by simp)]; exact bk_alloc_at _ _ _ (by simp)
  have k2 : bk ((((w.alloc (.cells (src.map B).toArray 23)).alloc (.cells (dst.map B).toArray 23)).alloc (.cells (dgc f t A l.length c) 29)).alloc (.cells #[.int .u16 (f : Int), .int .u16 (t : Int), .int .u16 (8 + (l.length : Int)), .int .u16 0] 26)) (w.heap.size + 1 + 1) = some (.cells (dgc f t A l.length c) 29 (0, 0)) := by rw [bk_alloc_past _ _ _ (by simp)]; exact bk_alloc_at _ _ _ (by simp)
  have k3 : bk ((((w.alloc (.cells (src.map B).toArray 23)).alloc (.cells (dst.map B).toArray 23)).alloc (.cells (dgc f t A l.length c) 29)).alloc (.cells #[.int .u16 (f : Int), .int .u16 (t : Int), .int .u16 (8 + (l.length : Int)), .int .u16 0] 26)) (w.heap.size + 1 + 1 + 1) = some (.cells #[.int .u16 (f : Int), .int .u16 (t : Int), .int .u16 (8 + (l.length : Int)), .int .u16 0] 26 (0, 0)) := bk_alloc_at _ _ _ (by simp)
  have A4 := Lib.hid a4; have K0 := Lib.hid k0; have K1 := Lib.hid k1; have K2 := Lib.hid k2; have K3 := Lib.hid k3
  clear a4 k0 k1 k2 k3
  generalize ((((w.alloc (.cells (src.map B).toArray 23)).alloc (.cells (dst.map B).toArray 23)).alloc (.cells (dgc f t A l.length c) 29)).alloc (.cells #[.int .u16 (f : Int), .int .u16 (t : Int), .int .u16 (8 + (l.length : Int)), .int .u16 0] 26)) = wa at *
  have hxs : w.heap.size + 1 + 1 + 1 < wa.heap.size := bk_lt K3.out
  have hcell : ∀ k, (hk : k < 4) → wa.cell? ⟨w.heap.size + 1 + 1 + 1, k, none⟩ = some (.int .u16 (([f, t, 8 + l.length, 0] : List Nat)[k] : Nat)) ∧ ([f, t, 8 + l.length, 0] : List Nat)[k] < 65536 := fun k hk => by
    rw [bk_cell K3.out]
    match k, hk with
    | 0, _ => exact ⟨rfl, hf⟩
    | 1, _ => exact ⟨rfl, ht⟩
    | 2, _ => exact ⟨by simp, by show 8 + l.length < 65536; omega⟩
    | 3, _ => exact ⟨rfl, by show 0 < 65536; omega⟩
  have HCell := Lib.hid hcell
  clear hcell
  go_loopw [9, 27] (fun b i wr => ∃ (k : Nat) (Ab : Option Addr) (cb : Nat), k ≤ 4 ∧ i = .int .i64 k ∧ b = .slice Ab (2 * k) cb ∧ Hid (Rd wr wr.heap.size Ab (nb2s (([f, t, 8 + l.length, 0] : List Nat).take k))) ∧ Hid (Ab = none → nb2s (([f, t, 8 + l.length, 0] : List Nat).take k) = [] ∧ cb = 0) ∧ Below wa.heap.size wa wr) (fun _ i _ => 4 - (intOf i).toNat)
  case atStart => exact ⟨0, none, 0, by omega, rfl, rfl, Lib.hid Rd.nil, Lib.hid fun _ => ⟨rfl, rfl⟩, Below.refl _ _⟩
  case round =>
    obtain ⟨k, Ab, cb, hk, rfl, rfl, hR, hN, hB⟩ := hrel
    have hlen : (nb2s (([f, t, 8 + l.length, 0] : List Nat).take k)).length = 2 * k := by rw [nb2s_length, List.length_take]; simp; omega
    by_cases hlt : k < 4
    · have e1 : decide ((k : Int) < 4) = true := by simp; omega
      obtain ⟨hc, hb⟩ := HCell.out k hlt
      have htk := nb2s_take [f, t, 8 + l.length, 0] k hlt
      have hck := (hB.cell (p := ⟨w.heap.size + 1 + 1 + 1, k, none⟩) hxs).trans hc
      generalize ([f, t, 8 + l.length, 0] : List Nat)[k] = m at *
      have wm : IntKind.u64.wrap (m : Int) = m := by rw [IntKind.wrap_u64]; omega
      have CP := put_any Ab _ cb m 2 wr hR.out hN.out (by rw [hlen]; omega) (by omega) (by omega)
      rw [hlen] at CP
      have HCP := Lib.hid CP
      have HTK := Lib.hid htk
      clear CP htk hc hlen
      go_wp2_with fail
      refine HCP.out.mono ?_
      rintro e w2 ⟨g, cur, rfl, hg, hgb, hgs, hgt, b2⟩
      have hw2 : wid 2 = 2 := rfl
      rw [hw2] at hgs hgt ⊢
      have B2 := hB.trans (b2.mono hB.size)
      rw [← HTK.out] at hgt
      have hR2 := Lib.hid (Rd.of_take hgb hgt (bk_lt hgb))
      clear hgb hgs hgt b2 HCP
      go_wp2_with fail
      go_roundw
      case rel => exact ⟨k + 1, _, _, by omega, by go_num, rfl, hR2, (Lib.hid fun h => by cases h), B2⟩
      case measure => simp [intOf]; omega
    · have e1 : decide ((k : Int) < 4) = false := by simp; omega
      obtain rfl : k = 4 := by omega
      have hhd : nb2s (([f, t, 8 + l.length, 0] : List Nat).take 4) = dhead f t (8 + l.length) 0 := rfl
      rw [hhd] at hR hN hlen
      have F1 := Lib.hid (A4.out.trans (hB.mono A4.out.size))
      have k2 := bk_keep hB (by omega) K2.out
      have c2 := (bk_cell k2 2).trans dgc_data
      have J0 := Lib.hid (bk_keep hB (by omega) K0.out); have J1 := Lib.hid (bk_keep hB (by omega) K1.out)
      have HLEN := Lib.hid hlen
      obtain ⟨hd, hhd'⟩ : ∃ hd, hd = dhead f t (8 + l.length) 0 := ⟨_, rfl⟩
      rw [← hhd'] at hR hN hlen HLEN
      have HHD := Lib.hid hhd'
      have hs1 := hB.size
      clear hlen hhd hhd' hlt hB k2 HCell
      go_wp2_with fail
      have a6 : Below wr.heap.size wr (wr.alloc (.cells #[.slice Ab 8 cb, .slice A l.length c] 27)) := (Below.refl _ _).alloc (Nat.le_refl _) _
      have f6 := F1.out.trans (a6.mono F1.out.size)
      have hfl : flat [(Ab, hd, cb), (A, l, c)] = hd ++ l := by simp [flat]
      have CC := concat_any wr.heap.size [(Ab, hd, cb), (A, l, c)] 27 (0, 0) (wr.alloc (.cells #[.slice Ab 8 cb, .slice A l.length c] 27)) (by rw [bk_alloc_at _ _ _ rfl]; simp [Src.v, HLEN.out]) (fun q hq => by
        simp only [List.mem_cons, List.not_mem_nil, or_false] at hq
        rcases hq with rfl | rfl
        · exact ⟨(hR.out.below a6 (Nat.le_refl _)).mono a6.size, hN.out⟩
        · exact ⟨(H.out.below f6 (Nat.le_refl _)).mono f6.size, HA.out⟩) (by rw [hfl, List.length_append, HLEN.out]; omega) (by simp)
      rw [hfl] at CC
      refine CC.mono ?_
      clear CC
      rintro e w7 ⟨v7, rfl, ho7, b7⟩
      have f7 := f6.trans (b7.mono f6.size)
      have L0 := Lib.hid (bk_keep (a6.trans (b7.mono a6.size)) (by omega) J0.out); have L1 := Lib.hid (bk_keep (a6.trans (b7.mono a6.size)) (by omega) J1.out)
      obtain ⟨L, hL⟩ : ∃ L, L = hd ++ l := ⟨_, rfl⟩
      rw [← hL] at ho7
      have HL := Lib.hid hL
      have HLL := Lib.hid (show L.length = 8 + l.length by rw [hL, List.length_append, HLEN.out])
      have ho7' := World.ownsRow.mono ho7 (show w.heap.size ≤ _ from f6.size)
      obtain ⟨A7, c7, rfl, hR7, _, _⟩ := Rd.of_own ho7 rfl
      have HO7 := Lib.hid ho7'; have HR7 := Lib.hid hR7; have F7 := Lib.hid f7
      clear hL ho7 ho7' hR7 f7 b7 f6 a6 J0 J1 hR hN F1 c2 hfl
      have m0 := L0.out; have m1 := L1.out
      go_wp2_with fail
      refine (over_any src dst 17 A7 L c7 w7 h1 h2 HR7.out (by rw [HLL.out]; omega)).mono ?_
      rintro e w8 ⟨rfl, b8⟩
      have F8 := Lib.hid (F7.out.trans (b8.mono F7.out.size))
      have HO8 := own_below HO7.out b8
      obtain ⟨g, cur, rfl, hgb, hgs, hgl⟩ := own_some HO8 (by rw [HLL.out]; omega)
      have u6 := bk_cell hgb 6
      have u7 := bk_cell hgb 7
      rw [Array.getElem?_eq_getElem (by have := HLL.out; omega)] at u6 u7
      have z6 := bk_frozen hgb 6
      have z7 := bk_frozen hgb 7
      generalize cur[6]'(by have := HLL.out; omega) = cu6 at u6
      generalize cur[7]'(by have := HLL.out; omega) = cu7 at u7
      have HO := Lib.hid HO8
      have hS := sumOf_le (ovr src dst 17 L)
      have HGL := Lib.hid hgl
      have i6 : 6 < L.length := by rw [HLL.out]; omega
      have i7 : 7 < L.length := by rw [HLL.out]; omega
      generalize hSe : sumOf (ovr src dst 17 L) = S at *
      have HSe := Lib.hid hSe
      clear HO8 hgb hgs hSe b8 HO7 HR7 m0 m1
      by_cases h0 : S = 0
      · subst h0
        have hcs : dsum src dst f t l = 65535 := by unfold dsum; rw [← HHD.out, ← HL.out, HSe.out]; rfl
        go_wp2_with fail
        refine bodyPost_ret (results_tmp2 rfl _ _ _) rfl ?_
        refine ⟨_, rfl, put_end HO.out (by rw [HL.out, HHD.out]) (by rw [hcs]; rfl) (by rw [hcs]; rfl), (F8.out.setCell (p := ⟨g, 6, none⟩) hgl _).setCell (p := ⟨g, 7, none⟩) hgl _⟩
      · have e2 : ((S : Int) == 0) = false := by simp; omega
        have e3 : decide ((S : Int) = 0) = false := by simp; omega
        have hcs : dsum src dst f t l = S := by unfold dsum; rw [← HHD.out, ← HL.out, HSe.out]; simp [h0]
        go_wp2_with fail
        refine bodyPost_ret (results_tmp2 rfl _ _ _) rfl ?_
        refine ⟨_, rfl, put_end HO.out (by rw [HL.out, HHD.out]) (by rw [hcs]; rw [B_ofNat']; congr 1; omega) (by rw [hcs]; rw [B_ofNat']), (F8.out.setCell (p := ⟨g, 6, none⟩) hgl _).setCell (p := ⟨g, 7, none⟩) hgl _⟩
end Go.Proofs.Yteeiihfbnkgcaaa

/- Datagrams put: the document's. -/
import Derived.Test.YteeiihfbnkgcaaaD1
namespace Go.Proofs.Yteeiihfbnkgcaaa
open Go.RowKit
set_option maxRecDepth 100000
theorem rdput_long (src dst : List UInt8) (f t : Nat) (A : Option Addr) (n c : Nat) (w : World) (_h1 : src.length = 16) (_h2 : dst.length = 16) (hl : 65527 < n) (h63 : n < 2 ^ 62) :
    Calls Try.prog 10 #[av src, av dst, .agg (dgc f t A n c)] w fun e w' => e = .returned (.tuple #[.slice none 0 0, .int .i64 3]) ∧ Below w.heap.size w w' := by
  have w8 : IntKind.i64.wrap (8 + (n : Int)) = 8 + (n : Int) := by rw [IntKind.wrap_i64]; omega
  have d1 : decide (65535 < 8 + (n : Int)) = true := by simp; omega
  go_enter Try.func10, Try.ntmps10
  have a0 : Below w.heap.size w (((w.alloc (.cells (src.map B).toArray 23)).alloc (.cells (dst.map B).toArray 23)).alloc (.cells (dgc f t A n c) 29)) := (((Below.refl _ _).alloc (Nat.le_refl _) _).alloc (by simp) _).alloc (by simp; omega) _
  go_wp2_with fail
  refine bodyPost_ret (results_tmp2 rfl _ _ _) rfl ?_
  exact ⟨rfl, a0⟩
set_option maxHeartbeats 1000000 in
theorem rdput_any (src dst : List UInt8) (f t : Nat) (A : Option Addr) (l : List UInt8) (c : Nat) (w : World) (h1 : src.length = 16) (h2 : dst.length = 16) (hf : f < 65536) (ht : t < 65536) (h : Rd w w.heap.size A l) (hA : A = none → l = [] ∧ c = 0) (hl : l.length ≤ 65527) :
    Calls Try.prog 10 #[av src, av dst, .agg (dgc f t A l.length c)] w fun e w' => ∃ v, e = .returned (.tuple #[v, .int .i64 0]) ∧ w'.ownsRow w.heap.size 5 1 v (dgb src dst f t l).length ((dgb src dst f t l).map B) ∧ Below w.heap.size w w' := by
  have H := Lib.hid h; have HA := Lib.hid hA
  clear h hA
  have w8 : IntKind.i64.wrap (8 + (l.length : Int)) = 8 + (l.length : Int) := by rw [IntKind.wrap_i64]; omega
  have d1 : decide (65535 < 8 + (l.length : Int)) = false := by simp; omega
  have tm : (8 + (l.length : Int)).tmod 256 = (8 + (l.length : Int)) % 256 := Int.tmod_eq_emod_of_nonneg (by omega)
  have td : (8 + (l.length : Int)).tdiv 256 = (8 + (l.length : Int)) / 256 := Int.tdiv_eq_ediv_of_nonneg (by omega)
  have har : ((dhead f t (8 + l.length) 0).map B).toArray = #[.int .u8 ((f : Int) / 256), .int .u8 ((f : Int) % 256), .int .u8 ((t : Int) / 256), .int .u8 ((t : Int) % 256), .int .u8 ((8 + (l.length : Int)) / 256), .int .u8 ((8 + (l.length : Int)) % 256), .int .u8 0, .int .u8 0] := by
    simp only [dhead, nb2s, List.map_cons, List.map_nil, List.flatten_cons, List.flatten_nil, nb2', List.append_nil, List.cons_append, List.nil_append, B_ofNat']
    rw [show (((f / 256 : Nat) : Int) % 256) = (f : Int) / 256 by omega, show (((t / 256 : Nat) : Int) % 256) = (t : Int) / 256 by omega, show ((((8 + l.length) / 256 : Nat) : Int) % 256) = (8 + (l.length : Int)) / 256 by omega, show (((8 + l.length : Nat) : Int) % 256) = (8 + (l.length : Int)) % 256 by omega]
    rfl
  have HAR := Lib.hid har
  have hhl : (dhead f t (8 + l.length) 0).length = 8 := by simp [dhead, nb2s_length]
  clear har
  go_enter Try.func10, Try.ntmps10
  have a4 : Below w.heap.size w ((((w.alloc (.cells (src.map B).toArray 23)).alloc (.cells (dst.map B).toArray 23)).alloc (.cells (dgc f t A l.length c) 29)).alloc (.cells #[.int .u8 ((f : Int) / 256), .int .u8 ((f : Int) % 256), .int .u8 ((t : Int) / 256), .int .u8 ((t : Int) % 256), .int .u8 ((8 + (l.length : Int)) / 256), .int .u8 ((8 + (l.length : Int)) % 256), .int .u8 0, .int .u8 0] 5)) := ((((Below.refl _ _).alloc (Nat.le_refl _) _).alloc (by simp) _).alloc (by simp <;> omega) _).alloc (by simp <;> omega) _
  have k0 : bk ((((w.alloc (.cells (src.map B).toArray 23)).alloc (.cells (dst.map B).toArray 23)).alloc (.cells (dgc f t A l.length c) 29)).alloc (.cells #[.int .u8 ((f : Int) / 256), .int .u8 ((f : Int) % 256), .int .u8 ((t : Int) / 256), .int .u8 ((t : Int) % 256), .int .u8 ((8 + (l.length : Int)) / 256), .int .u8 ((8 + (l.length : Int)) % 256), .int .u8 0, .int .u8 0] 5)) w.heap.size = some (.cells (src.map B).toArray 23 (0, 0)) := by rw [bk_alloc_past _ _ _ (by simp <;> omega), bk_alloc_past _ _ _ (by simp <;> omega), bk_alloc_past _ _ _ (by simp)]; exact bk_alloc_at _ _ _ rfl
  have k1 : bk ((((w.alloc (.cells (src.map B).toArray 23)).alloc (.cells (dst.map B).toArray 23)).alloc (.cells (dgc f t A l.length c) 29)).alloc (.cells #[.int .u8 ((f : Int) / 256), .int .u8 ((f : Int) % 256), .int .u8 ((t : Int) / 256), .int .u8 ((t : Int) % 256), .int .u8 ((8 + (l.length : Int)) / 256), .int .u8 ((8 + (l.length : Int)) % 256), .int .u8 0, .int .u8 0] 5)) (w.heap.size + 1) = some (.cells (dst.map B).toArray 23 (0, 0)) := by rw [bk_alloc_past _ _ _ (by simp <;> omega), bk_alloc_past _ _ _ (by simp)]; exact bk_alloc_at _ _ _ (by simp)
  have z0 : (((((w.alloc (.cells (src.map B).toArray 23)).alloc (.cells (dst.map B).toArray 23)).alloc (.cells (dgc f t A l.length c) 29)).alloc (.cells #[.int .u8 ((f : Int) / 256), .int .u8 ((f : Int) % 256), .int .u8 ((t : Int) / 256), .int .u8 ((t : Int) % 256), .int .u8 ((8 + (l.length : Int)) / 256), .int .u8 ((8 + (l.length : Int)) % 256), .int .u8 0, .int .u8 0] 5))).heap.size = w.heap.size + 1 + 1 + 1 + 1 := by simp
  obtain ⟨hd, hhd⟩ : ∃ hd, hd = dhead f t (8 + l.length) 0 := ⟨_, rfl⟩
  have HHD := Lib.hid hhd
  rw [← hhd] at hhl
  have o0 : ((((w.alloc (.cells (src.map B).toArray 23)).alloc (.cells (dst.map B).toArray 23)).alloc (.cells (dgc f t A l.length c) 29)).alloc (.cells #[.int .u8 ((f : Int) / 256), .int .u8 ((f : Int) % 256), .int .u8 ((t : Int) / 256), .int .u8 ((t : Int) % 256), .int .u8 ((8 + (l.length : Int)) / 256), .int .u8 ((8 + (l.length : Int)) % 256), .int .u8 0, .int .u8 0] 5)).ownsRow (w.heap.size + 1 + 1 + 1) 5 1 (.slice (some ⟨w.heap.size + 1 + 1 + 1, 0, none⟩) 8 8) 8 (hd.map B) := by
    refine ⟨by simp [hhl], .inr ⟨w.heap.size + 1 + 1 + 1, 8, #[.int .u8 ((f : Int) / 256), .int .u8 ((f : Int) % 256), .int .u8 ((t : Int) / 256), .int .u8 ((t : Int) % 256), .int .u8 ((8 + (l.length : Int)) / 256), .int .u8 ((8 + (l.length : Int)) % 256), .int .u8 0, .int .u8 0], rfl, Nat.le_refl _, bk_alloc_at _ _ _ (by simp), Nat.le_refl _, by decide, rfl, ?_⟩⟩
    rw [← HAR.out, ← hhd]
    exact List.take_of_length_le (by simp [hhl])
  have A4 := Lib.hid a4; have K0 := Lib.hid k0; have K1 := Lib.hid k1; have Z0 := Lib.hid z0; have O0 := Lib.hid o0
  have HR0 := Lib.hid ((H.out.below a4 (Nat.le_refl _)).mono a4.size)
  have HHL := Lib.hid hhl
  clear a4 k0 k1 z0 o0 hhd hhl
  go_wp2_with (at_builtin; refine append_rd rfl _ _ rfl (w.heap.size + 1 + 1 + 1) (.slice (some ⟨w.heap.size + 1 + 1 + 1, 0, none⟩) 8 8) 8 (hd.map B) rfl O0.out A l c rfl HA.out HR0.out (by omega) (by rw [Z0.out]; omega) ?_)
  intro v5 w5 hown hgrow
  obtain ⟨L, hL⟩ : ∃ L, L = hd ++ l := ⟨_, rfl⟩
  have ho5 : w5.ownsRow (w.heap.size + 1 + 1 + 1) 5 1 v5 L.length (L.map B) := by
    rw [show L = appB hd l from hL, show (appB hd l).length = 8 + l.length by rw [show appB hd l = hd ++ l from rfl, List.length_append, HHL.out]]
    exact hown
  have b5 : Below (w.heap.size + 1 + 1 + 1) ((((w.alloc (.cells (src.map B).toArray 23)).alloc (.cells (dst.map B).toArray 23)).alloc (.cells (dgc f t A l.length c) 29)).alloc (.cells #[.int .u8 ((f : Int) / 256), .int .u8 ((f : Int) % 256), .int .u8 ((t : Int) / 256), .int .u8 ((t : Int) % 256), .int .u8 ((8 + (l.length : Int)) / 256), .int .u8 ((8 + (l.length : Int)) % 256), .int .u8 0, .int .u8 0] 5)) w5 := (Below.refl _ _).grown hgrow (by rw [Z0.out]; omega) (fun k hk => by cases hk; exact Nat.le_refl _)
  have f5 := A4.out.trans (b5.mono (by omega))
  have m0 := bk_keep b5 (by omega) K0.out
  have m1 := bk_keep b5 (by omega) K1.out
  have HL := Lib.hid hL
  have HLL := Lib.hid (show L.length = 8 + l.length by rw [hL, List.length_append, HHL.out])
  have ho5' := World.ownsRow.mono ho5 (show w.heap.size ≤ w.heap.size + 1 + 1 + 1 by omega)
  obtain ⟨A7, c7, rfl, hR7, hN7, _⟩ := Rd.of_own ho5' rfl
  have HO7 := Lib.hid ho5'; have HR7 := Lib.hid hR7; have HN7 := Lib.hid hN7; have F7 := Lib.hid f5
  clear hL ho5 ho5' hR7 hN7 f5 b5 hown hgrow O0 HR0 K0 K1
  go_wp2_with fail
  refine (rover_any src dst 17 A7 L c7 w5 h1 h2 HR7.out HN7.out (by rw [HLL.out]; omega)).mono ?_
  rintro e w8 ⟨rfl, b8⟩
  have F8 := Lib.hid (F7.out.trans (b8.mono F7.out.size))
  have HO8 := own_below HO7.out b8
  obtain ⟨g, cur, rfl, hgb, hgs, hgl⟩ := own_some HO8 (by rw [HLL.out]; omega)
  have u6 := bk_cell hgb 6
  have u7 := bk_cell hgb 7
  rw [Array.getElem?_eq_getElem (by have := HLL.out; omega)] at u6 u7
  have z6 := bk_frozen hgb 6
  have z7 := bk_frozen hgb 7
  generalize cur[6]'(by have := HLL.out; omega) = cu6 at u6
  generalize cur[7]'(by have := HLL.out; omega) = cu7 at u7
  have HO := Lib.hid HO8
  have hS := sumOf_le (ovr src dst 17 L)
  have i6 : 6 < L.length := by rw [HLL.out]; omega
  have i7 : 7 < L.length := by rw [HLL.out]; omega
  generalize hSe : sumOf (ovr src dst 17 L) = S at *
  have HSe := Lib.hid hSe
  clear HO8 hgb hgs hSe b8 HO7 HR7 m0 m1
  by_cases h0 : S = 0
  · subst h0
    have hcs : dsum src dst f t l = 65535 := by unfold dsum; rw [← HHD.out, ← HL.out, HSe.out]; rfl
    go_wp2_with fail
    refine bodyPost_ret (results_tmp2 rfl _ _ _) rfl ?_
    refine ⟨_, rfl, put_end HO.out (by rw [HL.out, HHD.out]) (by rw [hcs]; rfl) (by rw [hcs]; rfl), (F8.out.setCell (p := ⟨g, 6, none⟩) hgl _).setCell (p := ⟨g, 7, none⟩) hgl _⟩
  · have e2 : ((S : Int) == 0) = false := by simp; omega
    have e3 : decide ((S : Int) = 0) = false := by simp; omega
    have hcs : dsum src dst f t l = S := by unfold dsum; rw [← HHD.out, ← HL.out, HSe.out]; simp [h0]
    go_wp2_with fail
    refine bodyPost_ret (results_tmp2 rfl _ _ _) rfl ?_
    refine ⟨_, rfl, put_end HO.out (by rw [HL.out, HHD.out]) (by rw [hcs]; rw [B_ofNat']; congr 1; omega) (by rw [hcs]; rw [B_ofNat']), (F8.out.setCell (p := ⟨g, 6, none⟩) hgl _).setCell (p := ⟨g, 7, none⟩) hgl _⟩
end Go.Proofs.Yteeiihfbnkgcaaa

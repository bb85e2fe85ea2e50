/- Checksums: the document's with the pseudo header; whether one is good. -/
import Derived.Test.YtojddfbbeiobpaaU4
namespace Go.Proofs.Ytojddfbbeiobpaa
open Go.RowKit
set_option maxRecDepth 100000
theorem good_any (src dst : List UInt8) (nx : UInt8) (A : Option Addr) (l : List UInt8) (c : Nat) (w : World) (h1 : src.length = 16) (h2 : dst.length = 16) (h : Rd w w.heap.size A l) (hl : l.length < 2 ^ 32) :
    Calls Try.prog 21 #[av src, av dst, B nx, .slice A l.length c] w fun e w' => e = .returned (.bool (decide (sumOf (ovr src dst nx l) = 0))) ∧ Below w.heap.size w w' := by
  have H := Lib.hid h
  clear h
  have hq : (((sumOf (ovr src dst nx l) : Nat) : Int) == 0) = decide (sumOf (ovr src dst nx l) = 0) := by rw [Bool.eq_iff_iff]; simp
  go_enter Try.func21, Try.ntmps21
  have a0 : Below w.heap.size w ((w.alloc (.cells (src.map B).toArray 23)).alloc (.cells (dst.map B).toArray 23)) := ((Below.refl _ _).alloc (Nat.le_refl _) _).alloc (by simp) _
  go_wp2_with fail
  refine (over_any src dst nx A l c _ h1 h2 ((H.out.below a0 (Nat.le_refl _)).mono a0.size) hl).mono ?_
  rintro e w1 ⟨rfl, b1⟩
  have f1 := a0.trans (b1.mono a0.size)
  generalize hS : sumOf (ovr src dst nx l) = S at hq ⊢
  have HS := Lib.hid hS
  clear a0 b1 hS
  go_wp2_with fail
  go_ret
  exact ⟨by rw [HS.out]; rfl, f1⟩
set_option maxHeartbeats 400000 in
theorem rover_any (src dst : List UInt8) (nx : UInt8) (A : Option Addr) (l : List UInt8) (c : Nat) (w : World) (h1 : src.length = 16) (h2 : dst.length = 16) (h : Rd w w.heap.size A l) (hA : A = none → l = [] ∧ c = 0) (hl : l.length < 2 ^ 32) :
    Calls Try.prog 27 #[av src, av dst, B nx, .slice A l.length c] w fun e w' => e = .returned (.int .u16 (sumOf (ovr src dst nx l) : Nat)) ∧ Below w.heap.size w w' := by
  have H := Lib.hid h; have HA := Lib.hid hA
  have H1 := Lib.hid h1; have H2 := Lib.hid h2
  clear h hA
  go_enter Try.func27, Try.ntmps27
  have a0 : Below w.heap.size w ((w.alloc (.cells (src.map B).toArray 23)).alloc (.cells (dst.map B).toArray 23)) := ((Below.refl _ _).alloc (Nat.le_refl _) _).alloc (by simp) _
  have k0 : bk ((w.alloc (.cells (src.map B).toArray 23)).alloc (.cells (dst.map B).toArray 23)) w.heap.size = some (.cells (src.map B).toArray 23 (0, 0)) := by rw [bk_alloc_past _ _ _ (by simp)]; exact bk_alloc_at _ _ _ rfl
  have k1 : bk ((w.alloc (.cells (src.map B).toArray 23)).alloc (.cells (dst.map B).toArray 23)) (w.heap.size + 1) = some (.cells (dst.map B).toArray 23 (0, 0)) := bk_alloc_at _ _ _ (by simp)
  have z0 : ((w.alloc (.cells (src.map B).toArray 23)).alloc (.cells (dst.map B).toArray 23)).heap.size = w.heap.size + 1 + 1 := by simp
  have A0 := Lib.hid a0; have K0 := Lib.hid k0; have K1 := Lib.hid k1; have Z0 := Lib.hid z0
  clear a0 k0 k1 z0
  have R0 := Lib.hid (Rd.of_all K0.out (bk_lt K0.out))
  have hx : w.heap.size < w.heap.size + 1 + 1 := by omega
  have hy : w.heap.size + 1 < w.heap.size + 1 + 1 := by omega
  go_wp2_with (at_builtin; refine append_rd rfl _ _ rfl (w.heap.size + 1 + 1) (.slice none 0 0) 0 [] rfl (World.ownsRow_nil _ _ _ _) (some ⟨w.heap.size, 0, none⟩) src 16 (by rw [H1.out]; rfl) (fun h => by cases h) R0.out (by rw [H1.out]; omega) (by rw [Z0.out]; exact Nat.le_refl _) ?_)
  intro v1 w1 hown hgrow
  have ho1 : w1.ownsRow (w.heap.size + 1 + 1) 5 1 v1 16 (src.map B) := by
    exact hown
  have b1 : Below (w.heap.size + 1 + 1) ((w.alloc (.cells (src.map B).toArray 23)).alloc (.cells (dst.map B).toArray 23)) w1 := (Below.refl _ _).grown hgrow (by rw [Z0.out]; exact Nat.le_refl _) (fun k hk => by simp [Value.ownBlock] at hk)
  have HO1 := Lib.hid ho1; have B1 := Lib.hid b1
  have s1 := b1.size
  rw [Z0.out] at s1
  have R1 := Lib.hid (Rd.of_all (bk_keep b1 hy K1.out) (by omega : w.heap.size + 1 < w1.heap.size))
  clear hown hgrow ho1 b1
  go_wp2_with (at_builtin; refine append_rd rfl _ _ rfl (w.heap.size + 1 + 1) v1 16 (src.map B) rfl HO1.out (some ⟨w.heap.size + 1, 0, none⟩) dst 16 (by rw [H2.out]; rfl) (fun h => by cases h) R1.out (by rw [H2.out]; omega) s1 ?_)
  intro v2 w2 hown hgrow
  have ho2 : w2.ownsRow (w.heap.size + 1 + 1) 5 1 v2 32 ((src ++ dst).map B) := by
    first | exact hown | (rw [H2.out] at hown; exact hown)
  have b2 : Below (w.heap.size + 1 + 1) ((w.alloc (.cells (src.map B).toArray 23)).alloc (.cells (dst.map B).toArray 23)) w2 := B1.out.grown hgrow s1 (fun k hk => (HO1.out.lt k hk).1)
  have HO2 := Lib.hid ho2; have B2 := Lib.hid b2
  have s2 := b2.size
  rw [Z0.out] at s2
  clear hown hgrow ho2 b2 HO1 R1 R0
  have h8 : (List.map B (nb 4 l.length ++ [0, 0, 0, nx])).toArray = #[.int .u8 ((l.length : Int) / 16777216), .int .u8 ((l.length : Int) / 65536 % 256), .int .u8 ((l.length : Int) / 256 % 256), .int .u8 ((l.length : Int) % 256), .int .u8 0, .int .u8 0, .int .u8 0, B nx] := by
    rw [nb4, List.map_append, List.map_cons, List.map_cons, List.map_cons, List.map_cons, List.map_nil, B_ofNat', B_ofNat', B_ofNat', B_ofNat']
    rw [show (((l.length / 16777216 : Nat) : Int) % 256) = (l.length : Int) / 16777216 by omega]
    simp
  have hl8 : (nb 4 l.length ++ [0, 0, 0, nx]).length = 8 := by simp [nb_length]
  obtain ⟨L8, hL8⟩ : ∃ L8, L8 = nb 4 l.length ++ [0, 0, 0, nx] := ⟨_, rfl⟩
  rw [← hL8] at h8 hl8
  have HE8 := Lib.hid hL8
  clear hL8
  have HL8 := Lib.hid hl8
  have R8 : Hid (Rd (w2.alloc (.cells #[.int .u8 ((l.length : Int) / 16777216), .int .u8 ((l.length : Int) / 65536 % 256), .int .u8 ((l.length : Int) / 256 % 256), .int .u8 ((l.length : Int) % 256), .int .u8 0, .int .u8 0, .int .u8 0, B nx] 5)) (w2.alloc (.cells #[.int .u8 ((l.length : Int) / 16777216), .int .u8 ((l.length : Int) / 65536 % 256), .int .u8 ((l.length : Int) / 256 % 256), .int .u8 ((l.length : Int) % 256), .int .u8 0, .int .u8 0, .int .u8 0, B nx] 5)).heap.size (some ⟨w2.heap.size, 0, none⟩) L8) :=
    Lib.hid (Rd.of_all (by rw [h8]; exact bk_alloc_at _ _ _ rfl) (by simp))
  clear h8 hl8
  go_wp2_with (at_builtin; refine append_rd rfl _ _ rfl (w.heap.size + 1 + 1) v2 32 ((src ++ dst).map B) rfl (HO2.out.alloc _) (some ⟨w2.heap.size, 0, none⟩) L8 8 (by rw [HL8.out]; rfl) (fun h => by cases h) R8.out (by rw [HL8.out]; omega) (by simp; omega) ?_)
  intro v3 w3 hown hgrow
  have ho3 : w3.ownsRow (w.heap.size + 1 + 1) 5 1 v3 40 ((src ++ dst ++ L8).map B) := by
    rw [HL8.out] at hown
    exact hown
  have b3 : Below (w.heap.size + 1 + 1) ((w.alloc (.cells (src.map B).toArray 23)).alloc (.cells (dst.map B).toArray 23)) w3 := (B2.out.alloc s2 _).grown hgrow (by simp; omega) (fun k hk => (HO2.out.lt k hk).1)
  have f3 : Below w.heap.size w w3 := A0.out.trans (b3.mono (by omega))
  have s3 := b3.size
  rw [Z0.out] at s3
  obtain ⟨L40, hL40⟩ : ∃ L40, L40 = src ++ dst ++ L8 := ⟨_, rfl⟩
  rw [← hL40] at ho3
  have HE40 := Lib.hid hL40
  clear hL40
  have HO3 := Lib.hid ho3; have B3 := Lib.hid b3
  have HR3 := Lib.hid ((H.out.below f3 (Nat.le_refl _)).mono f3.size)
  clear hown hgrow ho3 b3 HO2 f3 B2 R8
  go_wp2_with (at_builtin; refine append_rd rfl _ _ rfl (w.heap.size + 1 + 1) v3 40 (L40.map B) rfl HO3.out A l c rfl HA.out HR3.out (by omega) s3 ?_)
  intro v4 w4 hown hgrow
  have ho4 : w4.ownsRow (w.heap.size + 1 + 1) 5 1 v4 (ovr src dst nx l).length ((ovr src dst nx l).map B) := by
    rw [ovr_length _ _ _ _ H1.out H2.out, show ovr src dst nx l = appB L40 l by rw [HE40.out, HE8.out]; simp [ovr, appB, List.append_assoc]]
    exact hown
  have b4 : Below (w.heap.size + 1 + 1) ((w.alloc (.cells (src.map B).toArray 23)).alloc (.cells (dst.map B).toArray 23)) w4 := B3.out.grown hgrow s3 (fun k hk => (HO3.out.lt k hk).1)
  have f4 : Below w.heap.size w w4 := A0.out.trans (b4.mono (by omega))
  obtain ⟨A4, c4, rfl, hR4, _, _⟩ := Rd.of_own ho4 rfl
  have HR4 := Lib.hid hR4; have F4 := Lib.hid f4
  have HOL := Lib.hid (ovr_length src dst nx l H1.out H2.out)
  clear hown hgrow ho4 b4 HO3 HR3 B3 hR4 f4
  go_wp2_with fail
  refine (rof_any A4 (ovr src dst nx l) c4 w4 HR4.out (by rw [HOL.out]; omega)).mono ?_
  rintro e w5 ⟨rfl, rfl⟩
  generalize hS : sumOf (ovr src dst nx l) = S
  have HS := Lib.hid hS
  clear hS
  go_wp2_with fail
  go_ret
  exact ⟨by rw [HS.out]; rfl, F4.out⟩
end Go.Proofs.Ytojddfbbeiobpaa

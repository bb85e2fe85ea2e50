/- Frames put: the program's, the document's. -/
import Derived.Test.YtdmmfffoikelgaaE1
import Derived.Test.YtdmmfffoikelgaaS12
import Derived.Deep.Onto
namespace Go.Proofs.Ytdmmfffoikelgaa
open Go.RowKit
set_option maxRecDepth 100000
/-- A frame's bytes. -/
def frb (d s : List UInt8) (k : Nat) (l : List UInt8) : List UInt8 := d ++ s ++ nb 2 k ++ l
theorem frb_length (d s : List UInt8) (k : Nat) (l : List UInt8) (hd : d.length = 6) (hs : s.length = 6) : (frb d s k l).length = 14 + l.length := by simp [frb, nb_length, hd, hs]; omega
theorem nb2 (k : Nat) : nb 2 k = [UInt8.ofNat (k / 256), UInt8.ofNat k] := by simp [nb, List.range_succ]
theorem B_ofNat (n : Nat) : B (UInt8.ofNat n) = .int .u8 ((n : Int) % 256) := by
  unfold B
  rw [UInt8.toNat_ofNat']
  congr 1
set_option maxHeartbeats 1000000 in
theorem eput_any (d s : List UInt8) (k : Nat) (A : Option Addr) (l : List UInt8) (c : Nat) (w : World) (hd : d.length = 6) (hs : s.length = 6) (hk : k < 65536) (h : Rd w w.heap.size A l) (hA : A = none → l = [] ∧ c = 0) (hl : l.length < 2 ^ 36) :
    Calls Try.prog 10 #[.agg (frc d s k A l.length c)] w fun e w' => ∃ v, e = .returned v ∧ w'.ownsRow w.heap.size 5 1 v (frb d s k l).length ((frb d s k l).map B) ∧ Below w.heap.size w w' := by
  have H := Lib.hid h; have HA := Lib.hid hA
  have HD := Lib.hid hd; have HS := Lib.hid hs
  clear h hA
  go_enter Try.func10, Try.ntmps10
  go_wp2_with fail
  have a0 : Below w.heap.size w (w.alloc (.cells (frc d s k A l.length c) 27)) := (Below.refl _ _).alloc (Nat.le_refl _) _
  have k0 : bk (w.alloc (.cells (frc d s k A l.length c) 27)) w.heap.size = some (.cells (frc d s k A l.length c) 27 (0, 0)) := bk_alloc_at _ _ _ rfl
  have c12 := bk_cell k0 12
  rw [frc_kind hd hs] at c12
  have z0 : (w.alloc (.cells (frc d s k A l.length c) 27)).heap.size = w.heap.size + 1 := by simp
  generalize w.alloc (.cells (frc d s k A l.length c) 27) = wa at *
  obtain ⟨x, hx⟩ : ∃ x, x = w.heap.size := ⟨_, rfl⟩
  rw [← hx] at k0 c12
  rw [← hx]
  have HX := Lib.hid hx
  have K0 := Lib.hid k0
  have hz : wa.heap.size = x + 1 := by rw [z0, hx]
  have Z0 := Lib.hid hz
  have hxl : x < wa.heap.size := by omega
  clear hx k0 z0 hz
  have kp : bk ((wa.alloc (.cells #[.slice (some ⟨x, 0, none⟩) 6 6, .slice (some ⟨x, 6, none⟩) 6 6] 25)).drew) wa.heap.size = some (.cells (List.map Src.v [(some ⟨x, 0, none⟩, d, 6), (some ⟨x, 6, none⟩, s, 6)]).toArray 25 (0, 0)) := by
    rw [bk_drew, bk_alloc_at _ _ _ rfl]; simp [Src.v, hd, hs]
  have kx : bk ((wa.alloc (.cells #[.slice (some ⟨x, 0, none⟩) 6 6, .slice (some ⟨x, 6, none⟩) 6 6] 25)).drew) x = some (.cells (frc d s k A l.length c) 27 (0, 0)) := by
    rw [bk_drew, bk_alloc_past _ _ _ hxl]; exact K0.out
  have fp : Below w.heap.size w ((wa.alloc (.cells #[.slice (some ⟨x, 0, none⟩) 6 6, .slice (some ⟨x, 6, none⟩) 6 6] 25)).drew) := (a0.alloc a0.size _).drew
  have hfl : flat [(some ⟨x, 0, none⟩, d, 6), (some ⟨x, 6, none⟩, s, 6)] = d ++ s := by simp [flat]
  have hxp : x < ((wa.alloc (.cells #[.slice (some ⟨x, 0, none⟩) 6 6, .slice (some ⟨x, 6, none⟩) 6 6] 25)).drew).heap.size := bk_lt kx
  have hsz : wa.heap.size + 1 ≤ ((wa.alloc (.cells #[.slice (some ⟨x, 0, none⟩) 6 6, .slice (some ⟨x, 6, none⟩) 6 6] 25)).drew).heap.size := by simp
  have CC := concat_any wa.heap.size [(some ⟨x, 0, none⟩, d, 6), (some ⟨x, 6, none⟩, s, 6)] _ _ _ kp (fun q hq => by
    simp only [List.mem_cons, List.not_mem_nil, or_false] at hq
    rcases hq with rfl | rfl
    · exact ⟨Rd.of_dst kx hxp, fun h => by cases h⟩
    · exact ⟨Rd.of_src kx hxp hd, fun h => by cases h⟩) (by rw [hfl]; simp [hd, hs]) (by simp)
  rw [hfl] at CC
  have HCC := Lib.hid CC; have KX := Lib.hid kx; have FP := Lib.hid fp
  have hds : (d ++ s).length = 12 := by simp [hd, hs]
  have HDS := Lib.hid hds
  clear CC kp kx fp hfl hds
  have hwk : IntKind.u64.wrap (k : Int) = (k : Int) := by rw [IntKind.wrap_u64]; omega
  go_region_held3 (fun w' => w'.cell? ⟨x, 12, none⟩ = some (.int .u16 k)) (first | assumption | go_keep)
    (first
      | (go_at_call 24; refine HCC.out.mono ?_; rintro e w1 ⟨v1, rfl, ho1, b1⟩; obtain ⟨A1, c1, rfl, hr1, hn1, _⟩ := Rd.of_own (l := d ++ s) ho1 rfl; have hk1 : w1.cell? ⟨x, 12, none⟩ = some (.int .u16 k) := (bk_cell (bk_keep b1 hxp KX.out) 12).trans (frc_kind hd hs); have HR1 := Lib.hid hr1; have HN1 := Lib.hid hn1; have HB1 := Lib.hid b1; rw [HDS.out]; clear hr1 hn1 ho1 b1)
      | (go_at_call 23; have CP := put_any A1 (d ++ s) c1 k 2 w1 HR1.out HN1.out (by rw [HDS.out]; omega) (by omega) (by omega); rw [HDS.out] at CP; refine CP.mono ?_; clear CP; rintro e w2 ⟨g, cur, rfl, hg, hgb, hgs, hgt, b2⟩; have F2 := Lib.hid (FP.out.trans ((HB1.out.trans (b2.mono HB1.out.size)).mono FP.out.size)); have KX2 := Lib.hid (bk_keep b2 (Nat.lt_of_lt_of_le hxp HB1.out.size) (bk_keep HB1.out hxp KX.out)); have HG := Lib.hid (And.intro hgb (And.intro hgs hgt)); have hk2 : w2.cell? ⟨x, 12, none⟩ = some (.int .u16 k) := (bk_cell KX2.out 12).trans (frc_kind hd hs); clear hgb hgs hgt b2))
  obtain ⟨hgb, hgs, hgt⟩ := HG.out
  have hw2 : wid 2 = 2 := rfl
  rw [hw2] at hgs hgt ⊢
  have c13 := (bk_cell KX2.out 13).trans (frc_body hd hs)
  have RG : Rd w2 w2.heap.size (some ⟨g, 0, none⟩) (d ++ s ++ nb 2 k) := Rd.of_take hgb hgt (bk_lt hgb)
  have RA : Rd w2 w2.heap.size A l := (H.out.below F2.out (Nat.le_refl _)).mono F2.out.size
  have HRG := Lib.hid RG; have HRA := Lib.hid RA
  clear HG hgb hgs hgt hw2 RG RA hk1 hk2 c12 HB1 HR1 HN1 HCC
  go_wp2_with fail
  have a3 : Below w2.heap.size w2 (w2.alloc (.cells #[.slice (some ⟨g, 0, none⟩) (12 + 2) (12 + 2), .slice A l.length c] 25)) := (Below.refl _ _).alloc (Nat.le_refl _) _
  have hgl : (d ++ s ++ nb 2 k).length = 14 := by rw [List.length_append, HDS.out, nb_length]
  have hfl : flat [(some ⟨g, 0, none⟩, d ++ s ++ nb 2 k, 14), (A, l, c)] = frb d s k l := by simp [flat, frb]
  have CC := concat_any w2.heap.size [(some ⟨g, 0, none⟩, d ++ s ++ nb 2 k, 14), (A, l, c)] 25 (0, 0) (w2.alloc (.cells #[.slice (some ⟨g, 0, none⟩) 14 14, .slice A l.length c] 25)) (by rw [bk_alloc_at _ _ _ rfl]; simp [Src.v, hgl, hd, hs, nb_length]) (fun q hq => by
    simp only [List.mem_cons, List.not_mem_nil, or_false] at hq
    rcases hq with rfl | rfl
    · exact ⟨(HRG.out.below a3 (Nat.le_refl _)).mono a3.size, fun h => by cases h⟩
    · exact ⟨(HRA.out.below a3 (Nat.le_refl _)).mono a3.size, HA.out⟩) (by rw [hfl, frb_length _ _ _ _ hd hs]; omega) (by simp)
  rw [hfl] at CC
  refine CC.mono ?_
  rintro e w3 ⟨v3, rfl, ho3, b3⟩
  have F3 := F2.out.trans ((a3.trans (b3.mono a3.size)).mono F2.out.size)
  have hw2s : w.heap.size ≤ (w2.alloc (.cells #[.slice (some ⟨g, 0, none⟩) 14 14, .slice A l.length c] 25)).heap.size := Nat.le_trans F2.out.size a3.size
  have HO := Lib.hid (World.ownsRow.mono ho3 hw2s)
  clear ho3 b3 a3 CC hfl hgl
  go_wp2_with fail
  go_ret
  exact ⟨v3, rfl, HO.out, F3⟩
set_option maxHeartbeats 1000000 in
theorem rfput_any (d s : List UInt8) (k : Nat) (A : Option Addr) (l : List UInt8) (c : Nat) (w : World) (hd : d.length = 6) (hs : s.length = 6) (hk : k < 65536) (h : Rd w w.heap.size A l) (hA : A = none → l = [] ∧ c = 0) (hl : l.length < 2 ^ 36) :
    Calls Try.prog 12 #[.agg (frc d s k A l.length c)] w fun e w' => ∃ v, e = .returned v ∧ w'.ownsRow w.heap.size 5 1 v (frb d s k l).length ((frb d s k l).map B) ∧ Below w.heap.size w w' := by
  have H := Lib.hid h; have HA := Lib.hid hA
  have HD := Lib.hid hd; have HS := Lib.hid hs
  clear h hA
  go_enter Try.func12, Try.ntmps12
  have a0 : Below w.heap.size w (w.alloc (.cells (frc d s k A l.length c) 27)) := (Below.refl _ _).alloc (Nat.le_refl _) _
  have k0 : bk (w.alloc (.cells (frc d s k A l.length c) 27)) w.heap.size = some (.cells (frc d s k A l.length c) 27 (0, 0)) := bk_alloc_at _ _ _ rfl
  have z0 : (w.alloc (.cells (frc d s k A l.length c) 27)).heap.size = w.heap.size + 1 := by simp
  have K0 := Lib.hid k0; have Z0 := Lib.hid z0
  have hxl : w.heap.size < (w.alloc (.cells (frc d s k A l.length c) 27)).heap.size := by simp
  have R0 := Lib.hid (Rd.of_dst k0 hxl)
  clear k0 z0
  go_wp2_with (at_builtin; refine append_rd rfl _ _ rfl (w.heap.size + 1) (.slice none 0 0) 0 [] rfl (World.ownsRow_nil _ _ _ _) (some ⟨w.heap.size, 0, none⟩) d 6 (by rw [HD.out]; rfl) (fun h => by cases h) R0.out (by rw [HD.out]; omega) (by rw [Z0.out]; exact Nat.le_refl _) ?_)
  intro v1 w1 hown hgrow
  have ho1 : w1.ownsRow (w.heap.size + 1) 5 1 v1 6 (d.map B) := hown
  have b1 : Below (w.heap.size + 1) (w.alloc (.cells (frc d s k A l.length c) 27)) w1 := (Below.refl _ _).grown hgrow (by simp) (fun k hk => by simp [Value.ownBlock] at hk)
  have k1 := bk_keep b1 (by omega) K0.out
  have f1 : Below w.heap.size w w1 := a0.trans (b1.mono (by omega))
  have s1 : w.heap.size + 1 ≤ w1.heap.size := by have := b1.size; rw [Z0.out] at this; exact this
  have K1 := Lib.hid k1; have HO1 := Lib.hid ho1
  have R1 := Lib.hid (Rd.of_src k1 (by omega : w.heap.size < w1.heap.size) hd)
  clear hown hgrow ho1 k1 b1 K0 R0 a0
  go_wp2_with (at_builtin; refine append_rd rfl _ _ rfl (w.heap.size + 1) v1 6 (d.map B) rfl HO1.out (some ⟨w.heap.size, 6, none⟩) s 6 (by rw [HS.out]; rfl) (fun h => by cases h) R1.out (by rw [HS.out]; omega) s1 ?_)
  intro v2 w2 hown hgrow
  have ho2 : w2.ownsRow (w.heap.size + 1) 5 1 v2 12 ((d ++ s).map B) := hown
  have b2 : Below (w.heap.size + 1) w1 w2 := (Below.refl _ _).grown hgrow s1 (fun k hk => (HO1.out.lt k hk).1)
  have k2 := bk_keep b2 (by omega) K1.out
  have f2 : Below w.heap.size w w2 := f1.trans (b2.mono (by omega))
  have s2 : w.heap.size + 1 ≤ w2.heap.size := Nat.le_trans s1 b2.size
  have c12 := (bk_cell k2 12).trans (frc_kind hd hs)
  have K2 := Lib.hid k2; have HO2 := Lib.hid ho2
  have hnb' : (List.map B (nb 2 k)).toArray = #[.int .u8 ((k : Int) / 256), .int .u8 ((k : Int) % 256)] := by
    rw [nb2, List.map_cons, List.map_cons, List.map_nil, B_ofNat, B_ofNat, show ((k / 256 : Nat) : Int) % 256 = (k : Int) / 256 by omega]
  have HNB := Lib.hid hnb'
  clear hown hgrow ho2 k2 b2 K1 R1 HO1 f1 hnb'
  have R2 : Rd (w2.alloc (.cells #[.int .u8 ((k : Int) / 256), .int .u8 ((k : Int) % 256)] 5)) (w2.heap.size + 1) (some ⟨w2.heap.size, 0, none⟩) (nb 2 k) :=
    Rd.of_bk (L := nb 2 k) (by rw [HNB.out]; exact bk_alloc_at _ _ _ rfl) (by omega) fun j hj => by rw [Nat.zero_add, List.getElem?_eq_getElem hj]
  have R2' := Lib.hid (R2.mono (m := (w2.alloc (.cells #[.int .u8 ((k : Int) / 256), .int .u8 ((k : Int) % 256)] 5)).heap.size) (by simp))
  have hnbl : (nb 2 k).length = 2 := nb_length _ _
  have HNL := Lib.hid hnbl
  clear R2 hnbl
  go_wp2_with (at_builtin; refine append_rd rfl _ _ rfl (w.heap.size + 1) v2 12 ((d ++ s).map B) rfl (HO2.out.alloc _) (some ⟨w2.heap.size, 0, none⟩) (nb 2 k) 2 (by rw [HNL.out]; rfl) (fun h => by cases h) R2'.out (by rw [HNL.out]; omega) (by simp; omega) ?_)
  intro v3 w3 hown hgrow
  have ho3 : w3.ownsRow (w.heap.size + 1) 5 1 v3 14 ((d ++ s ++ nb 2 k).map B) := by
    rw [HNL.out] at hown
    exact hown
  have b3 : Below (w.heap.size + 1) w2 w3 := ((Below.refl _ _).alloc s2 _).grown hgrow (by simp; omega) (fun k hk => (HO2.out.lt k hk).1)
  have k3 := bk_keep b3 (by omega) K2.out
  have f3 : Below w.heap.size w w3 := f2.trans (b3.mono (by omega))
  have s3 : w.heap.size + 1 ≤ w3.heap.size := Nat.le_trans s2 b3.size
  have c13 := (bk_cell k3 13).trans (frc_body hd hs)
  have HO3 := Lib.hid ho3
  have HR3 := Lib.hid ((H.out.below f3 (Nat.le_refl _)).mono f3.size)
  clear hown hgrow ho3 k3 b3 K2 R2' HO2 f2 c12
  go_wp2_with (at_builtin; refine append_rd rfl _ _ rfl (w.heap.size + 1) v3 14 ((d ++ s ++ nb 2 k).map B) rfl HO3.out A l c rfl HA.out HR3.out (by omega) s3 ?_)
  intro v4 w4 hown hgrow
  have ho4 : w4.ownsRow (w.heap.size + 1) 5 1 v4 (frb d s k l).length ((frb d s k l).map B) := by
    rw [frb_length _ _ _ _ hd hs, show frb d s k l = appB (appB d (appB s (nb 2 k))) l by simp [frb, appB]]
    exact hown
  have b4 : Below (w.heap.size + 1) w3 w4 := (Below.refl _ _).grown hgrow s3 (fun k hk => (HO3.out.lt k hk).1)
  have f4 : Below w.heap.size w w4 := f3.trans (b4.mono (by omega))
  have HO4 := Lib.hid (World.ownsRow.mono ho4 (by omega : w.heap.size ≤ w.heap.size + 1))
  clear hown hgrow ho4 b4 HO3 HR3 f3
  go_wp2_with fail
  go_ret
  exact ⟨v4, rfl, HO4.out, f4⟩
end Go.Proofs.Ytdmmfffoikelgaa

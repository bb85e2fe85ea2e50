/- InfosAgain, walked. -/
import Derived.Test.YtfldoihindbdmaaF15
namespace Go.Proofs.Ytfldoihindbdmaa
open Go.RowKit
set_option maxRecDepth 100000
set_option maxHeartbeats 2000000
@[go_sem] theorem builtMac9 : Try.prog.built 28 [(0, .int .u8 9)] = some #[.int .u8 9, .int .u8 0, .int .u8 0, .int .u8 0, .int .u8 0, .int .u8 0] := by kernel_rfl
theorem u8pair (E : Nat) (h : E ≤ 65535) : (UInt8.ofNat (E / 256)).toNat * 256 + (UInt8.ofNat E).toNat = E := by rw [UInt8.toNat_ofNat', UInt8.toNat_ofNat']; omega
theorem u8three (d : Nat) (h : d < 16777216) : (UInt8.ofNat (d / 65536)).toNat * 65536 + (UInt8.ofNat (d / 256)).toNat * 256 + (UInt8.ofNat d).toNat = d := by rw [UInt8.toNat_ofNat', UInt8.toNat_ofNat', UInt8.toNat_ofNat']; omega
theorem w64 (n : Nat) (h : n < 4611686018427387904) : wrap64 (n : Int) = (n : Int) := by unfold wrap64; omega
theorem pair64 (a b : UInt8) (E : Nat) (h : a.toNat * 256 + b.toNat = E) : ∃ z : Nat, wrap64 (a.toNat : Int) = (a.toNat : Int) ∧ wrap64 ((a.toNat : Int) * 256) = (z : Int) ∧ wrap64 (b.toNat : Int) = (b.toNat : Int) ∧ wrap64 ((z : Int) + (b.toNat : Int)) = (E : Int) := by
  have ha := a.toNat_lt; have hb := b.toNat_lt
  refine ⟨a.toNat * 256, w64 _ (by omega), w64 (a.toNat * 256) (by omega), w64 _ (by omega), ?_⟩
  rw [← h]
  exact w64 (a.toNat * 256 + b.toNat) (by omega)
theorem three64 (a b c : UInt8) (E : Nat) (h : a.toNat * 65536 + b.toNat * 256 + c.toNat = E) : ∃ z1 z2 z12 : Nat, wrap64 (a.toNat : Int) = (a.toNat : Int) ∧ wrap64 ((a.toNat : Int) * 65536) = (z1 : Int) ∧ wrap64 (b.toNat : Int) = (b.toNat : Int) ∧ wrap64 ((b.toNat : Int) * 256) = (z2 : Int) ∧ wrap64 ((z1 : Int) + (z2 : Int)) = (z12 : Int) ∧ wrap64 (c.toNat : Int) = (c.toNat : Int) ∧ wrap64 ((z12 : Int) + (c.toNat : Int)) = (E : Int) := by
  have ha := a.toNat_lt; have hb := b.toNat_lt; have hc := c.toNat_lt
  refine ⟨a.toNat * 65536, b.toNat * 256, a.toNat * 65536 + b.toNat * 256, w64 _ (by omega), w64 (a.toNat * 65536) (by omega), w64 _ (by omega), w64 (b.toNat * 256) (by omega), w64 (a.toNat * 65536 + b.toNat * 256) (by omega), w64 _ (by omega), ?_⟩
  rw [← h]
  exact w64 (a.toNat * 65536 + b.toNat * 256 + c.toNat) (by omega)
theorem infosAgain_long (A : Option Addr) (n c : Nat) (m : UInt8) (w : World) (hl : 256 < n) (h63 : n < 2 ^ 63) :
    Calls Try.prog 5 #[.slice A n c, B m] w fun e w' => e = .returned (.bool true) ∧ Below w.heap.size w w' := by
  have d1 : decide (256 < (n : Int)) = true := by simp; omega
  have d2 : decide (256 < n) = true := by simp; omega
  go_enter Try.func5, Try.ntmps5
  go_wp2_with fail
  refine (lives26_any _).mono ?_
  rintro e w1 ⟨rfl, b1⟩
  go_wp2_with fail
  go_ret
  exact ⟨rfl, b1⟩
theorem infosAgain_walk (A : Option Addr) (ws : List Nat) (c : Nat) (m : UInt8) (w : World) (hr : RU w A ws) (hl : ws.length ≤ 256) :
    Calls Try.prog 5 #[.slice A ws.length c, B m] w fun e w' => e = .returned (.bool true) ∧ Below w.heap.size w w' := by
  have HR := Lib.hid hr
  have d1 : decide (256 < (ws.length : Int)) = false := by simp; omega
  have d2 : decide (256 < ws.length) = false := by simp; omega
  have HL := Lib.hid hl
  obtain ⟨K, hK⟩ : ∃ K, K = m.toNat % 40 := ⟨_, rfl⟩
  have k1 : (m.toNat : Int) % 40 = (K : Int) := by omega
  have k2 : (m.toNat : Int).tmod 40 = (K : Int) := by rw [Int.tmod_eq_emod_of_nonneg (by omega)]; exact k1
  have hK40 : K < 40 := by omega
  have hm256 := m.toNat_lt
  have k3 : wrap64 (m.toNat : Int) = (m.toNat : Int) := by unfold wrap64; omega
  have HNW := Lib.hid (wnew_any w)
  clear hr hl hK
  go_enter Try.func5, Try.ntmps5
  go_wp2_with fail
  refine HNW.out.mono ?_
  rintro e w1 ⟨rfl, hw1, b1⟩
  obtain ⟨gw, hgw⟩ : ∃ g, g = w.heap.size := ⟨_, rfl⟩
  rw [← hgw] at hw1 ⊢
  have HGW := Lib.hid hgw
  have CF := Lib.hid (wfeed_any gw 0 _ [] ws A c w1 hw1 (HR.out.turn (Tn.of b1) (F := fun _ => False) fun _ b o e h => h) (fun h0 b o e q => by
    obtain ⟨b', o', e', hlt, _⟩ := HR.out 0 h0
    rw [e'] at e
    cases e
    omega) (by simpa using HL.out))
  have B1 := Lib.hid b1
  clear hw1 b1 hgw HNW
  go_wp2_with fail
  refine CF.out.mono ?_
  rintro e w2 ⟨⟨nf, rfl⟩, ⟨R2, hw2⟩, t2⟩
  rw [List.nil_append] at hw2
  have B2 := Lib.hid (B1.out.trans (t2.below (n := w.heap.size) (fun k hk => by rw [hk]; exact Nat.le_of_eq HGW.out.symm) B1.out.size))
  have HW2 : Hid (WdB w2 (some ⟨gw, 0, none⟩) ws) := Lib.hid (.inr ⟨gw, R2, 0, rfl, hw2⟩)
  have hgl := bk_lt hw2.box
  clear hw2 t2 CF B1
  have CN : Hid (Calls Try.prog 15 #[.agg #[.int .u8 9, .int .u8 0, .int .u8 0, .int .u8 0, .int .u8 0, .int .u8 0]] w2 fun e w' => ∃ x, e = .returned (.pointer (some ⟨x, 0, none⟩)) ∧ w2.heap.size ≤ x ∧ ClB w' x (newCl 9 0 0 0 0 0) ∧ Below w2.heap.size w2 w') := Lib.hid (inew_any 9 0 0 0 0 0 w2)
  go_wp2_with fail
  refine CN.out.mono ?_
  rintro e w3 ⟨x, rfl, hx, h3, b3⟩
  have HP : Hid (¬ WF (some ⟨gw, 0, none⟩) x) := Lib.hid (fun ⟨o, e⟩ => by cases e; omega)
  have HXF : Hid (∀ k, XF x (some ⟨gw, 0, none⟩) k → w.heap.size ≤ k) := Lib.hid fun k hk => by
    have h1 := B2.out.size
    have h2 := HGW.out
    rcases hk with rfl | ⟨o, e⟩
    · omega
    · cases e; omega
  have B3 := Lib.hid (B2.out.trans (b3.mono B2.out.size))
  have W3 := HW2.out.keep (Tn.of b3) (F := fun _ => False) fun k hk e => e
  have CS : Hid (Calls Try.prog 10 #[.pointer (some ⟨x, 0, none⟩), .int .u64 0, .pointer (some ⟨gw, 0, none⟩)] w3 fun e w' => e = .returned (.bool true) ∧ ClB w' x ((newCl 9 0 0 0 0 0).start 0 ws) ∧ WdB w' (some ⟨gw, 0, none⟩) ws.tail.tail ∧ Tn (XF x (some ⟨gw, 0, none⟩)) w3 w') := Lib.hid (start_any x _ 0 (some ⟨gw, 0, none⟩) ws w3 h3 W3 HP.out (Nat.zero_le _) rfl)
  have hbl := belT_lt (n := 1000) W3.head2 (by decide)
  obtain ⟨c1, hc1⟩ : ∃ c1, c1 = (newCl 9 0 0 0 0 0).start 0 ws := ⟨_, rfl⟩
  have hag : Ag (c1.goes 0) 0 (-1) (-1) := by
    have hn : ((newCl 9 0 0 0 0 0).start 0 ws).next = belT (ws.tail.headD 0) 1000 := by
      show addT (max 0 0) _ = _
      rw [addT_eq (by unfold far; omega)]; omega
    rw [hc1]
    exact ⟨rfl, rfl, Nat.zero_le _, by show Cl.next _ ≤ _; exact Nat.le_trans (Nat.le_of_eq hn) (by omega), Nat.le_refl _, fun _ => ⟨rfl, rfl, rfl⟩, fun h => by omega⟩
  have hnx : c1.next < 1000 := by
    rw [hc1]
    show addT (max 0 0) _ < 1000
    rw [addT_eq (by unfold far; omega)]; omega
  have hka : c1.asks = true := by rw [hc1]; rfl
  have HAG := Lib.hid hag
  rw [← hc1] at CS
  clear h3 b3 W3 CN B2 HW2 hbl hc1 hag hx hgl
  go_wp2_with fail
  refine CS.out.mono ?_
  rintro e w4 ⟨rfl, h4, W4, t4⟩
  have CB : Hid (Calls Try.prog 10 #[.pointer (some ⟨x, 0, none⟩), .int .u64 0, .pointer (some ⟨gw, 0, none⟩)] w4 fun e w' => e = .returned (.bool false) ∧ ClB w' x (c1.goes 0) ∧ Tn (fun k => k = x) w4 w') := Lib.hid (start_busy x c1 0 (some ⟨gw, 0, none⟩) w4 h4 (Nat.zero_le _) hka)
  have W4' := Lib.hid W4
  have B4 := Lib.hid (B3.out.trans (t4.below (n := w.heap.size) HXF.out B3.out.size))
  clear h4 W4 t4 CS B3 hka
  go_wp2_with fail
  refine CB.out.mono ?_
  rintro e w5 ⟨rfl, h5, t5⟩
  have W5 := Lib.hid (W4'.out.keep t5 fun k hk e => HP.out (e ▸ hk))
  have B5 := Lib.hid (B4.out.trans (t5.below (n := w.heap.size) (fun k hk => HXF.out k (.inl hk)) B4.out.size))
  have CX := Lib.hid (next_any x (c1.goes 0) w5 h5)
  have H5 := Lib.hid h5
  obtain ⟨nx, hnx2⟩ : ∃ n, n = (c1.goes 0).due := ⟨_, rfl⟩
  have hnx3 : nx < 1000 := by rw [hnx2, HAG.out.due]; exact hnx
  rw [← hnx2] at CX
  have e1 : decide ((1000 : Int) ≤ (nx : Int)) = false := by simp; omega
  have e2 : decide (1000 ≤ nx) = false := by simp; omega
  clear h5 t5 CB W4' B4 hnx hnx2 hnx3
  go_wp2_with fail
  refine CX.out.mono ?_
  rintro e w6 ⟨rfl, rfl⟩
  clear CX
  go_wp2_with fail
  go_loopw [7, 8, 9, 10, 11, 12, 13, 14] (fun la idv i _ _ _ _ _ wr => ∃ (j : Nat) (c : Cl) (l : List Nat) (last id' : Int), j ≤ K ∧ i = .int .i64 j ∧ la = .int .i64 last ∧ idv = .int .i64 id' ∧ Hid (ClB wr x c) ∧ Hid (WdB wr (some ⟨gw, 0, none⟩) l) ∧ Hid (Ag c j last id') ∧ Hid (Below w.heap.size w wr)) (fun _ _ i _ _ _ _ _ _ => K - (intOf i).toNat)
  case atStart => exact ⟨0, c1.goes 0, ws.tail.tail, -1, -1, Nat.zero_le _, rfl, rfl, rfl, H5, W5, HAG, B5⟩
  case round =>
    clear H5 W5 HAG B5
    obtain ⟨j, cc, l, last, id', hj, rfl, rfl, rfl, H, W, HA, BR⟩ := hrel
    by_cases hjK : j < K
    · have d3 : decide ((j : Int) < (K : Int)) = true := by simp; omega
      have CX := Lib.hid (next_any x cc wr H.out)
      rw [HA.out.due] at CX
      obtain ⟨a, ha⟩ : ∃ a, a = l.headD 0 := ⟨_, rfl⟩
      have ha32 : a < 4294967296 := by rw [ha]; exact W.out.head
      obtain ⟨s1, s2, s3, s4, s5, s6, s7⟩ := HA.out.step (by omega) ha32 l ha.symm
      obtain ⟨at', hat⟩ : ∃ n, n = cc.next := ⟨_, rfl⟩
      have hatf : at' ≤ 1000 + 3960000 * 41 := by have := HA.out.far'; omega
      have CT := Lib.hid (tick_any x cc at' (some ⟨gw, 0, none⟩) l wr H.out W.out HP.out (by unfold far; omega) (.inr (by have h1 := HA.out.tn; have h2 := HA.out.due; omega)) (cc.ask2 a) l.tail [reqB cc.ask1 cc.ask1.tm] (by rw [hat]; exact s1) (by simp))
      rw [← hat] at CX s1 s2 s3 s4
      obtain ⟨c', hc'⟩ : ∃ c', c' = (cc.ask2 a).goes (max at' cc.tm) := ⟨_, rfl⟩
      rw [← hc'] at CT s2 s3 s4
      obtain ⟨E, hE⟩ : ∃ E, E = elN cc.ask1 cc.ask1.tm := ⟨_, rfl⟩
      rw [← hE] at s2 s5 s6
      obtain ⟨di, hdi⟩ : ∃ d, d = cc.id := ⟨_, rfl⟩
      rw [← hdi] at s2 s7
      have hE5 : E ≤ 65535 := by rw [hE]; unfold elN; omega
      have hdi24 : di < 16777216 := by rw [hdi]; exact H.out.i24
      have HRQ : Hid (reqA cc.ask1 cc.ask1.tm = [11, UInt8.ofNat (di / 65536), UInt8.ofNat (di / 256), UInt8.ofNat di, 0, 8, 0, 2, UInt8.ofNat (E / 256), UInt8.ofNat E]) := Lib.hid (by rw [reqA_eq, hE, hdi]; rfl)
      have HS2 := Lib.hid s2
      obtain ⟨nx2, hnx2⟩ : ∃ n, n = c'.next := ⟨_, rfl⟩
      have hdue : c'.due = nx2 := by rw [s2.due, hnx2]
      rw [← hnx2] at s3 s4
      have HDUE := Lib.hid hdue
      have S3 := Lib.hid (And.intro s3 s4)
      have S5 := Lib.hid (And.intro s5 (And.intro s6 s7))
      have HBD := Lib.hid (And.intro hE5 (And.intro hdi24 hatf))
      clear ha ha32 s1 s2 s3 s4 s5 s6 s7 hat hc' hE hdi hE5 hdi24 hnx2 hdue hatf
      go_wp2_with fail
      refine CX.out.mono ?_
      rintro e w7 ⟨rfl, rfl⟩
      go_wp2_with fail
      refine CT.out.mono ?_
      rintro e w8 ⟨A8, rfl, hg8, h8, W8, t8⟩
      obtain ⟨b3, o3, A1, q1, rfl, _, hb3, hc3, hr3, _⟩ := hg8 0 (by simp)
      have hlen : (reqB cc.ask1 cc.ask1.tm).length = 34 := (reqB_len _ _).2.2
      obtain ⟨b1, o1, rfl, hb1, hc1⟩ := hr3 (by show 0 < (reqB cc.ask1 cc.ask1.tm).length; omega)
      have e3 : w8.cell? ⟨b3, o3, none⟩ = some (.slice (some ⟨b1, o1, none⟩) 34 q1) := by rw [← hlen]; exact hc3
      have gt : ∀ i (hi : i < 10), w8.cell? ⟨b1, o1 + i, none⟩ = some (B ([11, UInt8.ofNat (di / 65536), UInt8.ofNat (di / 256), UInt8.ofNat di, 0, 8, 0, 2, UInt8.ofNat (E / 256), UInt8.ofNat E][i]'hi)) := fun i hi => by
        have h0 := hc1 i (by show i < (reqB cc.ask1 cc.ask1.tm).length; omega)
        have h1 := req_get cc.ask1 cc.ask1.tm i hi (by omega)
        simp only [HRQ.out] at h1
        rw [h0]
        exact congrArg (fun z => some (B z)) h1
      have g1 := gt 1 (by decide); have g2 := gt 2 (by decide); have g3 := gt 3 (by decide); have g8 := gt 8 (by decide); have g9 := gt 9 (by decide)
      have H8 := Lib.hid h8
      have W8' := Lib.hid W8
      have B8 := Lib.hid (BR.out.trans (t8.below (n := w.heap.size) HXF.out BR.out.size))
      have CX2 := Lib.hid (next_any x c' w8 h8)
      rw [HDUE.out] at CX2
      have l1 : decide ((nx2 : Int) ≤ (at' : Int)) = false := by have := S3.out; simp; omega
      have l2 : decide (nx2 ≤ at') = false := by have := S3.out; simp; omega
      have l3 : decide ((at' : Int) + 3960000 < (nx2 : Int)) = false := by have := S3.out; simp; omega
      have l4 : decide (at' + 3960000 < nx2) = false := by have := S3.out; simp; omega
      have hat3 := HBD.out.2.2
      clear h8 W8 t8 hg8 hc3 hr3 hc1 gt CT CX H W BR HA
      go_wp2_with fail
      refine CX2.out.mono ?_
      rintro e w9 ⟨rfl, rfl⟩
      go_wp2_with fail
      refine CX2.out.mono ?_
      rintro e w9 ⟨rfl, rfl⟩
      clear CX2
      go_upto_region 18 with fail
      obtain ⟨y1, hy1⟩ : ∃ y, y = UInt8.ofNat (di / 65536) := ⟨_, rfl⟩
      obtain ⟨y2, hy2⟩ : ∃ y, y = UInt8.ofNat (di / 256) := ⟨_, rfl⟩
      obtain ⟨y3, hy3⟩ : ∃ y, y = UInt8.ofNat di := ⟨_, rfl⟩
      obtain ⟨y8, hy8⟩ : ∃ y, y = UInt8.ofNat (E / 256) := ⟨_, rfl⟩
      obtain ⟨y9, hy9⟩ : ∃ y, y = UInt8.ofNat E := ⟨_, rfl⟩
      have pE : y8.toNat * 256 + y9.toNat = E := by rw [hy8, hy9]; exact u8pair E HBD.out.1
      have pD : y1.toNat * 65536 + y2.toNat * 256 + y3.toNat = di := by rw [hy1, hy2, hy3]; exact u8three di HBD.out.2.1
      have G1 : Hid (w8.cell? ⟨b1, o1 + 1, none⟩ = some (.int .u8 (y1.toNat : Int))) := Lib.hid (by rw [hy1]; exact g1)
      have G2 : Hid (w8.cell? ⟨b1, o1 + 2, none⟩ = some (.int .u8 (y2.toNat : Int))) := Lib.hid (by rw [hy2]; exact g2)
      have G3 : Hid (w8.cell? ⟨b1, o1 + 3, none⟩ = some (.int .u8 (y3.toNat : Int))) := Lib.hid (by rw [hy3]; exact g3)
      have G8 : w8.cell? ⟨b1, o1 + 8, none⟩ = some (.int .u8 (y8.toNat : Int)) := by rw [hy8]; exact g8
      have G9 : w8.cell? ⟨b1, o1 + 9, none⟩ = some (.int .u8 (y9.toNat : Int)) := by rw [hy9]; exact g9
      clear g1 g2 g3 g8 g9 hy1 hy2 hy3 hy8 hy9 HRQ
      obtain ⟨z8, P1'⟩ := pair64 y8 y9 E pE
      obtain ⟨z1, z2, z12, P2'⟩ := three64 y1 y2 y3 di pD
      have P1 := Lib.hid P1'
      have P2 := Lib.hid P2'
      clear pE pD P1' P2'
      obtain ⟨p1, p2, p3, p4⟩ := P1.out
      go_region
      rw [P1.out.2.2.2]
      clear p1 p2 p3 p4 P1 G8 G9
      have bd : Below w8.heap.size w8 w8.drew := (by (repeat (first | exact Below.refl _ _ | assumption | refine Below.drew ?_ | refine bdrewN ?_ _ | refine Below.alloc ?_ (by first | omega | (simp <;> omega) | (simp only [World.size_alloc] <;> omega)) _ | refine below_setRow ?_ (by first | omega | (simp <;> omega)) _ | refine Below.setCell ?_ (by first | omega | (simp <;> omega)) _)))
      have H9 := Lib.hid (H8.out.below bd)
      have W9 := Lib.hid (W8'.out.keep (Tn.of bd) (F := fun _ => False) fun k hk e => e)
      have B9 := Lib.hid (B8.out.trans (bd.mono B8.out.size))
      have G1' : w8.drew.cell? ⟨b1, o1 + 1, none⟩ = some (.int .u8 (y1.toNat : Int)) := G1.out
      have G2' : w8.drew.cell? ⟨b1, o1 + 2, none⟩ = some (.int .u8 (y2.toNat : Int)) := G2.out
      have G3' : w8.drew.cell? ⟨b1, o1 + 3, none⟩ = some (.int .u8 (y3.toNat : Int)) := G3.out
      have hb1' : b1 < w8.drew.heap.size := hb1
      clear bd H8 W8' B8 G1 G2 G3 e3 hb3 hb1
      generalize w8.drew = w9 at *
      obtain ⟨p1, p2, p3, p4, p5, p6, p7⟩ := P2.out
      go_upto_region 19 with fail
      go_region
      rw [P2.out.2.2.2.2.2.2]
      clear p1 p2 p3 p4 p5 p6 p7 P2 G1' G2' G3'
      have bd : Below w9.heap.size w9 w9.drew := (by (repeat (first | exact Below.refl _ _ | assumption | refine Below.drew ?_ | refine bdrewN ?_ _ | refine Below.alloc ?_ (by first | omega | (simp <;> omega) | (simp only [World.size_alloc] <;> omega)) _ | refine below_setRow ?_ (by first | omega | (simp <;> omega)) _ | refine Below.setCell ?_ (by first | omega | (simp <;> omega)) _)))
      have H10 := Lib.hid (H9.out.below bd)
      have W10 := Lib.hid (W9.out.keep (Tn.of bd) (F := fun _ => False) fun k hk e => e)
      have B10 := Lib.hid (B9.out.trans (bd.mono B9.out.size))
      clear bd H9 W9 B9 hb1'
      generalize w9.drew = w10 at *
      obtain ⟨q1, q2, q3⟩ := S5.out
      have t1 : decide ((E : Int) < last) = false := by simp; omega
      obtain ⟨j2, hj2⟩ : ∃ y, y = j + 1 := ⟨_, rfl⟩
      have HJ2 := Lib.hid hj2
      rw [← hj2] at HS2
      have HJK := Lib.hid (And.intro hjK hK40)
      clear hj2 q1 k1 k2 k3 hm256 hK40 d1 d2 hat3 l1 l2 l3 l4 hjK d3 e1 e2
      rcases Nat.eq_zero_or_pos j with hj0 | hj0
      · have hE0 := q2 hj0
        have t2 : decide (0 < (j : Int)) = false := by simp; omega
        have t2' : decide (0 < j) = false := by simp; omega
        have t4 : ((j : Int) == 0) = true := by rw [hj0]; rfl
        have t5 : ((E : Int) != 0) = false := by rw [hE0]; rfl
        clear q2 q3 hj0 hE0
        go_wp2_with fail
        have hw : wrap64 ((j : Int) + 1) = (j2 : Int) := by
          have h1 := HJ2.out; have h2 := HJK.out
          rw [h1]
          exact w64 (j + 1) (by omega)
        rw [hw]
        exact ⟨⟨j2, c', l.tail, E, di, by have h1 := HJ2.out; have h2 := HJK.out.1; omega, rfl, rfl, rfl, H10, W10, HS2, B10⟩, by have h1 := HJ2.out; have h2 := HJK.out.1; simp [intOf]; omega⟩
      · have hid := q3 hj0
        subst hid
        have t2 : decide (0 < (j : Int)) = true := by simp; omega
        have t2' : decide (0 < j) = true := by simp; omega
        have t3 : ((di : Int) != (di : Int)) = false := by simp
        have t4 : ((j : Int) == 0) = false := beq_eq_false_iff_ne.2 (by omega)
        clear q2 q3 hj0
        go_wp2_with fail
        have hw : wrap64 ((j : Int) + 1) = (j2 : Int) := by
          have h1 := HJ2.out; have h2 := HJK.out
          rw [h1]
          exact w64 (j + 1) (by omega)
        rw [hw]
        exact ⟨⟨j2, c', l.tail, E, di, by have h1 := HJ2.out; have h2 := HJK.out.1; omega, rfl, rfl, rfl, H10, W10, HS2, B10⟩, by have h1 := HJ2.out; have h2 := HJK.out.1; simp [intOf]; omega⟩
    · obtain rfl : j = K := by omega
      have d3 : decide ((j : Int) < (j : Int)) = false := by simp
      have CB := Lib.hid (busy_any x cc wr H.out)
      rw [HA.out.asks] at CB
      go_wp2_with fail
      refine CB.out.mono ?_
      rintro e w7 ⟨rfl, rfl⟩
      go_wp2_with fail
      refine (lives26_any _).mono ?_
      rintro e w8 ⟨rfl, b8⟩
      go_wp2_with fail
      go_ret
      exact ⟨rfl, BR.out.trans (b8.mono BR.out.size)⟩
end Go.Proofs.Ytfldoihindbdmaa

/- Infos: the law's replies; the chapter's example. -/
import Derived.Test.YtfldoihindbdmaaF11
namespace Go.Proofs.Ytfldoihindbdmaa
open Go.RowKit
set_option maxRecDepth 100000
set_option maxHeartbeats 1000000
theorem own_lit {w : World} (L : List UInt8) (hl : L.length < 2 ^ 40) : (w.alloc (.cells (L.map B).toArray 5 (0, 0))).ownsRow w.heap.size 5 1 (.slice (some ⟨w.heap.size, 0, none⟩) L.length L.length) L.length (L.map B) := by
  refine ⟨by simp, .inr ⟨w.heap.size, _, _, rfl, Nat.le_refl _, heap_alloc_new w _, Nat.le_refl _, ?_, by simp, ?_⟩⟩
  · unfold maxLen; omega
  · exact List.take_of_length_le (by simp)
def repB (id : Nat) (l : List UInt8) : List UInt8 := ([7] ++ nb 3 id) ++ l
theorem nb3 (k : Nat) : nb 3 k = [UInt8.ofNat (k / 65536), UInt8.ofNat (k / 256), UInt8.ofNat k] := by simp [nb, List.range_succ]
theorem repB_len (id : Nat) (l : List UInt8) : (repB id l).length = 4 + l.length := by unfold repB; simp [nb_length]; omega
theorem reply_any (id : Nat) (A : Option Addr) (l : List UInt8) (c : Nat) (w : World) (hid : id < 4294967296) (hr : Rd w w.heap.size A l) (hA : A = none → l = [] ∧ c = 0) (hl : l.length < 2 ^ 20) :
    Calls Try.prog 16 #[.int .u32 (id : Int), .slice A l.length c] w fun e w' => ∃ g c', e = .returned (.slice (some ⟨g, 0, none⟩) (4 + l.length) c') ∧ w'.ownsRow w.heap.size 5 1 (.slice (some ⟨g, 0, none⟩) (4 + l.length) c') (4 + l.length) ((repB id l).map B) ∧ Below w.heap.size w w' := by
  have HR := Lib.hid hr
  have HA := Lib.hid hA
  obtain ⟨x, hx⟩ : ∃ x, x = UInt8.ofNat (id / 65536) := ⟨_, rfl⟩
  obtain ⟨y, hy⟩ : ∃ x, x = UInt8.ofNat (id / 256) := ⟨_, rfl⟩
  obtain ⟨z, hz⟩ : ∃ x, x = UInt8.ofNat id := ⟨_, rfl⟩
  have e1 : (id : Int) / 65536 % 256 = (x.toNat : Int) := by rw [hx, UInt8.toNat_ofNat']; omega
  have e2 : (id : Int) / 256 % 256 = (y.toNat : Int) := by rw [hy, UInt8.toNat_ofNat']; omega
  have e3 : (id : Int) % 256 = (z.toNat : Int) := by rw [hz, UInt8.toNat_ofNat']; omega
  have HE : Hid (repB id l = [7, x, y, z] ++ l) := Lib.hid (by unfold repB; rw [nb3, ← hx, ← hy, ← hz]; rfl)
  clear hr hA hx hy hz
  go_enter Try.func16, Try.ntmps16
  have O1 : Hid ((w.alloc (.cells #[.int .u8 7, .int .u8 (x.toNat : Int), .int .u8 (y.toNat : Int), .int .u8 (z.toNat : Int)] 5)).ownsRow w.heap.size 5 1 (.slice (some ⟨w.heap.size, 0, none⟩) 4 4) 4 ([7, x, y, z].map B)) := Lib.hid (own_lit (w := w) [7, x, y, z] (by simp))
  have b1 : Below w.heap.size w (w.alloc (.cells #[.int .u8 7, .int .u8 (x.toNat : Int), .int .u8 (y.toNat : Int), .int .u8 (z.toNat : Int)] 5)) := (by (repeat (first | exact Below.refl _ _ | assumption | refine Below.drew ?_ | refine bdrewN ?_ _ | refine Below.alloc ?_ (by first | omega | (simp <;> omega) | (simp only [World.size_alloc] <;> omega)) _ | refine below_setRow ?_ (by first | omega | (simp <;> omega)) _ | refine Below.setCell ?_ (by first | omega | (simp <;> omega)) _)))
  have B1 := Lib.hid b1
  have R1 := Lib.hid ((HR.out.below b1 (Nat.le_refl _)).mono b1.size)
  clear b1
  go_wp2_with (at_builtin; refine append_rd rfl _ _ rfl w.heap.size (.slice (some ⟨w.heap.size, 0, none⟩) 4 4) 4 ([7, x, y, z].map B) rfl O1.out A l c rfl HA.out R1.out (by omega) B1.out.size ?_)
  intro v2 w2 ho2 hg2
  have B2 := B1.out.grown hg2 B1.out.size (fun k hk => (O1.out.lt k hk).1)
  replace ho2 : w2.ownsRow w.heap.size 5 1 v2 (4 + l.length) ((repB id l).map B) := by rw [HE.out, List.map_append]; exact ho2
  obtain ⟨g2, c2, rfl⟩ : ∃ g c, v2 = .slice (some ⟨g, 0, none⟩) (4 + l.length) c := by
    rcases ho2.2 with ⟨_, q⟩ | ⟨g, c, _, q, _⟩
    · omega
    · exact ⟨g, c, q⟩
  have FIN := Lib.hid (And.intro ho2 B2)
  clear ho2 hg2 B2
  go_wp2_with fail
  go_ret
  exact ⟨_, _, rfl, FIN.out⟩
/-- The example's client. -/
def exC0 : Cl := newCl 1 2 3 4 5 6
def exC1 : Cl := exC0.start 0 []
def exC2 : Cl := exC1.ask2 0
theorem exRun : Run 0 exC1 [] exC2 [] [reqB exC1.ask1 exC1.ask1.tm] :=
  .ask _ _ _ _ _ (by decide) (by decide) rfl (by decide) (.done _ _ (.inr (by decide)))
theorem ex_next : exC2.due = 900 := by decide
theorem ex_first : (reqB exC1.ask1 exC1.ask1.tm)[0]? = some 11 := by decide
structure RepR (w0 w : World) (g c : Nat) (L : List UInt8) : Prop where
  rd : Rd w w.heap.size (some ⟨g, 0, none⟩) L
  le : L.length ≤ c
  lt : c < 2 ^ 63
  ge : w0.heap.size ≤ g
theorem repR {w0 w : World} {g c n : Nat} {L : List UInt8} (h : w.ownsRow w0.heap.size 5 1 (.slice (some ⟨g, 0, none⟩) n c) n (L.map B)) (hn : n = L.length) : RepR w0 w g c L := by
  subst hn
  obtain ⟨A, c', e, hR, _, hC⟩ := Rd.of_own h rfl
  cases e
  rcases h.2 with ⟨q, _⟩ | ⟨g', cap, cur, q, hg, _, _, hm, _⟩
  · cases q
  · cases q
    exact ⟨hR, hC, by unfold maxLen at hm; omega, hg⟩
def exB : List UInt8 := [0, 2, 0, 0, 0, 32, 0, 4, 0, 0, 16, 0]
def exO : List (Nat × List UInt8) := [(2, []), (32, [0, 0, 16, 0])]
theorem exOpts : Opts exB exO := .cons exB 0 _ (by decide) (by decide) (by decide) (.cons _ 4 _ (by decide) (by decide) (by decide) .nil)
def exC3 : Cl := exC2.goes 0
def exC4 : Cl := exC3.goes 5
def exC5 : Cl := { exC4.goes 5 with asks := false, fresh := true, next := addT (max exC4.tm 5) (secT (frsh (exO.lookup 32))) }
theorem ex_end : exC5.due = 4096005 ∧ exC5.asks = false ∧ frsh (exO.lookup 32) = 4096 ∧ exC3.due = 900 := by decide
theorem lives26_any (w : World) : Calls Try.prog 14 #[] w fun e w' => e = .returned (.bool true) ∧ Below w.heap.size w w' := by
  have CN : Hid (Calls Try.prog 15 #[.agg #[.int .u8 1, .int .u8 2, .int .u8 3, .int .u8 4, .int .u8 5, .int .u8 6]] w fun e w' => ∃ x, e = .returned (.pointer (some ⟨x, 0, none⟩)) ∧ w.heap.size ≤ x ∧ ClB w' x exC0 ∧ Below w.heap.size w w') := Lib.hid (inew_any 1 2 3 4 5 6 w)
  go_enter Try.func14, Try.ntmps14
  go_wp2_with fail
  refine CN.out.mono ?_
  rintro e w1 ⟨x, rfl, hx, h1, b1⟩
  have hp : ¬ WF none x := fun ⟨o, e⟩ => by cases e
  have CS : Hid (Calls Try.prog 10 #[.pointer (some ⟨x, 0, none⟩), .int .u64 0, .pointer none] w1 fun e w' => e = .returned (.bool true) ∧ ClB w' x exC1 ∧ WdB w' none [] ∧ Tn (XF x none) w1 w') := Lib.hid (start_any x exC0 0 none [] w1 h1 (.inl ⟨rfl, rfl⟩) hp (Nat.zero_le _) rfl)
  have hxl := bk_lt h1.box
  have T1 := Lib.hid b1
  clear h1 b1 CN
  go_wp2_with fail
  refine CS.out.mono ?_
  rintro e w2 ⟨rfl, h2, _, t2⟩
  have CT : Hid (Calls Try.prog 11 #[.pointer (some ⟨x, 0, none⟩), .int .u64 0, .pointer none] w2 fun e w' => ∃ A, e = .returned (.slice A 1 1) ∧ Got w' w2.heap.size A [reqB exC1.ask1 exC1.ask1.tm] ∧ ClB w' x exC3 ∧ WdB w' none [] ∧ Tn (XF x none) w2 w') := Lib.hid (tick_any x exC1 0 none [] w2 h2 (.inl ⟨rfl, rfl⟩) hp (Nat.zero_le _) (.inl (by decide)) exC2 [] _ exRun (by decide))
  have hx2 := bk_lt h2.box
  have hw2 : Below w.heap.size w w2 := T1.out.trans (t2.below (fun k hk => by rcases hk with rfl | hk; exact hx; exact absurd hk.choose_spec (by simp)) T1.out.size)
  have B2 := Lib.hid hw2
  clear h2 t2 CS hw2 T1
  go_wp2_with fail
  refine CT.out.mono ?_
  rintro e w3 ⟨A3, rfl, hg3, h3, _, t3⟩
  have B3 := Lib.hid (B2.out.trans (t3.below (n := w.heap.size) (fun k hk => by rcases hk with rfl | hk; exact hx; exact absurd hk.choose_spec (by simp)) B2.out.size))
  have G3 := Lib.hid hg3
  have H3 := Lib.hid h3
  have CX : Hid (Calls Try.prog 12 #[.pointer (some ⟨x, 0, none⟩)] w3 fun e w' => e = .returned (.int .u64 900) ∧ w3 = w') := Lib.hid (next_any x exC3 w3 h3)
  have CR : Hid (Calls Try.prog 16 #[.int .u32 0, .slice none 0 0] w3 fun e w' => ∃ g c', e = .returned (.slice (some ⟨g, 0, none⟩) 4 c') ∧ w'.ownsRow w3.heap.size 5 1 (.slice (some ⟨g, 0, none⟩) 4 c') 4 ((repB 0 []).map B) ∧ Below w3.heap.size w3 w') := Lib.hid (reply_any 0 none [] 0 w3 (by decide) Rd.nil (fun _ => ⟨rfl, rfl⟩) (by decide))
  have hx3 := bk_lt h3.box
  clear hg3 h3 t3 CT B2
  go_wp2_with fail
  refine CX.out.mono ?_
  rintro e w3' ⟨rfl, rfl⟩
  go_wp2_with fail
  refine CR.out.mono ?_
  rintro e w4 ⟨g4, c4, rfl, ho4, b4⟩
  have hr4 := repR ho4 (repB_len 0 []).symm
  have H4 := H3.out.below b4
  have CY : Hid (Calls Try.prog 9 #[.pointer (some ⟨x, 0, none⟩), .int .u64 5, .slice (some ⟨g4, 0, none⟩) 4 c4] w4 fun e w' => e = .returned (.tuple #[.agg (ansC 0), .bool false]) ∧ ClB w' x exC4 ∧ Tn (fun j => j = x) w4 w') := Lib.hid (by
    have C := reply_opts x exC3 5 (some ⟨g4, 0, none⟩) (repB 0 []) [] c4 [] w4 H4 hr4.rd (by decide) hr4.le (fun bb o e => by cases e; have := hr4.ge; omega) rfl rfl .nil (by decide) hr4.lt rfl rfl rfl
    exact C.mono fun e w' q => by rw [if_pos (show List.lookup 2 ([] : List (Nat × List UInt8)) = none from rfl)] at q; exact q)
  have G4 := Lib.hid (G3.out.below b4)
  have B4 := Lib.hid (B3.out.trans (b4.mono B3.out.size))
  clear CR CX G3 H3 B3 ho4 b4 hr4 H4
  go_wp2_with fail
  refine CY.out.mono ?_
  rintro e w5 ⟨rfl, h5, t5⟩
  have os1 := ansC_ones 0
  have os2 := ansC_size 0
  have b6 : Below w5.heap.size w5 (w5.alloc (.cells (ansC 0) 36 (0, 0))) := (by (repeat (first | exact Below.refl _ _ | assumption | refine Below.drew ?_ | refine bdrewN ?_ _ | refine Below.alloc ?_ (by first | omega | (simp <;> omega) | (simp only [World.size_alloc] <;> omega)) _ | refine below_setRow ?_ (by first | omega | (simp <;> omega)) _ | refine Below.setCell ?_ (by first | omega | (simp <;> omega)) _)))
  have H6 := Lib.hid (h5.below b6)
  have hxw2 : ∀ k, k = x → k < w2.heap.size := fun k e => e ▸ hx2
  have G6 := Lib.hid ((G4.out.turn t5 hxw2).below b6)
  have B5 := B4.out.trans (t5.below (n := w.heap.size) (fun k e => e ▸ hx) B4.out.size)
  have B6 := Lib.hid (B5.trans (b6.mono B5.size))
  have hx5 := bk_lt h5.box
  clear CY G4 B4 h5 t5 b6 B5
  go_upto_region 6 with fail
  change Code.wp _ _ _ _ (w5.alloc (.cells (ansC 0) 36 (0, 0)))
  generalize w5.alloc (.cells (ansC 0) 36 (0, 0)) = w6 at *
  have CR : Hid (Calls Try.prog 16 #[.int .u32 0, .slice (some ⟨w6.heap.size, 0, none⟩) 12 12] (w6.alloc (.cells (exB.map B).toArray 5)) fun e w' => ∃ g c', e = .returned (.slice (some ⟨g, 0, none⟩) 16 c') ∧ w'.ownsRow (w6.alloc (.cells (exB.map B).toArray 5)).heap.size 5 1 (.slice (some ⟨g, 0, none⟩) 16 c') 16 ((repB 0 exB).map B) ∧ Below (w6.alloc (.cells (exB.map B).toArray 5)).heap.size (w6.alloc (.cells (exB.map B).toArray 5)) w') :=
    Lib.hid (reply_any 0 (some ⟨w6.heap.size, 0, none⟩) exB 12 _ (by decide) (Rd.lit w6 exB 5) (fun h => by cases h) (by decide))
  have b7 : Below w6.heap.size w6 (w6.alloc (.cells (exB.map B).toArray 5)) := (by (repeat (first | exact Below.refl _ _ | assumption | refine Below.drew ?_ | refine bdrewN ?_ _ | refine Below.alloc ?_ (by first | omega | (simp <;> omega) | (simp only [World.size_alloc] <;> omega)) _ | refine below_setRow ?_ (by first | omega | (simp <;> omega)) _ | refine Below.setCell ?_ (by first | omega | (simp <;> omega)) _)))
  have B7 := Lib.hid b7
  go_wp2_with fail
  rw [show (#[.int .u8 0, .int .u8 2, .int .u8 0, .int .u8 0, .int .u8 0, .int .u8 32, .int .u8 0, .int .u8 4, .int .u8 0, .int .u8 0, .int .u8 16, .int .u8 0] : Array Value) = (exB.map B).toArray from rfl]
  refine CR.out.mono ?_
  rintro e w8 ⟨g8, c8, rfl, ho8, b8⟩
  have B68 := B7.out.trans (b8.mono B7.out.size)
  have hr8 := repR ho8 (repB_len 0 exB).symm
  have H8 := H6.out.below B68
  have CY : Hid (Calls Try.prog 9 #[.pointer (some ⟨x, 0, none⟩), .int .u64 5, .slice (some ⟨g8, 0, none⟩) 16 c8] w8 fun e w' => e = .returned (.tuple #[.agg (ansC 4096), .bool true]) ∧ ClB w' x exC5 ∧ Tn (fun j => j = x) w8 w') := Lib.hid (by
    have C := reply_opts x exC4 5 (some ⟨g8, 0, none⟩) (repB 0 exB) exB c8 exO w8 H8 hr8.rd (by decide) hr8.le (fun bb o e => by cases e; have h1 := hr8.ge; have h2 := bk_lt H6.out.box; have h3 := b7.size; omega) rfl rfl exOpts (by decide) hr8.lt rfl rfl rfl
    exact C.mono fun e w' q => by rw [if_neg (by decide)] at q; exact q)
  have G8 := Lib.hid (G6.out.below B68)
  have B8 := Lib.hid (B6.out.trans (B68.mono B6.out.size))
  clear CR B7 b7 b8 ho8 hr8 H8 H6 G6 B6 B68
  go_wp2_with fail
  refine CY.out.mono ?_
  rintro e w9 ⟨rfl, h9, t9⟩
  have os3 := ansC_ones 4096
  have os4 := ansC_size 4096
  have b10 : Below w9.heap.size w9 (w9.alloc (.cells (ansC 4096) 36 (0, 0))) := (by (repeat (first | exact Below.refl _ _ | assumption | refine Below.drew ?_ | refine bdrewN ?_ _ | refine Below.alloc ?_ (by first | omega | (simp <;> omega) | (simp only [World.size_alloc] <;> omega)) _ | refine below_setRow ?_ (by first | omega | (simp <;> omega)) _ | refine Below.setCell ?_ (by first | omega | (simp <;> omega)) _)))
  have K10 := Lib.hid (bk_alloc_at w9 (.cells (ansC 4096) 36 (0, 0)) _ rfl)
  have H10 := Lib.hid (h9.below b10)
  have G10 := Lib.hid ((G8.out.turn t9 hxw2).below b10)
  have B9 := B8.out.trans (t9.below (n := w.heap.size) (fun k e => e ▸ hx) B8.out.size)
  have B10 := Lib.hid (B9.trans (b10.mono B9.size))
  clear CY G8 B8 h9 t9 b10 B9
  go_upto_region 7 with fail
  change Code.wp _ _ _ _ (w9.alloc (.cells (ansC 4096) 36 (0, 0)))
  obtain ⟨ra, hra⟩ : ∃ r, r = w9.heap.size := ⟨_, rfl⟩
  rw [← hra] at K10 ⊢
  clear hra
  generalize w9.alloc (.cells (ansC 4096) 36 (0, 0)) = w10 at *
  obtain ⟨b3, o3, A1, c1, rfl, _, hb3, hc3, hr3, _⟩ := G10.out 0 (by decide)
  obtain ⟨b1, o1, rfl, hb1, hc1⟩ := hr3 (by decide)
  have e0 := hc1 0 (by decide)
  have e0' : w10.cell? ⟨b1, o1, none⟩ = some (.int .u8 11) := e0
  have e3 : w10.cell? ⟨b3, o3, none⟩ = some (.slice (some ⟨b1, o1, none⟩) 34 c1) := hc3
  have c2 : w10.cell? ⟨ra, 2, none⟩ = some (.int .u32 4096) := bk_cell K10.out 2
  have la := bk_lt K10.out
  have CB : Hid (Calls Try.prog 13 #[.pointer (some ⟨x, 0, none⟩)] w10 fun e w' => e = .returned (.bool false) ∧ w10 = w') := Lib.hid (busy_any x exC5 w10 H10.out)
  have CX : Hid (Calls Try.prog 12 #[.pointer (some ⟨x, 0, none⟩)] w10 fun e w' => e = .returned (.int .u64 4096005) ∧ w10 = w') := Lib.hid (next_any x exC5 w10 H10.out)
  clear e0 hc1 hc3 K10 H10 G10
  go_wp2_with fail
  refine CB.out.mono ?_
  rintro e w11 ⟨rfl, rfl⟩
  go_wp2_with fail
  refine CX.out.mono ?_
  rintro e w11 ⟨rfl, rfl⟩
  go_wp2_with fail
  go_ret
  exact ⟨rfl, B10.out⟩
end Go.Proofs.Ytfldoihindbdmaa

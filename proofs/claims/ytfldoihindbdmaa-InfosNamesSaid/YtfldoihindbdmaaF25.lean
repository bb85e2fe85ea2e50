/- InfosNames, walked. -/
import Derived.Test.YtfldoihindbdmaaF24
import Derived.Lib.AppendStr
namespace Go.Proofs.Ytfldoihindbdmaa
open Go.RowKit
set_option maxRecDepth 100000
set_option maxHeartbeats 2000000
theorem own_ne {w : World} {n1 n2 s1 s2 m1 m2 : Nat} {e1 e2 : TypeId} {v1 v2 : Value} {x1 x2 : List Value} (h1 : w.ownsRow n1 e1 s1 v1 m1 x1) (h2 : w.ownsRow n2 e2 s2 v2 m2 x2) (he : e1 ≠ e2) (k : Nat) (hk : v1.ownBlock = some k) : v2.ownBlock ≠ some k := fun hk2 => by
  rcases h1.2 with ⟨q, _⟩ | ⟨g, cap, cur, q, _, hb, _⟩
  · rw [q] at hk; cases hk
  · rw [q] at hk; cases hk
    rcases h2.2 with ⟨q2, _⟩ | ⟨g2, cap2, cur2, q2, _, hb2, _⟩
    · rw [q2] at hk2; cases hk2
    · rw [q2] at hk2; cases hk2
      rw [hb] at hb2
      cases hb2
      exact he rfl
/-- The client, the bytes, and what is wanted. -/
structure Nm (w0 w : World) (n0 x : Nat) (C : Cl) (bv wv : Value) (bs : List UInt8) (ws : List (List UInt8)) : Prop where
  cl : ClB w x C
  ob : w.ownsRow n0 5 1 bv bs.length (bs.map B)
  ow : OutT w n0 wv ws
  bl : Below w0.heap.size w0 w
  xn : x < n0
  nw : n0 ≤ w.heap.size
  w0n : w0.heap.size ≤ n0
theorem Nm.below {w0 w w' : World} {n0 x : Nat} {C : Cl} {bv wv : Value} {bs : List UInt8} {ws : List (List UInt8)} (h : Nm w0 w n0 x C bv wv bs ws) (hb : Below w.heap.size w w') : Nm w0 w' n0 x C bv wv bs ws :=
  ⟨h.cl.below hb, own_turnS h.ob fun k hk => hb.block k (h.ob.lt k hk).2, h.ow.below hb, h.bl.trans (hb.mono h.bl.size), h.xn, Nat.le_trans h.nw hb.size, h.w0n⟩
theorem ClB.turn {w w' : World} {x : Nat} {c : Cl} {F : Nat → Prop} (h : ClB w x c) (ht : Tn F w w') (hx : ¬ F x) : ClB w' x c := ⟨ht.keep hx h.box, h.n64, h.t64, h.i24, h.s64, h.w22⟩
theorem Tn.grown {w w' : World} {v : Value} (hg : w.grownBy w' v.ownBlock) : Tn (fun k => v.ownBlock = some k) w w' := ⟨hg.os, hg.tape, hg.output, hg.size, fun k hk hn => hg.block k hk (fun e => hn e.symm)⟩
theorem Nm.bytes {w0 w w' : World} {n0 x : Nat} {C : Cl} {bv wv bv' : Value} {bs bs' : List UInt8} {ws : List (List UInt8)} (h : Nm w0 w n0 x C bv wv bs ws) (ho : w'.ownsRow n0 5 1 bv' bs'.length (bs'.map B)) (hg : w.grownBy w' bv.ownBlock) : Nm w0 w' n0 x C bv' wv bs' ws := by
  have ht := Tn.grown hg
  have hn : ∀ k, bv.ownBlock = some k → n0 ≤ k := fun k hk => (h.ob.lt k hk).1
  exact ⟨h.cl.turn ht fun e => by have := hn _ e; have := h.xn; omega, ho, h.ow.turn ht fun k hk hf => own_ne h.ob h.ow (by decide) k hf hk, h.bl.trans (ht.below (fun k hk => Nat.le_trans h.w0n (hn k hk)) h.bl.size), h.xn, Nat.le_trans h.nw hg.size, h.w0n⟩
theorem Nm.texts {w0 w w' : World} {n0 x : Nat} {C : Cl} {bv wv wv' : Value} {bs : List UInt8} {ws ws' : List (List UInt8)} (h : Nm w0 w n0 x C bv wv bs ws) (ho : OutT w' n0 wv' ws') (hg : w.grownBy w' wv.ownBlock) : Nm w0 w' n0 x C bv wv' bs ws' := by
  have ht := Tn.grown hg
  have hn : ∀ k, wv.ownBlock = some k → n0 ≤ k := fun k hk => (h.ow.lt k hk).1
  exact ⟨h.cl.turn ht fun e => by have := hn _ e; have := h.xn; omega, own_turnS h.ob fun k hk => ht.old k (h.ob.lt k hk).2 (fun hf => own_ne h.ob h.ow (by decide) k hk hf), ho, h.bl.trans (ht.below (fun k hk => Nat.le_trans h.w0n (hn k hk)) h.bl.size), h.xn, Nat.le_trans h.nw hg.size, h.w0n⟩
/-- The client, bytes that are read, strings that are read. -/
structure Nt (w0 w : World) (x : Nat) (C : Cl) (A1 A2 : Option Addr) (b : List UInt8) (ws : List (List UInt8)) : Prop where
  cl : ClB w x C
  rb : Rd w w.heap.size A1 b
  tx : ∀ i (h : i < ws.length), ∃ g o, A2 = some ⟨g, o, none⟩ ∧ g ≠ x ∧ g < w.heap.size ∧ w.cell? ⟨g, o + i, none⟩ = some (St ws[i])
  bx : ∀ bb o, A1 = some ⟨bb, o, none⟩ → 0 < b.length → bb ≠ x
  bl : Below w0.heap.size w0 w
theorem Nt.below {w0 w w' : World} {x : Nat} {C : Cl} {A1 A2 : Option Addr} {b : List UInt8} {ws : List (List UInt8)} (h : Nt w0 w x C A1 A2 b ws) (hb : Below w.heap.size w w') : Nt w0 w' x C A1 A2 b ws :=
  ⟨h.cl.below hb, (h.rb.below hb (Nat.le_refl _)).mono hb.size, fun i hi => by
    obtain ⟨g, o, h1, h2, h3, h4⟩ := h.tx i hi
    exact ⟨g, o, h1, h2, Nat.lt_of_lt_of_le h3 hb.size, (hb.cell (p := ⟨g, o + i, none⟩) h3).trans h4⟩, h.bx, h.bl.trans (hb.mono h.bl.size)⟩
theorem OutT.get {w : World} {n m c : Nat} {A : Option Addr} {ss : List (List UInt8)} (h : OutT w n (.slice A m c) ss) (i : Nat) (hi : i < ss.length) : ∃ g, A = some ⟨g, 0, none⟩ ∧ n ≤ g ∧ g < w.heap.size ∧ w.cell? ⟨g, 0 + i, none⟩ = some (St ss[i]) := by
  rcases h.2 with ⟨_, q⟩ | ⟨g, cap, cur, q, hg, hb, _, _, _, ht⟩
  · omega
  · cases q
    refine ⟨g, rfl, hg, bk_lt hb, ?_⟩
    rw [bk_cell hb, Nat.zero_add]
    have h1 : (cur.toList.take (ss.length * 1))[i]? = some (St ss[i]) := by rw [ht, List.getElem?_map, List.getElem?_eq_getElem hi]; rfl
    rw [List.getElem?_take, if_pos (by omega), Array.getElem?_toList] at h1
    exact h1
theorem Nm.reads {w0 w : World} {n0 x n m c1 c2 : Nat} {C : Cl} {A1 A2 : Option Addr} {bs : List UInt8} {ws : List (List UInt8)} (h : Nm w0 w n0 x C (.slice A1 n c1) (.slice A2 m c2) bs ws) : Nt w0 w x C A1 A2 bs ws := by
  obtain ⟨A, c, e, hr, _, _⟩ := Rd.of_own h.ob rfl
  cases e
  refine ⟨h.cl, hr, fun i hi => ?_, fun bb o e h0 => ?_, h.bl⟩
  · obtain ⟨g, h1, h2, h3, h4⟩ := h.ow.get i hi
    exact ⟨g, 0, h1, by have := h.xn; omega, h3, h4⟩
  · have := (h.ob.lt bb (by rw [e]; rfl)).1
    have := h.xn
    omega
theorem Nt.cut {w0 w : World} {x : Nat} {C : Cl} {A1 A2 : Option Addr} {b : List UInt8} {ws : List (List UInt8)} (h : Nt w0 w x C A1 A2 b ws) (n m : Nat) : Nt w0 w x C A1 A2 (b.take n) (ws.take m) :=
  ⟨h.cl, Rd.take h.rb, fun i hi => by
    rw [List.length_take] at hi
    obtain ⟨g, o, h1, h2, h3, h4⟩ := h.tx i (by omega)
    exact ⟨g, o, h1, h2, h3, by rw [List.getElem_take]; exact h4⟩, fun bb o e h0 => h.bx bb o e (by rw [List.length_take] at h0; omega), h.bl⟩
/-- What is sent. -/
structure NmE (n m : Nat) (b : List UInt8) (v : List (List UInt8)) (A1 : Option Addr) (c1 : Nat) : Prop where
  nb : n = b.length
  mb : m = v.length
  n1 : n ≤ 1360
  m1 : m ≤ 20
  nm : nms b = v
  no : A1 = none → b = [] ∧ c1 = 0
theorem Nt.turn {w0 w w' : World} {x : Nat} {C C' : Cl} {A1 A2 : Option Addr} {b : List UInt8} {ws : List (List UInt8)} (h : Nt w0 w x C A1 A2 b ws) (hx : w0.heap.size ≤ x) (ht : Tn (fun j => j = x) w w') (hc : ClB w' x C') : Nt w0 w' x C' A1 A2 b ws :=
  ⟨hc, fun h0 => by
    obtain ⟨bb, o, e, hl, hr⟩ := h.rb h0
    exact ⟨bb, o, e, Nat.lt_of_lt_of_le hl ht.size, fun j hj => (World.cell?_of_block (a := ⟨bb, o + j, none⟩) (ht.old bb hl (fun e2 => h.bx bb o e h0 e2))).trans (hr j hj)⟩, fun i hi => by
    obtain ⟨g, o, h1, h2, h3, h4⟩ := h.tx i hi
    exact ⟨g, o, h1, h2, Nat.lt_of_lt_of_le h3 ht.size, (World.cell?_of_block (a := ⟨g, o + i, none⟩) (ht.old g h3 (fun e2 => h2 e2))).trans h4⟩, h.bx, h.bl.trans (ht.below (fun k hk => by rw [hk]; exact hx) h.bl.size)⟩
def nmC0 : Cl := newCl 9 0 0 0 0 0
def nmC1 : Cl := nmC0.start 0 []
theorem infosNames_walk (A : Option Addr) (l : List UInt8) (c : Nat) (cut : UInt8) (w : World) (h : Rd w w.heap.size A l) :
    Calls Try.prog 4 #[.slice A l.length c, B cut] w fun e w' => e = .returned (.bool true) ∧ Below w.heap.size w w' := by
  have HR := Lib.hid h
  obtain ⟨L, hL⟩ : ∃ L, L = l.length := ⟨_, rfl⟩
  have HL := Lib.hid hL
  rw [← hL]
  clear h hL
  by_cases hbig : 20 < L
  · have d1 : decide ((20 : Int) < (L : Int)) = true := decide_eq_true (by omega)
    have d1' : decide (20 < L) = true := decide_eq_true hbig
    clear hbig
    go_enter Try.func4, Try.ntmps4
    go_wp2_with fail
    refine (lives26_any _).mono ?_
    rintro e w1 ⟨rfl, b1⟩
    go_wp2_with fail
    go_ret
    exact ⟨rfl, b1⟩
  · have d1 : decide ((20 : Int) < (L : Int)) = false := decide_eq_false (by omega)
    have d1' : decide (20 < L) = false := decide_eq_false hbig
    have HBG := Lib.hid hbig
    have CN : Hid (Calls Try.prog 15 #[.agg #[.int .u8 9, .int .u8 0, .int .u8 0, .int .u8 0, .int .u8 0, .int .u8 0]] w fun e w' => ∃ x, e = .returned (.pointer (some ⟨x, 0, none⟩)) ∧ w.heap.size ≤ x ∧ ClB w' x nmC0 ∧ Below w.heap.size w w') := Lib.hid (inew_any 9 0 0 0 0 0 w)
    clear hbig
    go_enter Try.func4, Try.ntmps4
    go_wp2_with fail
    refine CN.out.mono ?_
    rintro e w1 ⟨x, rfl, hx, h1, b1⟩
    have hp : ¬ WF none x := fun ⟨o, e⟩ => by cases e
    have CS : Hid (Calls Try.prog 10 #[.pointer (some ⟨x, 0, none⟩), .int .u64 0, .pointer none] w1 fun e w' => e = .returned (.bool true) ∧ ClB w' x nmC1 ∧ WdB w' none [] ∧ Tn (XF x none) w1 w') := Lib.hid (start_any x nmC0 0 none [] w1 h1 (.inl ⟨rfl, rfl⟩) hp (Nat.zero_le _) rfl)
    have hxl := bk_lt h1.box
    have HX := Lib.hid hx
    have B1 := Lib.hid b1
    clear h1 b1 CN hp hx
    go_wp2_with fail
    refine CS.out.mono ?_
    rintro e w2 ⟨rfl, h2, _, t2⟩
    have hx2 := bk_lt h2.box
    have hw2 : Below w.heap.size w w2 := B1.out.trans (t2.below (fun k hk => by rcases hk with rfl | hk; exact HX.out; exact absurd hk.choose_spec (by simp)) B1.out.size)
    obtain ⟨n0, hn0⟩ : ∃ n, n = w2.heap.size := ⟨_, rfl⟩
    have HN0 : Hid (Nm w w2 n0 x nmC1 (.slice none 0 0) (.slice none 0 0) [] []) := Lib.hid ⟨h2, World.ownsRow_nil _ _ _ _, OutT.nil, hw2, by rw [hn0]; exact hx2, Nat.le_of_eq hn0, by rw [hn0]; exact hw2.size⟩
    clear h2 t2 CS hw2 B1 hx2 hn0 hxl d1 d1'
    go_wp2_with fail
    go_loopw [6, 7, 8, 9, 10, 11] (fun bv wv i _ _ _ wr => ∃ (k : Nat) (A1 A2 : Option Addr) (c1 c2 : Nat), k ≤ L ∧ i = .int .i64 k ∧ bv = .slice A1 (ents (l.take k)).length c1 ∧ wv = .slice A2 k c2 ∧ Hid (Nm w wr n0 x nmC1 (.slice A1 (ents (l.take k)).length c1) (.slice A2 k c2) (ents (l.take k)) ((l.take k).map wnt))) (fun _ _ i _ _ _ _ => L - (intOf i).toNat)
    case atStart => exact ⟨0, none, none, 0, 0, Nat.zero_le _, rfl, rfl, rfl, HN0⟩
    case round =>
      clear HN0
      obtain ⟨k, A1, A2, c1, c2, hk, rfl, rfl, rfl, HM⟩ := hrel
      by_cases hlt : k < L
      · have d2 : decide ((k : Int) < (L : Int)) = true := decide_eq_true (by omega)
        have d2' : decide (k < L) = true := decide_eq_true hlt
        have hkl : k < l.length := by rw [← HL.out]; exact hlt
        obtain ⟨bb, o, rfl, hbb, hcl⟩ := HR.out (by omega)
        obtain ⟨y, hy⟩ : ∃ y, y = l[k] := ⟨_, rfl⟩
        have u0 := hcl k hkl
        rw [← hy, ← HM.out.bl.cell (p := ⟨bb, o + k, none⟩) hbb] at u0
        have hyl := y.toNat_lt
        obtain ⟨n, hn⟩ : ∃ n, n = nmk y := ⟨_, rfl⟩
        have hn2 : n = y.toNat % 63 + 1 := hn
        have p1 : (y.toNat : Int) % 63 + 1 = (n : Int) := by omega
        have p2 : (y.toNat : Int).tmod 63 + 1 = (n : Int) := by rw [Int.tmod_eq_emod_of_nonneg (by omega)]; omega
        have p3 : IntKind.i64.wrap ((y.toNat : Int) % 63 + 1) = (n : Int) := by rw [IntKind.wrap_i64]; omega
        have p4 : n ≤ 63 := by omega
        have ht : l.take (k + 1) = l.take k ++ [y] := by rw [List.take_succ_eq_append_getElem hkl, hy]
        have HT := Lib.hid (And.intro ht (And.intro hn hbb))
        have hki : (k : Int) < (L : Int) := by omega
        have kb : k < 20 := by have h9 := HBG.out; omega
        clear hkl hcl hn2 hy hn ht
        go_wp2_with fail
        obtain ⟨W0, hW0⟩ : ∃ z, z = wr := ⟨_, rfl⟩
        rw [← hW0] at HM ⊢
        clear hW0 u0
        go_loopw [10, 11] (fun sv jv ws => ∃ j : Nat, j ≤ n ∧ jv = .int .i64 j ∧ sv = .string ⟨(alph j).toArray⟩ ∧ Hid (Below W0.heap.size W0 ws)) (fun _ jv _ => n - (intOf jv).toNat)
        case atStart => exact ⟨0, Nat.zero_le _, rfl, rfl, Lib.hid (Below.refl _ _)⟩
        case round =>
          obtain ⟨j, hj, rfl, rfl, HB⟩ := hrel
          by_cases hjn : j < n
          · have d3 : decide ((j : Int) < (n : Int)) = true := decide_eq_true (by omega)
            have d3' : decide (j < n) = true := decide_eq_true hjn
            obtain ⟨ch, hch⟩ : ∃ x, x = UInt8.ofNat (97 + j % 26) := ⟨_, rfl⟩
            have hchn : ch.toNat = 97 + j % 26 := by rw [hch, UInt8.toNat_ofNat']; omega
            have q1 : (97 : Int) + (j : Int) % 26 = (ch.toNat : Int) := by omega
            have q2 : (97 : Int) + (j : Int).tmod 26 = (ch.toNat : Int) := by rw [Int.tmod_eq_emod_of_nonneg (by omega)]; omega
            have q3 : IntKind.u8.wrap (97 + (j : Int) % 26) = (ch.toNat : Int) := by rw [IntKind.wrap_u8]; omega
            have q4 : IntKind.u8.wrap (ch.toNat : Int) = (ch.toNat : Int) := by rw [IntKind.wrap_u8]; have := ch.toNat_lt; omega
            obtain ⟨S, hS⟩ : ∃ S, S = alph j := ⟨_, rfl⟩
            have hS2 : alph (j + 1) = S ++ [ch] := by rw [alph_succ, ← hch, hS]
            rw [← hS]
            have HS := Lib.hid hS2
            have hSn : ¬ 9223372036854775807 < S.length + 1 := by rw [hS, alph_len]; omega
            have cv : Sem.run Try.prog (convert 22 9 (.slice (some ⟨wr.heap.size, 0, none⟩) 1 1)) (wr.alloc (.cells #[.int .u8 (ch.toNat : Int)] 5)) = .ok (.string ⟨#[ch]⟩) (wr.alloc (.cells #[.int .u8 (ch.toNat : Int)] 5)) := conv_rd (Rd.lit wr [ch] 5) 1 1 rfl (fun h => by cases h)
            clear hch hchn hS hS2
            go_wp2_with fail
            exact ⟨⟨j + 1, by omega, rfl, by rw [HS.out]; simp [← ByteArray.append_eq, ByteArray.append], Lib.hid (HB.out.alloc HB.out.size _)⟩, by simp [intOf]; omega⟩
          · have hje : j = n := by omega
            subst hje
            have d3 : decide ((j : Int) < (j : Int)) = false := decide_eq_false (by omega)
            have d3' : decide (j < j) = false := decide_eq_false (by omega)
            obtain ⟨S, hS⟩ : ∃ S, S = alph j := ⟨_, rfl⟩
            have hSl : S.length = j := by rw [hS, alph_len]
            have HS := Lib.hid hS
            have M1 := Lib.hid (HM.out.below HB.out)
            rw [← hS]
            obtain ⟨bs, hbs⟩ : ∃ b, b = ents (l.take k) := ⟨_, rfl⟩
            obtain ⟨ws, hws⟩ : ∃ b, b = (l.take k).map wnt := ⟨_, rfl⟩
            rw [← hbs, ← hws] at M1
            rw [← hbs]
            have HBW := Lib.hid (And.intro hbs hws)
            clear hbs hws hS HM HB
            go_upto_region 16 with fail
            obtain ⟨z, hz⟩ : ∃ z, z = UInt8.ofNat j := ⟨_, rfl⟩
            have hzn : (j : Int) = (z.toNat : Int) := by rw [hz, UInt8.toNat_ofNat']; omega
            have HZ := Lib.hid (And.intro hz hzn)
            have hbl : bs.length ≤ 1360 := by rw [HBW.out.1]; have h1 := ents_len (l.take k); have h2 := HBG.out; rw [List.length_take] at h1; omega
            have HBL := Lib.hid hbl
            have a1 : Below wr.heap.size wr (wr.alloc (.cells #[.int .u8 (j : Int)] 5)) := (by (repeat (first | exact Below.refl _ _ | assumption | refine Below.drew ?_ | refine bdrewN ?_ _ | refine Below.alloc ?_ (by first | omega | (simp <;> omega) | (simp only [World.size_alloc] <;> omega)) _ | refine below_setRow ?_ (by first | omega | (simp <;> omega)) _ | refine Below.setCell ?_ (by first | omega | (simp <;> omega)) _)))
            have R1 : Hid (Rd (wr.alloc (.cells #[.int .u8 (j : Int)] 5)) (wr.alloc (.cells #[.int .u8 (j : Int)] 5)).heap.size (some ⟨wr.heap.size, 0, none⟩) [z]) := Lib.hid (by rw [hzn]; exact Rd.lit wr [z] 5)
            have M2 := Lib.hid (M1.out.below a1)
            clear hz hzn hbl a1 M1
            go_wp2_with (at_builtin; refine append_rd rfl _ _ rfl n0 (.slice A1 bs.length c1) bs.length (bs.map B) rfl M2.out.ob (some ⟨wr.heap.size, 0, none⟩) [z] 1 rfl (fun h => by cases h) R1.out (by have := HBL.out; simp; omega) M2.out.nw ?_)
            intro v3 w3 ho3 hg3
            obtain ⟨b3, hb3⟩ : ∃ b, b = bs ++ [z] := ⟨_, rfl⟩
            have hl3 : b3.length = bs.length + 1 := by rw [hb3]; simp
            have M3 : Hid (Nm w w3 n0 x nmC1 v3 (.slice A2 k c2) b3 ws) := Lib.hid (M2.out.bytes (by rw [hl3, hb3]; exact ho3) hg3)
            have HB3 := Lib.hid (And.intro hb3 hl3)
            clear ho3 hg3 M2 R1 hb3 hl3
            obtain ⟨i0, hi, hz0, hz1, hz2⟩ := info_parts infoB
            have HI := Lib.hid (And.intro hi (And.intro hz0 (And.intro hz1 hz2)))
            have hsz : (⟨S.toArray⟩ : ByteArray).size = S.length := rfl
            have HSZ := Lib.hid hsz
            clear hi hz0 hz1 hz2 hsz
            go_wp2_with (at_builtin; refine Lib.wpList_append_own_string _ rfl _ _ 22 9 rfl n0 5 i0 Try.underlying22 Try.underlying9 HI.out.1 HI.out.2.1 HI.out.2.2.1 HI.out.2.2.2 v3 b3.length (b3.map B) rfl M3.out.ob ⟨S.toArray⟩ rfl (by have h1 := HBL.out; have h2 := HB3.out.2; have h3 := HSZ.out; unfold maxLen; omega) (by have h1 := HBL.out; have h2 := HB3.out.2; have h3 := HSZ.out; omega) M3.out.nw ?_)
            intro v4 w4 ho4 hg4 _
            obtain ⟨b4, hb4⟩ : ∃ b, b = b3 ++ S := ⟨_, rfl⟩
            have hl4 : b4.length = b3.length + j := by rw [hb4, List.length_append, hSl]
            have M4 : Hid (Nm w w4 n0 x nmC1 v4 (.slice A2 k c2) b4 ws) := Lib.hid (M3.out.bytes (by
              rw [hl4, hb4, List.map_append]
              have e : Lib.strCells ⟨S.toArray⟩ = S.map B := by simp [Lib.strCells]
              rw [← e]
              exact ho4) hg4)
            have HB4 := Lib.hid (And.intro hb4 hl4)
            clear ho4 hg4 M3 hb4 hl4 HI
            have a5 : Below w4.heap.size w4 (w4.alloc (.cells #[.int .u8 2, .int .u8 99, .int .u8 111, .int .u8 0] 5)) := (by (repeat (first | exact Below.refl _ _ | assumption | refine Below.drew ?_ | refine bdrewN ?_ _ | refine Below.alloc ?_ (by first | omega | (simp <;> omega) | (simp only [World.size_alloc] <;> omega)) _ | refine below_setRow ?_ (by first | omega | (simp <;> omega)) _ | refine Below.setCell ?_ (by first | omega | (simp <;> omega)) _)))
            have R5 : Hid (Rd (w4.alloc (.cells #[.int .u8 2, .int .u8 99, .int .u8 111, .int .u8 0] 5)) (w4.alloc (.cells #[.int .u8 2, .int .u8 99, .int .u8 111, .int .u8 0] 5)).heap.size (some ⟨w4.heap.size, 0, none⟩) [2, 99, 111, 0]) := Lib.hid (Rd.lit w4 [2, 99, 111, 0] 5)
            have M5 := Lib.hid (M4.out.below a5)
            clear a5 M4
            go_wp2_with (at_builtin; refine append_rd rfl _ _ rfl n0 v4 b4.length (b4.map B) rfl M5.out.ob (some ⟨w4.heap.size, 0, none⟩) [2, 99, 111, 0] 4 rfl (fun h => by cases h) R5.out (by have h1 := HBL.out; have h2 := HB3.out.2; have h3 := HB4.out.2; simp; omega) M5.out.nw ?_)
            intro v6 w6 ho6 hg6
            obtain ⟨b6, hb6⟩ : ∃ b, b = ents (l.take (k + 1)) := ⟨_, rfl⟩
            have hbe : b6 = b4 ++ [2, 99, 111, 0] := by
              rw [hb6, HT.out.1, ents_snoc, ← HBW.out.1, HB4.out.1, HB3.out.1, HS.out, HZ.out.1, HT.out.2.1]
              unfold ent
              rw [← HT.out.2.1]
              simp
            have hl6 : b6.length = b4.length + 4 := by rw [hbe]; simp
            have M6 : Hid (Nm w w6 n0 x nmC1 v6 (.slice A2 k c2) b6 ws) := Lib.hid (M5.out.bytes (by rw [hl6, hbe, List.map_append]; exact ho6) hg6)
            have HB6 := Lib.hid hb6
            clear ho6 hg6 M5 R5 hb6 hbe hl6
            obtain ⟨A7, c7, rfl, _⟩ := own_slS M6.out.ob
            obtain ⟨U, hU⟩ : ∃ U, U = wnt y := ⟨_, rfl⟩
            have hcat : ({ data := S.toArray } ++ { data := #[46, 99, 111] } : ByteArray) = ⟨U.toArray⟩ := by rw [hU, HS.out]; unfold wnt; rw [← HT.out.2.1]; simp [← ByteArray.append_eq, ByteArray.append]
            have hSn : ¬ 9223372036854775807 < S.length + 3 := by omega
            have HU := Lib.hid hU
            clear hU
            go_upto_region 17 with fail
            have a8 : Below w6.heap.size w6 (w6.alloc (.cells #[.string ⟨U.toArray⟩] 9)) := (by (repeat (first | exact Below.refl _ _ | assumption | refine Below.drew ?_ | refine bdrewN ?_ _ | refine Below.alloc ?_ (by first | omega | (simp <;> omega) | (simp only [World.size_alloc] <;> omega)) _ | refine below_setRow ?_ (by first | omega | (simp <;> omega)) _ | refine Below.setCell ?_ (by first | omega | (simp <;> omega)) _)))
            have M8 := Lib.hid (M6.out.below a8)
            have hwl : ws.length = k := by have h9 := HL.out; rw [HBW.out.2, List.length_map, List.length_take]; omega
            have HWL := Lib.hid hwl
            clear a8 M6 hwl
            go_wp2_with (at_builtin; refine wpList_snocT rfl _ _ rfl n0 (.slice A2 k c2) ws rfl M8.out.ow ⟨w6.heap.size, 0, none⟩ U rfl (bk_cell (bk_alloc_at w6 (.cells #[.string ⟨U.toArray⟩] 9 (0, 0)) _ rfl) 0) M8.out.nw (by have h1 := HWL.out; have h2 := HBG.out; omega) ?_)
            intro A9 c9 w9 ho9 hg9 _
            have M9 := Lib.hid (M8.out.texts ho9 hg9)
            have HWE : Hid ((l.take (k + 1)).map wnt = ws ++ [U]) := Lib.hid (by rw [HT.out.1, List.map_append, ← HBW.out.2, HU.out]; rfl)
            clear ho9 hg9 M8
            go_wp2_with fail
            refine ⟨⟨k + 1, A7, A9, c7, c9, by omega, by simp, by rw [← HB6.out], by rw [HWL.out], ?_⟩, by simp [intOf]; omega⟩
            have h9 := M9.out
            rw [HWL.out, HB6.out, ← HWE.out] at h9
            exact Lib.hid h9
      · have hkL : k = L := by omega
        subst hkL
        have d2 : decide ((k : Int) < (k : Int)) = false := decide_eq_false (by omega)
        have d2' : decide (k < k) = false := decide_eq_false (by omega)
        have ht : l.take k = l := by rw [HL.out, List.take_length]
        rw [ht] at HM ⊢
        obtain ⟨bs, hbs⟩ : ∃ b, b = ents l := ⟨_, rfl⟩
        obtain ⟨ws, hws⟩ : ∃ b, b = l.map wnt := ⟨_, rfl⟩
        rw [← hbs, ← hws] at HM
        rw [← hbs]
        have hwl : ws.length = k := by rw [hws, List.length_map, HL.out]
        have hbl : bs.length ≤ 1360 := by rw [hbs]; have h1 := ents_len l; have h2 := HBG.out; have h3 := HL.out; omega
        have hcu := cut.toNat_lt
        have HBW := Lib.hid (And.intro hbs (And.intro hws (And.intro hwl hbl)))
        have NT := Lib.hid HM.out.reads
        have h1c : bs.length ≤ c1 := by obtain ⟨_, _, e, h9⟩ := own_slS HM.out.ob; cases e; exact h9
        have h2c : k ≤ c2 := by obtain ⟨_, _, e, h9⟩ := own_slS HM.out.ow; cases e; exact h9
        obtain ⟨N, hN⟩ : ∃ N, N = bs.length := ⟨_, rfl⟩
        rw [← hN] at h1c ⊢
        have HN := Lib.hid hN
        have HM0 := HM.out
        clear hbs hws hwl ht HM hk hN
        have hno1 : A1 = none → bs = [] ∧ c1 = 0 := by
          intro e
          rcases HM0.ob.2 with ⟨q, q0⟩ | ⟨g, cap, cur, q, _⟩
          · injection q with _ _ q3
            exact ⟨List.eq_nil_of_length_eq_zero q0, q3⟩
          · rw [e] at q
            cases q
        clear HM0
        by_cases hcut : cut.toNat % 2 = 1
        · have e1 : (cut.toNat : Int) % 2 = 1 := by omega
          have e2 : (cut.toNat : Int).tmod 2 = 1 := by rw [Int.tmod_eq_emod_of_nonneg (by omega)]; omega
          clear hcut
          by_cases hN0 : N = 0
          · have d3 : decide ((0 : Int) < (N : Int)) = false := decide_eq_false (by omega)
            have d3' : decide (0 < N) = false := decide_eq_false (by omega)
            obtain ⟨n, hn⟩ : ∃ n, n = N := ⟨_, rfl⟩
            rw [← hn] at h1c d3 d3' ⊢
            go_upto_region 21 with fail
            have HE : Hid (NmE n k bs ws A1 c1) := Lib.hid ⟨by rw [hn, HN.out], HBW.out.2.2.1.symm, by rw [hn, HN.out]; exact HBW.out.2.2.2, by have := HBG.out; omega, by rw [HBW.out.1, HBW.out.2.1, nms_all], hno1⟩
            obtain ⟨m, hm⟩ : ∃ m, m = k := ⟨_, rfl⟩
            obtain ⟨b, hb⟩ : ∃ b, b = bs := ⟨_, rfl⟩
            obtain ⟨v, hv⟩ : ∃ v, v = ws := ⟨_, rfl⟩
            rw [← hm, ← hb, ← hv] at HE
            rw [← hb, ← hv] at NT
            rw [← hm]
            clear hm hb hv hn HBW HN hno1 h1c h2c hN0 d3 d3' e1 e2 hbl hcu HL HBG d2 d2' hlt
            obtain ⟨z1, hz1⟩ : ∃ z, z = UInt8.ofNat (n / 256) := ⟨_, rfl⟩
            obtain ⟨z2, hz2⟩ : ∃ z, z = UInt8.ofNat n := ⟨_, rfl⟩
            have hn1 := HE.out.n1
            have r1 : (n : Int) / 256 % 256 = (z1.toNat : Int) := by rw [hz1, UInt8.toNat_ofNat']; omega
            have r2 : (n : Int) % 256 = (z2.toNat : Int) := by rw [hz2, UInt8.toNat_ofNat']; omega
            have HZ : Hid ([0, 2, 0, 0, 0, 24, z1, z2] ++ b = nmB b) := Lib.hid (by unfold nmB; rw [← HE.out.nb, ← hz1, ← hz2])
            clear hz1 hz2 hn1
            have O1 : Hid ((wr.alloc (.cells #[.int .u8 0, .int .u8 2, .int .u8 0, .int .u8 0, .int .u8 0, .int .u8 24, .int .u8 (z1.toNat : Int), .int .u8 (z2.toNat : Int)] 5)).ownsRow wr.heap.size 5 1 (.slice (some ⟨wr.heap.size, 0, none⟩) 8 8) 8 ([0, 2, 0, 0, 0, 24, z1, z2].map B)) := Lib.hid (own_lit (w := wr) [0, 2, 0, 0, 0, 24, z1, z2] (by simp))
            have b1 : Below wr.heap.size wr (wr.alloc (.cells #[.int .u8 0, .int .u8 2, .int .u8 0, .int .u8 0, .int .u8 0, .int .u8 24, .int .u8 (z1.toNat : Int), .int .u8 (z2.toNat : Int)] 5)) := (by (repeat (first | exact Below.refl _ _ | assumption | refine Below.drew ?_ | refine bdrewN ?_ _ | refine Below.alloc ?_ (by first | omega | (simp <;> omega) | (simp only [World.size_alloc] <;> omega)) _ | refine below_setRow ?_ (by first | omega | (simp <;> omega)) _ | refine Below.setCell ?_ (by first | omega | (simp <;> omega)) _)))
            have B1 := Lib.hid b1
            have N1 := Lib.hid (NT.out.below b1)
            clear b1
            go_wp2_with (at_builtin; refine append_rd rfl _ _ rfl wr.heap.size (.slice (some ⟨wr.heap.size, 0, none⟩) 8 8) 8 ([0, 2, 0, 0, 0, 24, z1, z2].map B) rfl O1.out A1 b c1 (by show Value.slice A1 n c1 = _; rw [HE.out.nb]) HE.out.no N1.out.rb (by have h1 := HE.out.n1; have h2 := HE.out.nb; omega) B1.out.size ?_)
            intro v2 w3 ho2 hg2
            have B2 := B1.out.grown hg2 B1.out.size (fun k hk => (O1.out.lt k hk).1)
            obtain ⟨q, hq⟩ : ∃ q, q = (nmB b).length := ⟨_, rfl⟩
            have hq2 : q = 8 + b.length := by rw [hq, ← HZ.out, List.length_append]; rfl
            replace ho2 : w3.ownsRow wr.heap.size 5 1 v2 q ((nmB b).map B) := by rw [hq2, ← HZ.out, List.map_append]; exact ho2
            obtain ⟨g2, d2, rfl⟩ : ∃ g c, v2 = .slice (some ⟨g, 0, none⟩) q c := by
              rcases ho2.2 with ⟨_, q⟩ | ⟨g, c, _, q, _⟩
              · omega
              · exact ⟨g, c, q⟩
            have R2 : Rd w3 w3.heap.size (some ⟨g2, 0, none⟩) (nmB b) := by
              obtain ⟨A', c', e', hR, _, _⟩ := Rd.of_own ho2 hq
              cases e'
              exact hR
            have HQ := Lib.hid (And.intro hq hq2)
            have N2 := Lib.hid (NT.out.below B2)
            obtain ⟨p, hp⟩ : ∃ p, p = 4 + q := ⟨_, rfl⟩
            have HP := Lib.hid hp
            have CR : Hid (Calls Try.prog 16 #[.int .u32 0, .slice (some ⟨g2, 0, none⟩) q d2] w3 fun e w' => ∃ g c', e = .returned (.slice (some ⟨g, 0, none⟩) p c') ∧ w'.ownsRow w3.heap.size 5 1 (.slice (some ⟨g, 0, none⟩) p c') p ((repB 0 (nmB b)).map B) ∧ Below w3.heap.size w3 w') := Lib.hid (by
              rw [hp, hq]
              exact reply_any 0 (some ⟨g2, 0, none⟩) (nmB b) d2 w3 (by decide) R2 (fun h => by cases h) (by have h1 := HE.out.n1; have h2 := HE.out.nb; omega))
            clear O1 B1 N1 NT HZ ho2 hg2 B2 hq hq2 R2 hp r1 r2
            go_wp2_with fail
            refine CR.out.mono ?_
            rintro e w4 ⟨g3, c3, rfl, ho3, b3⟩
            have hr3 := repR ho3 (by rw [repB_len, HP.out, HQ.out.1])
            have N3 := Lib.hid (N2.out.below b3)
            have CY : Hid (Calls Try.prog 9 #[.pointer (some ⟨x, 0, none⟩), .int .u64 0, .slice (some ⟨g3, 0, none⟩) p c3] w4 fun e w' => ∃ SA DA k1 k2, e = .returned (.tuple #[.agg (ansG SA DA 0 m 86400), .bool true]) ∧ (∃ C', ClB w' x C') ∧ AnsR w' w4.heap.size SA DA [] v k1 k2 ∧ Tn (fun j => j = x) w4 w') := Lib.hid (by
              have hl : (repB 0 (nmB b)).length = p := by rw [repB_len, HP.out, HQ.out.1]
              have h1 := HE.out.n1
              have h2 := HE.out.nb
              have h3 := HQ.out.2
              have h4 := HP.out
              have Q := reply2_any x nmC1 0 (some ⟨g3, 0, none⟩) (repB 0 (nmB b)) (nmB b) c3 [(2, []), (24, b)] w4 N3.out.cl hr3.rd (by decide) hr3.le (fun bb o e => by cases e; have h1 := hr3.ge; have h2 := bk_lt N2.out.cl.box; omega) rfl rfl (nmOpts b (by omega)) (by omega) hr3.lt
              rw [hl] at Q
              refine Q.mono ?_
              intro e w' hQ
              unfold ReplyR at hQ
              rw [if_neg (by show ¬ true = false; decide)] at hQ
              obtain ⟨SA, DA, k1, k2, e1, e2, e3, e4⟩ := hQ
              have hd : dnm (List.lookup 24 [(2, ([] : List UInt8)), (24, b)]) = v := HE.out.nm
              have hs : srv' (List.lookup 23 [(2, ([] : List UInt8)), (24, b)]) = [] := (by decide : srv' none = [])
              have hf : frsh (List.lookup 32 [(2, ([] : List UInt8)), (24, b)]) = 86400 := rfl
              rw [hd, hs, hf] at e1
              rw [hd, hs] at e3
              rw [HE.out.mb]
              exact ⟨SA, DA, k1, k2, e1, ⟨_, e2⟩, e3, e4⟩)
            clear CR ho3 hr3 N2 b3 HP HQ
            go_wp2_with fail
            refine CY.out.mono ?_
            rintro e w5 ⟨SA, DA, k1, k2, rfl, ⟨C5, hc5⟩, han, t5⟩
            have os1 := ansG_ones SA DA 0 m 86400
            have os2 := ansG_size SA DA 0 m 86400
            have b6 : Below w5.heap.size w5 (w5.alloc (.cells (ansG SA DA 0 m 86400) 36 (0, 0))) := (by (repeat (first | exact Below.refl _ _ | assumption | refine Below.drew ?_ | refine bdrewN ?_ _ | refine Below.alloc ?_ (by first | omega | (simp <;> omega) | (simp only [World.size_alloc] <;> omega)) _ | refine below_setRow ?_ (by first | omega | (simp <;> omega)) _ | refine Below.setCell ?_ (by first | omega | (simp <;> omega)) _)))
            have N5 : Hid (Nt w w5 x C5 A1 A2 b v) := Lib.hid (N3.out.turn HX.out t5 hc5)
            have N6 := Lib.hid (N5.out.below b6)
            have A6 := Lib.hid (han.below b6)
            have K6 := Lib.hid (bk_alloc_at w5 (.cells (ansG SA DA 0 m 86400) 36 (0, 0)) _ rfl)
            clear CY N3 hc5 han t5 b6 N5
            go_upto_region 23 with fail
            change Code.wp _ _ _ _ (w5.alloc (.cells (ansG SA DA 0 m 86400) 36 (0, 0)))
            obtain ⟨ra, hra⟩ : ∃ r, r = w5.heap.size := ⟨_, rfl⟩
            rw [← hra] at K6 ⊢
            clear hra os1 os2
            generalize w5.alloc (.cells (ansG SA DA 0 m 86400) 36 (0, 0)) = w6 at *
            have u0 : w6.cell? ⟨ra, 0, none⟩ = some (.slice SA 0 0) := bk_cell K6.out 0
            have u1 : w6.cell? ⟨ra, 1, none⟩ = some (.slice DA m m) := bk_cell K6.out 1
            have u2 : w6.cell? ⟨ra, 2, none⟩ = some (.int .u32 86400) := bk_cell K6.out 2
            have la := bk_lt K6.out
            clear K6
            go_wp2_with fail
            have N6' := N6.out.bl
            have HRA : Hid (ra < w6.heap.size ∧ w6.cell? ⟨ra, 1, none⟩ = some (.slice DA m m)) := Lib.hid ⟨la, u1⟩
            clear u0 u1 u2 la
            go_loopw [15] (fun iv ws => ∃ j : Nat, j ≤ m ∧ iv = .int .i64 j ∧ Hid (Below w6.heap.size w6 ws)) (fun iv _ => m - (intOf iv).toNat)
            case atStart => exact ⟨0, Nat.zero_le _, rfl, Lib.hid (Below.refl _ _)⟩
            case round =>
              obtain ⟨j, hj, rfl, HB⟩ := hrel
              by_cases hjm : j < m
              · have d4 : decide ((j : Int) < (m : Int)) = true := decide_eq_true (by omega)
                have d4' : decide (j < m) = true := decide_eq_true hjm
                have hjv : j < v.length := by rw [← HE.out.mb]; exact hjm
                obtain ⟨ga, rfl, _, gal, gac⟩ := A6.out.hd.get j hjv
                obtain ⟨gb, ob, rfl, _, gbl, gbc⟩ := N6.out.tx j hjv
                obtain ⟨S, hS⟩ : ∃ S, S = v[j] := ⟨_, rfl⟩
                rw [← hS, ← HB.out.cell (p := ⟨ga, 0 + j, none⟩) gal, Nat.zero_add] at gac
                rw [← hS, ← HB.out.cell (p := ⟨gb, ob + j, none⟩) gbl] at gbc
                have e5 : wr.cell? ⟨ra, 1, none⟩ = some (.slice (some ⟨ga, 0, none⟩) m m) := (HB.out.cell (p := ⟨ra, 1, none⟩) HRA.out.1).trans HRA.out.2
                have l5 : ra < wr.heap.size := Nat.lt_of_lt_of_le HRA.out.1 HB.out.size
                have l6 : ga < wr.heap.size := Nat.lt_of_lt_of_le gal HB.out.size
                have l7 : gb < wr.heap.size := Nat.lt_of_lt_of_le gbl HB.out.size
                have m20 := HE.out.m1
                unfold St at gac gbc
                clear hS hjv gal gbl
                go_upto_region 28 with fail
                go_region
                have b7 : Below wr.heap.size wr wr.drew := (by (repeat (first | exact Below.refl _ _ | assumption | refine Below.drew ?_ | refine bdrewN ?_ _ | refine Below.alloc ?_ (by first | omega | (simp <;> omega) | (simp only [World.size_alloc] <;> omega)) _ | refine below_setRow ?_ (by first | omega | (simp <;> omega)) _ | refine Below.setCell ?_ (by first | omega | (simp <;> omega)) _)))
                have HB7 := Lib.hid (HB.out.trans (b7.mono HB.out.size))
                clear gac gbc e5 l5 l6 l7 b7
                go_wp2_with fail
                exact ⟨⟨j + 1, by omega, rfl, HB7⟩, by simp [intOf]; omega⟩
              · obtain rfl : j = m := by omega
                have d4 : decide ((j : Int) < (j : Int)) = false := by simp
                have d4' : decide (j < j) = false := by simp
                have B7 := Lib.hid (N6.out.bl.trans (HB.out.mono N6.out.bl.size))
                go_wp2_with fail
                refine (lives26_any _).mono ?_
                rintro e w8 ⟨rfl, b8⟩
                go_wp2_with fail
                go_ret
                exact ⟨rfl, B7.out.trans (b8.mono B7.out.size)⟩
          · have d3 : decide ((0 : Int) < (N : Int)) = true := decide_eq_true (by omega)
            have d3' : decide (0 < N) = true := decide_eq_true (by omega)
            have kb : k ≤ 20 := by have h9 := HBG.out; omega
            obtain ⟨K, rfl⟩ : ∃ K, k = K + 1 := ⟨k - 1, by
              have : k ≠ 0 := fun e => hN0 (by rw [HN.out, HBW.out.1, show l = [] from List.eq_nil_of_length_eq_zero (by rw [← HL.out]; exact e)]; rfl)
              omega⟩
            obtain ⟨M, rfl⟩ : ∃ M, N = M + 1 := ⟨N - 1, by omega⟩
            have hM : M ≤ 1359 := by have := HN.out; omega
            go_upto_region 21 with fail
            have NT1 := Lib.hid (NT.out.cut M K)
            have HE : Hid (NmE M K (bs.take M) (ws.take K) A1 c1) := Lib.hid (by
              have hbl := HN.out
              have hl := HL.out
              refine ⟨by rw [List.length_take]; omega, by rw [List.length_take, HBW.out.2.2.1]; omega, by omega, by omega, ?_, fun e => ?_⟩
              · have hK : K < l.length := by omega
                have e : l = l.take K ++ [l[K]] := by
                  rw [← List.take_succ_eq_append_getElem hK, hl, List.take_length]
                have h1 := nms_cut (l.take K) l[K]
                rw [← e, ← HBW.out.1, show bs.length - 1 = M by omega] at h1
                rw [h1, HBW.out.2.1, List.map_take]
              · exact absurd (hno1 e).1 (fun e => by rw [e] at hbl; simp at hbl))
            obtain ⟨b, hb⟩ : ∃ b, b = bs.take M := ⟨_, rfl⟩
            obtain ⟨v, hv⟩ : ∃ v, v = ws.take K := ⟨_, rfl⟩
            rw [← hb, ← hv] at HE NT1
            clear NT
            have NT := NT1
            obtain ⟨n, hn⟩ : ∃ n, n = M := ⟨_, rfl⟩
            obtain ⟨m, hm⟩ : ∃ m, m = K := ⟨_, rfl⟩
            rw [← hn, ← hm] at HE
            rw [← hn, ← hm]
            clear hn hm hb hv NT1 HBW HN hno1 h1c h2c hN0 d3 d3' e1 e2 hbl hcu HL HBG d2 d2' hlt hM kb
            obtain ⟨z1, hz1⟩ : ∃ z, z = UInt8.ofNat (n / 256) := ⟨_, rfl⟩
            obtain ⟨z2, hz2⟩ : ∃ z, z = UInt8.ofNat n := ⟨_, rfl⟩
            have hn1 := HE.out.n1
            have r1 : (n : Int) / 256 % 256 = (z1.toNat : Int) := by rw [hz1, UInt8.toNat_ofNat']; omega
            have r2 : (n : Int) % 256 = (z2.toNat : Int) := by rw [hz2, UInt8.toNat_ofNat']; omega
            have HZ : Hid ([0, 2, 0, 0, 0, 24, z1, z2] ++ b = nmB b) := Lib.hid (by unfold nmB; rw [← HE.out.nb, ← hz1, ← hz2])
            clear hz1 hz2 hn1
            have O1 : Hid ((wr.alloc (.cells #[.int .u8 0, .int .u8 2, .int .u8 0, .int .u8 0, .int .u8 0, .int .u8 24, .int .u8 (z1.toNat : Int), .int .u8 (z2.toNat : Int)] 5)).ownsRow wr.heap.size 5 1 (.slice (some ⟨wr.heap.size, 0, none⟩) 8 8) 8 ([0, 2, 0, 0, 0, 24, z1, z2].map B)) := Lib.hid (own_lit (w := wr) [0, 2, 0, 0, 0, 24, z1, z2] (by simp))
            have b1 : Below wr.heap.size wr (wr.alloc (.cells #[.int .u8 0, .int .u8 2, .int .u8 0, .int .u8 0, .int .u8 0, .int .u8 24, .int .u8 (z1.toNat : Int), .int .u8 (z2.toNat : Int)] 5)) := (by (repeat (first | exact Below.refl _ _ | assumption | refine Below.drew ?_ | refine bdrewN ?_ _ | refine Below.alloc ?_ (by first | omega | (simp <;> omega) | (simp only [World.size_alloc] <;> omega)) _ | refine below_setRow ?_ (by first | omega | (simp <;> omega)) _ | refine Below.setCell ?_ (by first | omega | (simp <;> omega)) _)))
            have B1 := Lib.hid b1
            have N1 := Lib.hid (NT.out.below b1)
            clear b1
            go_wp2_with (at_builtin; refine append_rd rfl _ _ rfl wr.heap.size (.slice (some ⟨wr.heap.size, 0, none⟩) 8 8) 8 ([0, 2, 0, 0, 0, 24, z1, z2].map B) rfl O1.out A1 b c1 (by show Value.slice A1 n c1 = _; rw [HE.out.nb]) HE.out.no N1.out.rb (by have h1 := HE.out.n1; have h2 := HE.out.nb; omega) B1.out.size ?_)
            intro v2 w3 ho2 hg2
            have B2 := B1.out.grown hg2 B1.out.size (fun k hk => (O1.out.lt k hk).1)
            obtain ⟨q, hq⟩ : ∃ q, q = (nmB b).length := ⟨_, rfl⟩
            have hq2 : q = 8 + b.length := by rw [hq, ← HZ.out, List.length_append]; rfl
            replace ho2 : w3.ownsRow wr.heap.size 5 1 v2 q ((nmB b).map B) := by rw [hq2, ← HZ.out, List.map_append]; exact ho2
            obtain ⟨g2, d2, rfl⟩ : ∃ g c, v2 = .slice (some ⟨g, 0, none⟩) q c := by
              rcases ho2.2 with ⟨_, q⟩ | ⟨g, c, _, q, _⟩
              · omega
              · exact ⟨g, c, q⟩
            have R2 : Rd w3 w3.heap.size (some ⟨g2, 0, none⟩) (nmB b) := by
              obtain ⟨A', c', e', hR, _, _⟩ := Rd.of_own ho2 hq
              cases e'
              exact hR
            have HQ := Lib.hid (And.intro hq hq2)
            have N2 := Lib.hid (NT.out.below B2)
            obtain ⟨p, hp⟩ : ∃ p, p = 4 + q := ⟨_, rfl⟩
            have HP := Lib.hid hp
            have CR : Hid (Calls Try.prog 16 #[.int .u32 0, .slice (some ⟨g2, 0, none⟩) q d2] w3 fun e w' => ∃ g c', e = .returned (.slice (some ⟨g, 0, none⟩) p c') ∧ w'.ownsRow w3.heap.size 5 1 (.slice (some ⟨g, 0, none⟩) p c') p ((repB 0 (nmB b)).map B) ∧ Below w3.heap.size w3 w') := Lib.hid (by
              rw [hp, hq]
              exact reply_any 0 (some ⟨g2, 0, none⟩) (nmB b) d2 w3 (by decide) R2 (fun h => by cases h) (by have h1 := HE.out.n1; have h2 := HE.out.nb; omega))
            clear O1 B1 N1 NT HZ ho2 hg2 B2 hq hq2 R2 hp r1 r2
            go_wp2_with fail
            refine CR.out.mono ?_
            rintro e w4 ⟨g3, c3, rfl, ho3, b3⟩
            have hr3 := repR ho3 (by rw [repB_len, HP.out, HQ.out.1])
            have N3 := Lib.hid (N2.out.below b3)
            have CY : Hid (Calls Try.prog 9 #[.pointer (some ⟨x, 0, none⟩), .int .u64 0, .slice (some ⟨g3, 0, none⟩) p c3] w4 fun e w' => ∃ SA DA k1 k2, e = .returned (.tuple #[.agg (ansG SA DA 0 m 86400), .bool true]) ∧ (∃ C', ClB w' x C') ∧ AnsR w' w4.heap.size SA DA [] v k1 k2 ∧ Tn (fun j => j = x) w4 w') := Lib.hid (by
              have hl : (repB 0 (nmB b)).length = p := by rw [repB_len, HP.out, HQ.out.1]
              have h1 := HE.out.n1
              have h2 := HE.out.nb
              have h3 := HQ.out.2
              have h4 := HP.out
              have Q := reply2_any x nmC1 0 (some ⟨g3, 0, none⟩) (repB 0 (nmB b)) (nmB b) c3 [(2, []), (24, b)] w4 N3.out.cl hr3.rd (by decide) hr3.le (fun bb o e => by cases e; have h1 := hr3.ge; have h2 := bk_lt N2.out.cl.box; omega) rfl rfl (nmOpts b (by omega)) (by omega) hr3.lt
              rw [hl] at Q
              refine Q.mono ?_
              intro e w' hQ
              unfold ReplyR at hQ
              rw [if_neg (by show ¬ true = false; decide)] at hQ
              obtain ⟨SA, DA, k1, k2, e1, e2, e3, e4⟩ := hQ
              have hd : dnm (List.lookup 24 [(2, ([] : List UInt8)), (24, b)]) = v := HE.out.nm
              have hs : srv' (List.lookup 23 [(2, ([] : List UInt8)), (24, b)]) = [] := (by decide : srv' none = [])
              have hf : frsh (List.lookup 32 [(2, ([] : List UInt8)), (24, b)]) = 86400 := rfl
              rw [hd, hs, hf] at e1
              rw [hd, hs] at e3
              rw [HE.out.mb]
              exact ⟨SA, DA, k1, k2, e1, ⟨_, e2⟩, e3, e4⟩)
            clear CR ho3 hr3 N2 b3 HP HQ
            go_wp2_with fail
            refine CY.out.mono ?_
            rintro e w5 ⟨SA, DA, k1, k2, rfl, ⟨C5, hc5⟩, han, t5⟩
            have os1 := ansG_ones SA DA 0 m 86400
            have os2 := ansG_size SA DA 0 m 86400
            have b6 : Below w5.heap.size w5 (w5.alloc (.cells (ansG SA DA 0 m 86400) 36 (0, 0))) := (by (repeat (first | exact Below.refl _ _ | assumption | refine Below.drew ?_ | refine bdrewN ?_ _ | refine Below.alloc ?_ (by first | omega | (simp <;> omega) | (simp only [World.size_alloc] <;> omega)) _ | refine below_setRow ?_ (by first | omega | (simp <;> omega)) _ | refine Below.setCell ?_ (by first | omega | (simp <;> omega)) _)))
            have N5 : Hid (Nt w w5 x C5 A1 A2 b v) := Lib.hid (N3.out.turn HX.out t5 hc5)
            have N6 := Lib.hid (N5.out.below b6)
            have A6 := Lib.hid (han.below b6)
            have K6 := Lib.hid (bk_alloc_at w5 (.cells (ansG SA DA 0 m 86400) 36 (0, 0)) _ rfl)
            clear CY N3 hc5 han t5 b6 N5
            go_upto_region 23 with fail
            change Code.wp _ _ _ _ (w5.alloc (.cells (ansG SA DA 0 m 86400) 36 (0, 0)))
            obtain ⟨ra, hra⟩ : ∃ r, r = w5.heap.size := ⟨_, rfl⟩
            rw [← hra] at K6 ⊢
            clear hra os1 os2
            generalize w5.alloc (.cells (ansG SA DA 0 m 86400) 36 (0, 0)) = w6 at *
            have u0 : w6.cell? ⟨ra, 0, none⟩ = some (.slice SA 0 0) := bk_cell K6.out 0
            have u1 : w6.cell? ⟨ra, 1, none⟩ = some (.slice DA m m) := bk_cell K6.out 1
            have u2 : w6.cell? ⟨ra, 2, none⟩ = some (.int .u32 86400) := bk_cell K6.out 2
            have la := bk_lt K6.out
            clear K6
            go_wp2_with fail
            have N6' := N6.out.bl
            have HRA : Hid (ra < w6.heap.size ∧ w6.cell? ⟨ra, 1, none⟩ = some (.slice DA m m)) := Lib.hid ⟨la, u1⟩
            clear u0 u1 u2 la
            go_loopw [15] (fun iv ws => ∃ j : Nat, j ≤ m ∧ iv = .int .i64 j ∧ Hid (Below w6.heap.size w6 ws)) (fun iv _ => m - (intOf iv).toNat)
            case atStart => exact ⟨0, Nat.zero_le _, rfl, Lib.hid (Below.refl _ _)⟩
            case round =>
              obtain ⟨j, hj, rfl, HB⟩ := hrel
              by_cases hjm : j < m
              · have d4 : decide ((j : Int) < (m : Int)) = true := decide_eq_true (by omega)
                have d4' : decide (j < m) = true := decide_eq_true hjm
                have hjv : j < v.length := by rw [← HE.out.mb]; exact hjm
                obtain ⟨ga, rfl, _, gal, gac⟩ := A6.out.hd.get j hjv
                obtain ⟨gb, ob, rfl, _, gbl, gbc⟩ := N6.out.tx j hjv
                obtain ⟨S, hS⟩ : ∃ S, S = v[j] := ⟨_, rfl⟩
                rw [← hS, ← HB.out.cell (p := ⟨ga, 0 + j, none⟩) gal, Nat.zero_add] at gac
                rw [← hS, ← HB.out.cell (p := ⟨gb, ob + j, none⟩) gbl] at gbc
                have e5 : wr.cell? ⟨ra, 1, none⟩ = some (.slice (some ⟨ga, 0, none⟩) m m) := (HB.out.cell (p := ⟨ra, 1, none⟩) HRA.out.1).trans HRA.out.2
                have l5 : ra < wr.heap.size := Nat.lt_of_lt_of_le HRA.out.1 HB.out.size
                have l6 : ga < wr.heap.size := Nat.lt_of_lt_of_le gal HB.out.size
                have l7 : gb < wr.heap.size := Nat.lt_of_lt_of_le gbl HB.out.size
                have m20 := HE.out.m1
                unfold St at gac gbc
                clear hS hjv gal gbl
                go_upto_region 28 with fail
                go_region
                have b7 : Below wr.heap.size wr wr.drew := (by (repeat (first | exact Below.refl _ _ | assumption | refine Below.drew ?_ | refine bdrewN ?_ _ | refine Below.alloc ?_ (by first | omega | (simp <;> omega) | (simp only [World.size_alloc] <;> omega)) _ | refine below_setRow ?_ (by first | omega | (simp <;> omega)) _ | refine Below.setCell ?_ (by first | omega | (simp <;> omega)) _)))
                have HB7 := Lib.hid (HB.out.trans (b7.mono HB.out.size))
                clear gac gbc e5 l5 l6 l7 b7
                go_wp2_with fail
                exact ⟨⟨j + 1, by omega, rfl, HB7⟩, by simp [intOf]; omega⟩
              · obtain rfl : j = m := by omega
                have d4 : decide ((j : Int) < (j : Int)) = false := by simp
                have d4' : decide (j < j) = false := by simp
                have B7 := Lib.hid (N6.out.bl.trans (HB.out.mono N6.out.bl.size))
                go_wp2_with fail
                refine (lives26_any _).mono ?_
                rintro e w8 ⟨rfl, b8⟩
                go_wp2_with fail
                go_ret
                exact ⟨rfl, B7.out.trans (b8.mono B7.out.size)⟩
        · have e1 : (cut.toNat : Int) % 2 = 0 := by omega
          have e2 : (cut.toNat : Int).tmod 2 = 0 := by rw [Int.tmod_eq_emod_of_nonneg (by omega)]; omega
          clear hcut
          obtain ⟨n, hn⟩ : ∃ n, n = N := ⟨_, rfl⟩
          rw [← hn] at h1c ⊢
          go_upto_region 21 with fail
          have HE : Hid (NmE n k bs ws A1 c1) := Lib.hid ⟨by rw [hn, HN.out], HBW.out.2.2.1.symm, by rw [hn, HN.out]; exact HBW.out.2.2.2, by have := HBG.out; omega, by rw [HBW.out.1, HBW.out.2.1, nms_all], hno1⟩
          obtain ⟨m, hm⟩ : ∃ m, m = k := ⟨_, rfl⟩
          obtain ⟨b, hb⟩ : ∃ b, b = bs := ⟨_, rfl⟩
          obtain ⟨v, hv⟩ : ∃ v, v = ws := ⟨_, rfl⟩
          rw [← hm, ← hb, ← hv] at HE
          rw [← hb, ← hv] at NT
          rw [← hm]
          clear hm hb hv hn HBW HN hno1 h1c h2c e1 e2 hbl hcu HL HBG d2 d2' hlt
          obtain ⟨z1, hz1⟩ : ∃ z, z = UInt8.ofNat (n / 256) := ⟨_, rfl⟩
          obtain ⟨z2, hz2⟩ : ∃ z, z = UInt8.ofNat n := ⟨_, rfl⟩
          have hn1 := HE.out.n1
          have r1 : (n : Int) / 256 % 256 = (z1.toNat : Int) := by rw [hz1, UInt8.toNat_ofNat']; omega
          have r2 : (n : Int) % 256 = (z2.toNat : Int) := by rw [hz2, UInt8.toNat_ofNat']; omega
          have HZ : Hid ([0, 2, 0, 0, 0, 24, z1, z2] ++ b = nmB b) := Lib.hid (by unfold nmB; rw [← HE.out.nb, ← hz1, ← hz2])
          clear hz1 hz2 hn1
          have O1 : Hid ((wr.alloc (.cells #[.int .u8 0, .int .u8 2, .int .u8 0, .int .u8 0, .int .u8 0, .int .u8 24, .int .u8 (z1.toNat : Int), .int .u8 (z2.toNat : Int)] 5)).ownsRow wr.heap.size 5 1 (.slice (some ⟨wr.heap.size, 0, none⟩) 8 8) 8 ([0, 2, 0, 0, 0, 24, z1, z2].map B)) := Lib.hid (own_lit (w := wr) [0, 2, 0, 0, 0, 24, z1, z2] (by simp))
          have b1 : Below wr.heap.size wr (wr.alloc (.cells #[.int .u8 0, .int .u8 2, .int .u8 0, .int .u8 0, .int .u8 0, .int .u8 24, .int .u8 (z1.toNat : Int), .int .u8 (z2.toNat : Int)] 5)) := (by (repeat (first | exact Below.refl _ _ | assumption | refine Below.drew ?_ | refine bdrewN ?_ _ | refine Below.alloc ?_ (by first | omega | (simp <;> omega) | (simp only [World.size_alloc] <;> omega)) _ | refine below_setRow ?_ (by first | omega | (simp <;> omega)) _ | refine Below.setCell ?_ (by first | omega | (simp <;> omega)) _)))
          have B1 := Lib.hid b1
          have N1 := Lib.hid (NT.out.below b1)
          clear b1
          go_wp2_with (at_builtin; refine append_rd rfl _ _ rfl wr.heap.size (.slice (some ⟨wr.heap.size, 0, none⟩) 8 8) 8 ([0, 2, 0, 0, 0, 24, z1, z2].map B) rfl O1.out A1 b c1 (by show Value.slice A1 n c1 = _; rw [HE.out.nb]) HE.out.no N1.out.rb (by have h1 := HE.out.n1; have h2 := HE.out.nb; omega) B1.out.size ?_)
          intro v2 w3 ho2 hg2
          have B2 := B1.out.grown hg2 B1.out.size (fun k hk => (O1.out.lt k hk).1)
          obtain ⟨q, hq⟩ : ∃ q, q = (nmB b).length := ⟨_, rfl⟩
          have hq2 : q = 8 + b.length := by rw [hq, ← HZ.out, List.length_append]; rfl
          replace ho2 : w3.ownsRow wr.heap.size 5 1 v2 q ((nmB b).map B) := by rw [hq2, ← HZ.out, List.map_append]; exact ho2
          obtain ⟨g2, d2, rfl⟩ : ∃ g c, v2 = .slice (some ⟨g, 0, none⟩) q c := by
            rcases ho2.2 with ⟨_, q⟩ | ⟨g, c, _, q, _⟩
            · omega
            · exact ⟨g, c, q⟩
          have R2 : Rd w3 w3.heap.size (some ⟨g2, 0, none⟩) (nmB b) := by
            obtain ⟨A', c', e', hR, _, _⟩ := Rd.of_own ho2 hq
            cases e'
            exact hR
          have HQ := Lib.hid (And.intro hq hq2)
          have N2 := Lib.hid (NT.out.below B2)
          obtain ⟨p, hp⟩ : ∃ p, p = 4 + q := ⟨_, rfl⟩
          have HP := Lib.hid hp
          have CR : Hid (Calls Try.prog 16 #[.int .u32 0, .slice (some ⟨g2, 0, none⟩) q d2] w3 fun e w' => ∃ g c', e = .returned (.slice (some ⟨g, 0, none⟩) p c') ∧ w'.ownsRow w3.heap.size 5 1 (.slice (some ⟨g, 0, none⟩) p c') p ((repB 0 (nmB b)).map B) ∧ Below w3.heap.size w3 w') := Lib.hid (by
            rw [hp, hq]
            exact reply_any 0 (some ⟨g2, 0, none⟩) (nmB b) d2 w3 (by decide) R2 (fun h => by cases h) (by have h1 := HE.out.n1; have h2 := HE.out.nb; omega))
          clear O1 B1 N1 NT HZ ho2 hg2 B2 hq hq2 R2 hp r1 r2
          go_wp2_with fail
          refine CR.out.mono ?_
          rintro e w4 ⟨g3, c3, rfl, ho3, b3⟩
          have hr3 := repR ho3 (by rw [repB_len, HP.out, HQ.out.1])
          have N3 := Lib.hid (N2.out.below b3)
          have CY : Hid (Calls Try.prog 9 #[.pointer (some ⟨x, 0, none⟩), .int .u64 0, .slice (some ⟨g3, 0, none⟩) p c3] w4 fun e w' => ∃ SA DA k1 k2, e = .returned (.tuple #[.agg (ansG SA DA 0 m 86400), .bool true]) ∧ (∃ C', ClB w' x C') ∧ AnsR w' w4.heap.size SA DA [] v k1 k2 ∧ Tn (fun j => j = x) w4 w') := Lib.hid (by
            have hl : (repB 0 (nmB b)).length = p := by rw [repB_len, HP.out, HQ.out.1]
            have h1 := HE.out.n1
            have h2 := HE.out.nb
            have h3 := HQ.out.2
            have h4 := HP.out
            have Q := reply2_any x nmC1 0 (some ⟨g3, 0, none⟩) (repB 0 (nmB b)) (nmB b) c3 [(2, []), (24, b)] w4 N3.out.cl hr3.rd (by decide) hr3.le (fun bb o e => by cases e; have h1 := hr3.ge; have h2 := bk_lt N2.out.cl.box; omega) rfl rfl (nmOpts b (by omega)) (by omega) hr3.lt
            rw [hl] at Q
            refine Q.mono ?_
            intro e w' hQ
            unfold ReplyR at hQ
            rw [if_neg (by show ¬ true = false; decide)] at hQ
            obtain ⟨SA, DA, k1, k2, e1, e2, e3, e4⟩ := hQ
            have hd : dnm (List.lookup 24 [(2, ([] : List UInt8)), (24, b)]) = v := HE.out.nm
            have hs : srv' (List.lookup 23 [(2, ([] : List UInt8)), (24, b)]) = [] := (by decide : srv' none = [])
            have hf : frsh (List.lookup 32 [(2, ([] : List UInt8)), (24, b)]) = 86400 := rfl
            rw [hd, hs, hf] at e1
            rw [hd, hs] at e3
            rw [HE.out.mb]
            exact ⟨SA, DA, k1, k2, e1, ⟨_, e2⟩, e3, e4⟩)
          clear CR ho3 hr3 N2 b3 HP HQ
          go_wp2_with fail
          refine CY.out.mono ?_
          rintro e w5 ⟨SA, DA, k1, k2, rfl, ⟨C5, hc5⟩, han, t5⟩
          have os1 := ansG_ones SA DA 0 m 86400
          have os2 := ansG_size SA DA 0 m 86400
          have b6 : Below w5.heap.size w5 (w5.alloc (.cells (ansG SA DA 0 m 86400) 36 (0, 0))) := (by (repeat (first | exact Below.refl _ _ | assumption | refine Below.drew ?_ | refine bdrewN ?_ _ | refine Below.alloc ?_ (by first | omega | (simp <;> omega) | (simp only [World.size_alloc] <;> omega)) _ | refine below_setRow ?_ (by first | omega | (simp <;> omega)) _ | refine Below.setCell ?_ (by first | omega | (simp <;> omega)) _)))
          have N5 : Hid (Nt w w5 x C5 A1 A2 b v) := Lib.hid (N3.out.turn HX.out t5 hc5)
          have N6 := Lib.hid (N5.out.below b6)
          have A6 := Lib.hid (han.below b6)
          have K6 := Lib.hid (bk_alloc_at w5 (.cells (ansG SA DA 0 m 86400) 36 (0, 0)) _ rfl)
          clear CY N3 hc5 han t5 b6 N5
          go_upto_region 23 with fail
          change Code.wp _ _ _ _ (w5.alloc (.cells (ansG SA DA 0 m 86400) 36 (0, 0)))
          obtain ⟨ra, hra⟩ : ∃ r, r = w5.heap.size := ⟨_, rfl⟩
          rw [← hra] at K6 ⊢
          clear hra os1 os2
          generalize w5.alloc (.cells (ansG SA DA 0 m 86400) 36 (0, 0)) = w6 at *
          have u0 : w6.cell? ⟨ra, 0, none⟩ = some (.slice SA 0 0) := bk_cell K6.out 0
          have u1 : w6.cell? ⟨ra, 1, none⟩ = some (.slice DA m m) := bk_cell K6.out 1
          have u2 : w6.cell? ⟨ra, 2, none⟩ = some (.int .u32 86400) := bk_cell K6.out 2
          have la := bk_lt K6.out
          clear K6
          go_wp2_with fail
          have N6' := N6.out.bl
          have HRA : Hid (ra < w6.heap.size ∧ w6.cell? ⟨ra, 1, none⟩ = some (.slice DA m m)) := Lib.hid ⟨la, u1⟩
          clear u0 u1 u2 la
          go_loopw [15] (fun iv ws => ∃ j : Nat, j ≤ m ∧ iv = .int .i64 j ∧ Hid (Below w6.heap.size w6 ws)) (fun iv _ => m - (intOf iv).toNat)
          case atStart => exact ⟨0, Nat.zero_le _, rfl, Lib.hid (Below.refl _ _)⟩
          case round =>
            obtain ⟨j, hj, rfl, HB⟩ := hrel
            by_cases hjm : j < m
            · have d4 : decide ((j : Int) < (m : Int)) = true := decide_eq_true (by omega)
              have d4' : decide (j < m) = true := decide_eq_true hjm
              have hjv : j < v.length := by rw [← HE.out.mb]; exact hjm
              obtain ⟨ga, rfl, _, gal, gac⟩ := A6.out.hd.get j hjv
              obtain ⟨gb, ob, rfl, _, gbl, gbc⟩ := N6.out.tx j hjv
              obtain ⟨S, hS⟩ : ∃ S, S = v[j] := ⟨_, rfl⟩
              rw [← hS, ← HB.out.cell (p := ⟨ga, 0 + j, none⟩) gal, Nat.zero_add] at gac
              rw [← hS, ← HB.out.cell (p := ⟨gb, ob + j, none⟩) gbl] at gbc
              have e5 : wr.cell? ⟨ra, 1, none⟩ = some (.slice (some ⟨ga, 0, none⟩) m m) := (HB.out.cell (p := ⟨ra, 1, none⟩) HRA.out.1).trans HRA.out.2
              have l5 : ra < wr.heap.size := Nat.lt_of_lt_of_le HRA.out.1 HB.out.size
              have l6 : ga < wr.heap.size := Nat.lt_of_lt_of_le gal HB.out.size
              have l7 : gb < wr.heap.size := Nat.lt_of_lt_of_le gbl HB.out.size
              have m20 := HE.out.m1
              unfold St at gac gbc
              clear hS hjv gal gbl
              go_upto_region 28 with fail
              go_region
              have b7 : Below wr.heap.size wr wr.drew := (by (repeat (first | exact Below.refl _ _ | assumption | refine Below.drew ?_ | refine bdrewN ?_ _ | refine Below.alloc ?_ (by first | omega | (simp <;> omega) | (simp only [World.size_alloc] <;> omega)) _ | refine below_setRow ?_ (by first | omega | (simp <;> omega)) _ | refine Below.setCell ?_ (by first | omega | (simp <;> omega)) _)))
              have HB7 := Lib.hid (HB.out.trans (b7.mono HB.out.size))
              clear gac gbc e5 l5 l6 l7 b7
              go_wp2_with fail
              exact ⟨⟨j + 1, by omega, rfl, HB7⟩, by simp [intOf]; omega⟩
            · obtain rfl : j = m := by omega
              have d4 : decide ((j : Int) < (j : Int)) = false := by simp
              have d4' : decide (j < j) = false := by simp
              have B7 := Lib.hid (N6.out.bl.trans (HB.out.mono N6.out.bl.size))
              go_wp2_with fail
              refine (lives26_any _).mono ?_
              rintro e w8 ⟨rfl, b8⟩
              go_wp2_with fail
              go_ret
              exact ⟨rfl, B7.out.trans (b8.mono B7.out.size)⟩
end Go.Proofs.Ytfldoihindbdmaa

/- Infos: a request's bytes. -/
import Derived.Test.YtfldoihindbdmaaF4
import Derived.Deep.Onto
namespace Go.Proofs.Ytfldoihindbdmaa
open Go.RowKit
set_option maxRecDepth 100000
set_option maxHeartbeats 1000000
theorem run_full {w : World} (ty : TypeId) (ad : Addr) (l1 l2 : List UInt8) (h1 : Rd w w.heap.size (some ad) l1) (bd : Addr) (c2 : Nat) (h2 : Rd w w.heap.size (some bd) l2) (h0 : 0 < l2.length) (hb : l1.length + l2.length < 2 ^ 47) :
    ∃ v' w', (Builtin.append_ #[22, 22] ty #[.slice (some ad) l1.length l1.length, .slice (some bd) l2.length c2]).run Try.prog w = .ok v' w' ∧ w'.ownsRow w.heap.size 5 1 v' (l1 ++ l2).length ((l1 ++ l2).map B) ∧ Below w.heap.size w w' := by
  obtain ⟨i0, hi, hz0, hz1, hz2⟩ := info_parts infoB
  have h63 : ((l1.length + l2.length : Nat) : Int) ≤ 9223372036854775807 := by omega
  have hr := run_append_grow (P := Try.prog) w 22 ty 5 i0 (.int .u8 0) Try.underlying22 hi hz0 ad l1.length l1.length (l1.map B) (by rw [hz1]; simp) h1.news bd l2.length c2 (l2.map B) (by rw [hz1]; simp) h2.news (by omega) h63
    (growslice_fits (by omega) (by rw [hz2]; omega))
  refine ⟨_, _, hr, ?_, ?_⟩
  · refine ⟨by simp, .inr ⟨w.heap.size, _, _, by rw [List.length_append], Nat.le_refl _, heap_alloc_new w.drew _, ?_, ?_, ?_, ?_⟩⟩
    · rw [List.length_append]; exact grownCap_ge w _ _ _
    · exact grownCap_le_maxLen w _ _ _ (by unfold maxLen; omega)
    · have hge := grownCap_ge w (l1.length + l2.length) l1.length 5
      simp only [Array.size_append, List.size_toArray, size_zeroCells, List.length_map]
      show l1.length + l2.length + (_ - _) * 1 = _ * 1
      omega
    · simp only [Array.toList_append, List.append_assoc]
      rw [← List.append_assoc, ← List.map_append]
      exact List.take_left' (by simp)
  · exact (Below.refl _ _).drew.alloc (show w.heap.size ≤ w.drew.heap.size from Nat.le_refl _) _
theorem append_full {w : World} {ops : Array Oper} {rest : List Oper} {o : Oper} {a : Act} {Q : Exit → Act → World → Prop} (hgd : o.guard = none) (s x : Operand)
    (ho : o.op = .call { callee := .builtin .append, args := #[s, x], argTypes := #[22, 22] }) (ad : Addr) (l1 : List UInt8) (n1 c1 : Nat) (hs : a.eval s = .slice (some ad) n1 c1) (hn1 : n1 = l1.length) (hc1 : c1 = n1) (h1 : Rd w w.heap.size (some ad) l1)
    (bd : Addr) (l2 : List UInt8) (n2 c2 : Nat) (hx : a.eval x = .slice (some bd) n2 c2) (hn2 : n2 = l2.length) (h2 : Rd w w.heap.size (some bd) l2) (h0 : 0 < l2.length) (hb : l1.length + l2.length < 2 ^ 47)
    (h : ∀ v' w', w'.ownsRow w.heap.size 5 1 v' (l1 ++ l2).length ((l1 ++ l2).map B) → Below w.heap.size w w' → wpList Try.prog ops Q rest (a.put o.dst v') w') : wpList Try.prog ops Q (o :: rest) a w := by
  subst hc1 hn1 hn2
  obtain ⟨v', w', hr, h3, h4⟩ := run_full o.type ad l1 l2 h1 bd c2 h2 h0 hb
  refine wpList_plain hgd fun K hK => ?_
  unfold Oper.wp execOp
  simp only [ho, resolve, invoke, builtin, Sem.run_bind, Sem.run_pure, Result.andThen_ok, List.map_toArray, List.map_cons, List.map_nil, hs, hx, hr]
  exact hK _ _ (h v' w' h3 h4)
theorem put_own (A : Option Addr) (l : List UInt8) (c n : Nat) (m : Int) (k : Nat) (D : List UInt8) (w : World) (h : Rd w w.heap.size A l) (hA : A = none → l = [] ∧ c = 0) (hl : l.length < 2 ^ 45) (hn : n < 2 ^ 64) (hm : -2 ^ 63 ≤ m ∧ m < 2 ^ 63) (hk : wid m = k) (hD : D = l ++ nb k n) :
    Calls Try.prog 25 #[.slice A l.length c, .int .u64 n, .int .i64 m] w fun e w' => ∃ g, e = .returned (.slice (some ⟨g, 0, none⟩) D.length D.length) ∧ w.heap.size ≤ g ∧ Rd w' w'.heap.size (some ⟨g, 0, none⟩) D ∧ Below w.heap.size w w' := by
  refine (put_any A l c n m w h hA hl hn hm).mono ?_
  rintro e w' ⟨g, cur, rfl, hg, hb, hle, htk, hbl⟩
  rw [hk] at hle htk ⊢
  rw [← hD] at htk
  have hDl : D.length = l.length + k := by rw [hD, List.length_append, nb_length]
  exact ⟨g, by rw [hDl], hg, Rd.of_take hb htk (bk_lt hb), hbl⟩
def opB (l : List UInt8) (code : Nat) (m : List UInt8) : List UInt8 := l ++ nb 2 code ++ nb 2 m.length ++ m
theorem option_any (A : Option Addr) (l : List UInt8) (c code : Nat) (bd : Addr) (m : List UInt8) (cm : Nat) (w : World) (h : Rd w w.heap.size A l) (hA : A = none → l = [] ∧ c = 0) (hl : l.length < 2 ^ 40) (hc : code < 2 ^ 64) (hm : Rd w w.heap.size (some bd) m) (h0 : 0 < m.length) (hml : m.length < 2 ^ 40) :
    Calls Try.prog 62 #[.slice A l.length c, .int .u64 (code : Int), .slice (some bd) m.length cm] w fun e w' => ∃ A' c', e = .returned (.slice A' (opB l code m).length c') ∧ w'.ownsRow w.heap.size 5 1 (.slice A' (opB l code m).length c') (opB l code m).length ((opB l code m).map B) ∧ Below w.heap.size w w' := by
  obtain ⟨L, hL⟩ : ∃ L, L = opB l code m := ⟨_, rfl⟩
  rw [← hL]
  obtain ⟨D1, hD1⟩ : ∃ D, D = l ++ nb 2 code := ⟨_, rfl⟩
  obtain ⟨N, hN⟩ : ∃ N, N = m.length := ⟨_, rfl⟩
  obtain ⟨D2, hD2⟩ : ∃ D, D = D1 ++ nb 2 N := ⟨_, rfl⟩
  have hD1l : D1.length = l.length + 2 := by rw [hD1, List.length_append, nb_length]
  have hD2l : D2.length = l.length + 4 := by rw [hD2, List.length_append, nb_length]; omega
  have HL : Hid (D2 ++ m = L) := Lib.hid (by rw [hL, hD2, hD1, hN]; rfl)
  have CP := Lib.hid (put_own A l c code 2 2 D1 w h hA (by omega) hc (by decide) rfl hD1)
  have HM := Lib.hid hm
  have HN := Lib.hid hN
  have HD2 := Lib.hid hD2
  have HN0 := Lib.hid (And.intro h0 hml)
  have HLN := Lib.hid (And.intro hl (And.intro hD1l hD2l))
  rw [← hN]
  have w0 : (N : Int) % 18446744073709551616 = (N : Int) := by omega
  clear h hA hl hc hm h0 hml hL hD1 hD2 hN hD1l hD2l
  go_enter Try.func62, Try.ntmps62
  go_wp2_with fail
  refine CP.out.mono ?_
  rintro e w1 ⟨g1, rfl, hg1, r1, b1⟩
  have CP2 := Lib.hid (put_own (some ⟨g1, 0, none⟩) D1 D1.length N 2 2 D2 w1 r1 (fun h => by cases h) (by have := HLN.out; omega) (by have := HN0.out; have := HN.out; omega) (by decide) rfl HD2.out)
  have HM1 := Lib.hid ((HM.out.below b1 (Nat.le_refl _)).mono b1.size)
  have B1 := Lib.hid b1
  clear r1 b1 CP HM
  go_wp2_with fail
  refine CP2.out.mono ?_
  rintro e w2 ⟨g2, rfl, hg2, r2, b2⟩
  have HM2 := Lib.hid ((HM1.out.below b2 (Nat.le_refl _)).mono b2.size)
  have B2 := Lib.hid (B1.out.trans (b2.mono B1.out.size))
  have R2 := Lib.hid r2
  clear r2 b2 CP2 HM1 B1
  go_wp2_with (at_builtin; refine append_full rfl _ _ rfl ⟨g2, 0, none⟩ D2 _ _ rfl rfl rfl R2.out bd m N cm rfl HN.out HM2.out HN0.out.1 (by have := HLN.out; have := HN0.out; omega) ?_)
  intro v3 w3 ho3 b3
  replace ho3 : w3.ownsRow w2.heap.size 5 1 v3 L.length (L.map B) := by rw [← HL.out, List.length_append]; exact ho3
  obtain ⟨A3, c3, rfl⟩ : ∃ A c, v3 = .slice A L.length c := by
    rcases ho3.2 with ⟨q, q1⟩ | ⟨_, _, _, q, _⟩
    · exact ⟨none, 0, by rw [q, q1]⟩
    · exact ⟨_, _, q⟩
  have FIN := Lib.hid (And.intro (World.ownsRow.mono ho3 B2.out.size) (B2.out.trans (b3.mono B2.out.size)))
  clear ho3 b3
  go_wp2_with fail
  go_ret
  exact ⟨_, _, rfl, FIN.out⟩
/-- What it asks. -/
def elB (c : Cl) (now : Nat) : List UInt8 := nb 2 (min ((now - c.since) / 10) 65535)
def reqA (c : Cl) (now : Nat) : List UInt8 := opB ([11] ++ nb 3 c.id) 8 (elB c now)
def reqM (c : Cl) (now : Nat) : List UInt8 := opB (reqA c now) 1 ([0, 3, 0, 1] ++ [c.a0, c.a1, c.a2, c.a3, c.a4, c.a5])
def reqB (c : Cl) (now : Nat) : List UInt8 := opB (reqM c now) 6 [0, 23, 0, 24, 0, 32]
theorem opB_len (l : List UInt8) (code : Nat) (m : List UInt8) : (opB l code m).length = l.length + 4 + m.length := by unfold opB; simp [nb_length]; omega
theorem reqB_len (c : Cl) (now : Nat) : (reqA c now).length = 10 ∧ (reqM c now).length = 24 ∧ (reqB c now).length = 34 := by
  have h1 : (reqA c now).length = 10 := by unfold reqA elB; rw [opB_len]; simp [nb_length]
  have h2 : (reqM c now).length = 24 := by unfold reqM; rw [opB_len, h1]; rfl
  exact ⟨h1, h2, by unfold reqB; rw [opB_len, h2]; rfl⟩
theorem own_sl {w : World} {n m : Nat} {v : Value} {xs : List Value} (h : w.ownsRow n 5 1 v m xs) : ∃ A c, v = .slice A m c := by
  rcases h.2 with ⟨q, q1⟩ | ⟨_, _, _, q, _⟩
  · exact ⟨none, 0, by rw [q, q1]⟩
  · exact ⟨_, _, q⟩
theorem mac_rd {w : World} {x : Nat} {c : Cl} (h : ClB w x c) : Rd w w.heap.size (some ⟨x, 0, none⟩) [c.a0, c.a1, c.a2, c.a3, c.a4, c.a5] := fun _ => ⟨x, 0, rfl, bk_lt h.box, fun j hj => by
  rw [bk_cell h.box, Nat.zero_add]
  match j, hj with
  | 0, _ => rfl
  | 1, _ => rfl
  | 2, _ => rfl
  | 3, _ => rfl
  | 4, _ => rfl
  | 5, _ => rfl⟩
theorem request_any (x : Nat) (c : Cl) (now : Nat) (w : World) (h : ClB w x c) (hn : now ≤ far) (hs : c.since ≤ now) :
    Calls Try.prog 33 #[.pointer (some ⟨x, 0, none⟩), .int .u64 (now : Int)] w fun e w' => ∃ A', e = .returned (.slice A' 34 34) ∧ Rd w' w'.heap.size A' (reqB c now) ∧ (∀ b o, A' = some ⟨b, o, none⟩ → w.heap.size ≤ b) ∧ Below w.heap.size w w' := by
  have HC := Lib.hid h
  have HLEN := Lib.hid (reqB_len c now)
  have c11 := bk_cell h.box 11
  simp [clC] at c11
  have lx := bk_lt h.box
  have HID := Lib.hid h.i24
  obtain ⟨D0, hD0⟩ : ∃ D, D = [11] ++ nb 3 c.id := ⟨_, rfl⟩
  have hD0l : D0.length = 4 := by rw [hD0, List.length_append, nb_length]; rfl
  have HD0 := Lib.hid (And.intro hD0 hD0l)
  have R0 : Rd (w.alloc (.cells #[.int .u8 11] 5)) (w.alloc (.cells #[.int .u8 11] 5)).heap.size (some ⟨w.heap.size, 0, none⟩) [11] := Rd.lit w [11] 5
  have C0 : Hid (Calls Try.prog 25 #[.slice (some ⟨w.heap.size, 0, none⟩) 1 1, .int .u64 (c.id : Int), .int .i64 3] (w.alloc (.cells #[.int .u8 11] 5)) fun e w' => ∃ g, e = .returned (.slice (some ⟨g, 0, none⟩) D0.length D0.length) ∧ (w.alloc (.cells #[.int .u8 11] 5)).heap.size ≤ g ∧ Rd w' w'.heap.size (some ⟨g, 0, none⟩) D0 ∧ Below (w.alloc (.cells #[.int .u8 11] 5)).heap.size (w.alloc (.cells #[.int .u8 11] 5)) w') :=
    Lib.hid (put_own (some ⟨w.heap.size, 0, none⟩) [11] 1 c.id 3 3 D0 _ R0 (fun h => by cases h) (by decide) (by have := h.i24; omega) (by decide) rfl hD0)
  have B0 : Hid (Below w.heap.size w (w.alloc (.cells #[.int .u8 11] 5))) := Lib.hid (by (repeat (first | exact Below.refl _ _ | assumption | refine Below.drew ?_ | refine bdrewN ?_ _ | refine Below.alloc ?_ (by first | omega | (simp <;> omega) | (simp only [World.size_alloc] <;> omega)) _ | refine below_setRow ?_ (by first | omega | (simp <;> omega)) _ | refine Below.setCell ?_ (by first | omega | (simp <;> omega)) _)))
  have HN := Lib.hid hn
  have HS := Lib.hid hs
  obtain ⟨E, hE⟩ : ∃ E, E = min ((now - c.since) / 10) 65535 := ⟨_, rfl⟩
  have HE := Lib.hid hE
  clear h hD0 hD0l R0 hn hs hE
  go_enter Try.func33, Try.ntmps33
  have hid := HID.out
  go_wp2_with fail
  refine C0.out.mono ?_
  rintro e w1 ⟨g1, rfl, hg1, r1, b1⟩
  have B1 := Lib.hid (B0.out.trans (b1.mono B0.out.size))
  have R1 := Lib.hid r1
  clear r1 b1 B0 C0 c11 lx
  have H1 := Lib.hid ((HC.out.keep (Tn.of B1.out) (F := fun _ => False) (fun e => e)))
  have lx := bk_lt H1.out.box
  have c12 := bk_cell H1.out.box 12
  simp [clC] at c12
  obtain ⟨S, hS⟩ : ∃ S, S = c.since := ⟨_, rfl⟩
  rw [← hS] at c12
  obtain ⟨d, hd⟩ : ∃ d, d = now - S := ⟨_, rfl⟩
  obtain ⟨q, hq⟩ : ∃ q, q = d / 10 := ⟨_, rfl⟩
  have m1 : (now : Int) - (S : Int) = (d : Int) := by have := HS.out; omega
  have m2 : (d : Int) / 10 = (q : Int) := by omega
  have m2' : (d : Int).tdiv 10 = (q : Int) := by rw [Int.tdiv_eq_ediv_of_nonneg (by omega)]; omega
  have hd64 : d < 18446744073709551616 := by have := HN.out; unfold far at this; omega
  have m3 : (d : Int) % 18446744073709551616 = (d : Int) := by omega
  have m4 : (q : Int) % 18446744073709551616 = (q : Int) := by omega
  have hE2 : E = min q 65535 := by rw [HE.out, hq, hd, hS]
  have HE2 := Lib.hid hE2
  clear hE2 hq hd hS hd64
  rw [HD0.out.2]
  by_cases hq : q ≤ 65535
  · have h1 : ((q : Int) ≤ 65535) = True := eq_true (by omega)
    have hE5 : (q : Int) = (E : Int) := by have := HE2.out; omega
    go_wp2_with fail
    clear hE5 m1 m2 m2' m3 m4 hq HE2 h1
    have CE := Lib.hid (put_own none [] 0 E 2 2 (nb 2 E) w1 Rd.nil (fun _ => ⟨rfl, rfl⟩) (by simp) (by have := HE.out; omega) (by decide) rfl (by simp))
    refine CE.out.mono ?_
    rintro e w2 ⟨g2, rfl, hg2, r2, b2⟩
    rw [nb_length]
    have CO : Hid (Calls Try.prog 62 #[.slice (some ⟨g1, 0, none⟩) 4 4, .int .u64 8, .slice (some ⟨g2, 0, none⟩) 2 2] w2 fun e w' => ∃ A' c', e = .returned (.slice A' 10 c') ∧ w'.ownsRow w2.heap.size 5 1 (.slice A' 10 c') 10 ((reqA c now).map B) ∧ Below w2.heap.size w2 w') := Lib.hid (by
      have C := option_any (some ⟨g1, 0, none⟩) D0 4 8 ⟨g2, 0, none⟩ (nb 2 E) 2 w2 ((R1.out.below b2 (Nat.le_refl _)).mono b2.size) (fun h => by cases h) (by rw [HD0.out.2]; decide) (by decide) r2 (by rw [nb_length]; decide) (by rw [nb_length]; decide)
      have e : opB D0 8 (nb 2 E) = reqA c now := by unfold reqA elB; rw [HD0.out.1, HE.out]
      rw [e, HLEN.out.1, HD0.out.2, nb_length] at C
      exact C)
    have B2 := Lib.hid (B1.out.trans (b2.mono B1.out.size))
    clear CE r2 b2 R1 hg2 hg1 B1 H1 c12 lx
    go_wp2_with fail
    refine CO.out.mono ?_
    rintro e w3 ⟨A3, c3, rfl, ho3, b3⟩
    obtain ⟨A4, c4, e4, hR3, hN3, hC3⟩ := Rd.of_own (l := reqA c now) (by rw [← HLEN.out.1] at ho3; exact ho3) rfl
    cases e4
    have R3 := Lib.hid (And.intro hR3 hN3)
    have B3 := Lib.hid (B2.out.trans (b3.mono B2.out.size))
    have b4 : Below w3.heap.size w3 (w3.alloc (.cells #[.int .u8 0, .int .u8 3, .int .u8 0, .int .u8 1] 5)) := (by (repeat (first | exact Below.refl _ _ | assumption | refine Below.drew ?_ | refine bdrewN ?_ _ | refine Below.alloc ?_ (by first | omega | (simp <;> omega) | (simp only [World.size_alloc] <;> omega)) _ | refine below_setRow ?_ (by first | omega | (simp <;> omega)) _ | refine Below.setCell ?_ (by first | omega | (simp <;> omega)) _)))
    have H3 := HC.out.keep (Tn.of (B3.out.trans (b4.mono B3.out.size))) (F := fun _ => False) (fun e => e)
    have RL : Hid (Rd (w3.alloc (.cells #[.int .u8 0, .int .u8 3, .int .u8 0, .int .u8 1] 5)) (w3.alloc (.cells #[.int .u8 0, .int .u8 3, .int .u8 0, .int .u8 1] 5)).heap.size (some ⟨w3.heap.size, 0, none⟩) [0, 3, 0, 1]) := Lib.hid (Rd.lit w3 [0, 3, 0, 1] 5)
    have RM := Lib.hid (mac_rd H3)
    have B4 := Lib.hid b4
    have lx := bk_lt (HC.out.keep (Tn.of B3.out) (F := fun _ => False) (fun e => e)).box
    clear CO ho3 b3 hR3 hN3 hC3 H3 B2 b4
    go_wp2_with (at_builtin; refine append_full rfl _ _ rfl ⟨w3.heap.size, 0, none⟩ [0, 3, 0, 1] 4 4 rfl rfl rfl RL.out ⟨x, 0, none⟩ [c.a0, c.a1, c.a2, c.a3, c.a4, c.a5] 6 6 rfl rfl RM.out (by simp) (by simp) ?_)
    intro v5 w5 ho5 b5
    obtain ⟨L5, hL5⟩ : ∃ L, L = ([0, 3, 0, 1] : List UInt8) ++ [c.a0, c.a1, c.a2, c.a3, c.a4, c.a5] := ⟨_, rfl⟩
    have hL5l : L5.length = 10 := by rw [hL5]; rfl
    replace ho5 : w5.ownsRow (w3.heap.size + 1) 5 1 v5 L5.length (L5.map B) := by rw [hL5]; exact ho5
    obtain ⟨A5, c5, rfl, hR5, hN5, hC5⟩ := Rd.of_own ho5 rfl
    obtain ⟨g5, o5, rfl, _, _⟩ := hR5 (by omega)
    rw [hL5l]
    have B35 := B4.out.trans (b5.mono (Nat.le_succ _))
    have CO2 : Hid (Calls Try.prog 62 #[.slice A3 10 c3, .int .u64 1, .slice (some ⟨g5, o5, none⟩) 10 c5] w5 fun e w' => ∃ A' c', e = .returned (.slice A' 24 c') ∧ w'.ownsRow w5.heap.size 5 1 (.slice A' 24 c') 24 ((reqM c now).map B) ∧ Below w5.heap.size w5 w') := Lib.hid (by
      have C := option_any A3 (reqA c now) c3 1 ⟨g5, o5, none⟩ L5 c5 w5 ((R3.out.1.below B35 (Nat.le_refl _)).mono B35.size) R3.out.2 (by rw [HLEN.out.1]; decide) (by decide) hR5 (by rw [hL5l]; decide) (by rw [hL5l]; decide)
      have e : opB (reqA c now) 1 L5 = reqM c now := by unfold reqM; rw [hL5]
      rw [e, HLEN.out.1, HLEN.out.2.1, hL5l] at C
      exact C)
    have B5 := Lib.hid (B3.out.trans (B35.mono B3.out.size))
    clear ho5 b5 hR5 hN5 hC5 hL5 hL5l R3 B3 RL RM B4 B35
    go_wp2_with fail
    refine CO2.out.mono ?_
    rintro e w6 ⟨A6, c6, rfl, ho6, b6⟩
    obtain ⟨A7, c7, e7, hR6, hN6, hC6⟩ := Rd.of_own (l := reqM c now) (by rw [← HLEN.out.2.1] at ho6; exact ho6) rfl
    cases e7
    have B6 := Lib.hid (B5.out.trans (b6.mono B5.out.size))
    have b7 : Below w6.heap.size w6 (w6.alloc (.cells #[.int .u8 0, .int .u8 23, .int .u8 0, .int .u8 24, .int .u8 0, .int .u8 32] 5)) := (by (repeat (first | exact Below.refl _ _ | assumption | refine Below.drew ?_ | refine bdrewN ?_ _ | refine Below.alloc ?_ (by first | omega | (simp <;> omega) | (simp only [World.size_alloc] <;> omega)) _ | refine below_setRow ?_ (by first | omega | (simp <;> omega)) _ | refine Below.setCell ?_ (by first | omega | (simp <;> omega)) _)))
    have RL7 : Rd (w6.alloc (.cells #[.int .u8 0, .int .u8 23, .int .u8 0, .int .u8 24, .int .u8 0, .int .u8 32] 5)) (w6.alloc (.cells #[.int .u8 0, .int .u8 23, .int .u8 0, .int .u8 24, .int .u8 0, .int .u8 32] 5)).heap.size (some ⟨w6.heap.size, 0, none⟩) [0, 23, 0, 24, 0, 32] := Rd.lit w6 [0, 23, 0, 24, 0, 32] 5
    have CO3 : Hid (Calls Try.prog 62 #[.slice A6 24 c6, .int .u64 6, .slice (some ⟨w6.heap.size, 0, none⟩) 6 6] (w6.alloc (.cells #[.int .u8 0, .int .u8 23, .int .u8 0, .int .u8 24, .int .u8 0, .int .u8 32] 5)) fun e w' => ∃ A' c', e = .returned (.slice A' 34 c') ∧ w'.ownsRow (w6.alloc (.cells #[.int .u8 0, .int .u8 23, .int .u8 0, .int .u8 24, .int .u8 0, .int .u8 32] 5)).heap.size 5 1 (.slice A' 34 c') 34 ((reqB c now).map B) ∧ Below (w6.alloc (.cells #[.int .u8 0, .int .u8 23, .int .u8 0, .int .u8 24, .int .u8 0, .int .u8 32] 5)).heap.size (w6.alloc (.cells #[.int .u8 0, .int .u8 23, .int .u8 0, .int .u8 24, .int .u8 0, .int .u8 32] 5)) w') := Lib.hid (by
      have C := option_any A6 (reqM c now) c6 6 ⟨w6.heap.size, 0, none⟩ [0, 23, 0, 24, 0, 32] 6 _ ((hR6.below b7 (Nat.le_refl _)).mono b7.size) hN6 (by rw [HLEN.out.2.1]; decide) (by decide) RL7 (by decide) (by decide)
      have e : opB (reqM c now) 6 [0, 23, 0, 24, 0, 32] = reqB c now := rfl
      rw [e, HLEN.out.2.1, HLEN.out.2.2] at C
      exact C)
    have B7 := Lib.hid (B6.out.trans (b7.mono B6.out.size))
    clear ho6 b6 hR6 hN6 hC6 CO2 B5 B6 RL7 b7
    go_wp2_with fail
    refine CO3.out.mono ?_
    rintro e w8 ⟨A8, c8, rfl, ho8, b8⟩
    obtain ⟨A9, c9, e9, hR8, hN8, hC8⟩ := Rd.of_own (l := reqB c now) (by rw [← HLEN.out.2.2] at ho8; exact ho8) rfl
    cases e9
    rw [HLEN.out.2.2] at hC8
    have CC := Lib.hid (clip_any A8 34 c8 hC8 w8)
    have B8 := B7.out.trans (b8.mono B7.out.size)
    have FIN : Hid (∀ w9, Below w8.heap.size w8 w9 → Rd w9 w9.heap.size A8 (reqB c now) ∧ (∀ b o, A8 = some ⟨b, o, none⟩ → w.heap.size ≤ b) ∧ Below w.heap.size w w9) := Lib.hid fun w9 b9 => ⟨(hR8.below b9 (Nat.le_refl _)).mono b9.size, fun b o e => by
      have h1 := (ho8.lt b (by rw [e]; rfl)).1
      have h2 := B7.out.size
      omega, B8.trans (b9.mono B8.size)⟩
    clear ho8 b8 hR8 hN8 hC8 CO3 B7 B8
    go_wp2_with fail
    refine CC.out.mono ?_
    rintro e w9 ⟨rfl, b9⟩
    have F9 := Lib.hid (FIN.out w9 b9)
    clear FIN b9 CC
    go_wp2_with fail
    go_ret
    exact ⟨_, rfl, F9.out⟩
  · have h1 : ((q : Int) ≤ 65535) = False := eq_false (by omega)
    have hE5 : (65535 : Int) = (E : Int) := by have := HE2.out; omega
    go_wp2_with fail
    clear hE5 m1 m2 m2' m3 m4 hq HE2 h1
    have CE := Lib.hid (put_own none [] 0 E 2 2 (nb 2 E) w1 Rd.nil (fun _ => ⟨rfl, rfl⟩) (by simp) (by have := HE.out; omega) (by decide) rfl (by simp))
    refine CE.out.mono ?_
    rintro e w2 ⟨g2, rfl, hg2, r2, b2⟩
    rw [nb_length]
    have CO : Hid (Calls Try.prog 62 #[.slice (some ⟨g1, 0, none⟩) 4 4, .int .u64 8, .slice (some ⟨g2, 0, none⟩) 2 2] w2 fun e w' => ∃ A' c', e = .returned (.slice A' 10 c') ∧ w'.ownsRow w2.heap.size 5 1 (.slice A' 10 c') 10 ((reqA c now).map B) ∧ Below w2.heap.size w2 w') := Lib.hid (by
      have C := option_any (some ⟨g1, 0, none⟩) D0 4 8 ⟨g2, 0, none⟩ (nb 2 E) 2 w2 ((R1.out.below b2 (Nat.le_refl _)).mono b2.size) (fun h => by cases h) (by rw [HD0.out.2]; decide) (by decide) r2 (by rw [nb_length]; decide) (by rw [nb_length]; decide)
      have e : opB D0 8 (nb 2 E) = reqA c now := by unfold reqA elB; rw [HD0.out.1, HE.out]
      rw [e, HLEN.out.1, HD0.out.2, nb_length] at C
      exact C)
    have B2 := Lib.hid (B1.out.trans (b2.mono B1.out.size))
    clear CE r2 b2 R1 hg2 hg1 B1 H1 c12 lx
    go_wp2_with fail
    refine CO.out.mono ?_
    rintro e w3 ⟨A3, c3, rfl, ho3, b3⟩
    obtain ⟨A4, c4, e4, hR3, hN3, hC3⟩ := Rd.of_own (l := reqA c now) (by rw [← HLEN.out.1] at ho3; exact ho3) rfl
    cases e4
    have R3 := Lib.hid (And.intro hR3 hN3)
    have B3 := Lib.hid (B2.out.trans (b3.mono B2.out.size))
    have b4 : Below w3.heap.size w3 (w3.alloc (.cells #[.int .u8 0, .int .u8 3, .int .u8 0, .int .u8 1] 5)) := (by (repeat (first | exact Below.refl _ _ | assumption | refine Below.drew ?_ | refine bdrewN ?_ _ | refine Below.alloc ?_ (by first | omega | (simp <;> omega) | (simp only [World.size_alloc] <;> omega)) _ | refine below_setRow ?_ (by first | omega | (simp <;> omega)) _ | refine Below.setCell ?_ (by first | omega | (simp <;> omega)) _)))
    have H3 := HC.out.keep (Tn.of (B3.out.trans (b4.mono B3.out.size))) (F := fun _ => False) (fun e => e)
    have RL : Hid (Rd (w3.alloc (.cells #[.int .u8 0, .int .u8 3, .int .u8 0, .int .u8 1] 5)) (w3.alloc (.cells #[.int .u8 0, .int .u8 3, .int .u8 0, .int .u8 1] 5)).heap.size (some ⟨w3.heap.size, 0, none⟩) [0, 3, 0, 1]) := Lib.hid (Rd.lit w3 [0, 3, 0, 1] 5)
    have RM := Lib.hid (mac_rd H3)
    have B4 := Lib.hid b4
    have lx := bk_lt (HC.out.keep (Tn.of B3.out) (F := fun _ => False) (fun e => e)).box
    clear CO ho3 b3 hR3 hN3 hC3 H3 B2 b4
    go_wp2_with (at_builtin; refine append_full rfl _ _ rfl ⟨w3.heap.size, 0, none⟩ [0, 3, 0, 1] 4 4 rfl rfl rfl RL.out ⟨x, 0, none⟩ [c.a0, c.a1, c.a2, c.a3, c.a4, c.a5] 6 6 rfl rfl RM.out (by simp) (by simp) ?_)
    intro v5 w5 ho5 b5
    obtain ⟨L5, hL5⟩ : ∃ L, L = ([0, 3, 0, 1] : List UInt8) ++ [c.a0, c.a1, c.a2, c.a3, c.a4, c.a5] := ⟨_, rfl⟩
    have hL5l : L5.length = 10 := by rw [hL5]; rfl
    replace ho5 : w5.ownsRow (w3.heap.size + 1) 5 1 v5 L5.length (L5.map B) := by rw [hL5]; exact ho5
    obtain ⟨A5, c5, rfl, hR5, hN5, hC5⟩ := Rd.of_own ho5 rfl
    obtain ⟨g5, o5, rfl, _, _⟩ := hR5 (by omega)
    rw [hL5l]
    have B35 := B4.out.trans (b5.mono (Nat.le_succ _))
    have CO2 : Hid (Calls Try.prog 62 #[.slice A3 10 c3, .int .u64 1, .slice (some ⟨g5, o5, none⟩) 10 c5] w5 fun e w' => ∃ A' c', e = .returned (.slice A' 24 c') ∧ w'.ownsRow w5.heap.size 5 1 (.slice A' 24 c') 24 ((reqM c now).map B) ∧ Below w5.heap.size w5 w') := Lib.hid (by
      have C := option_any A3 (reqA c now) c3 1 ⟨g5, o5, none⟩ L5 c5 w5 ((R3.out.1.below B35 (Nat.le_refl _)).mono B35.size) R3.out.2 (by rw [HLEN.out.1]; decide) (by decide) hR5 (by rw [hL5l]; decide) (by rw [hL5l]; decide)
      have e : opB (reqA c now) 1 L5 = reqM c now := by unfold reqM; rw [hL5]
      rw [e, HLEN.out.1, HLEN.out.2.1, hL5l] at C
      exact C)
    have B5 := Lib.hid (B3.out.trans (B35.mono B3.out.size))
    clear ho5 b5 hR5 hN5 hC5 hL5 hL5l R3 B3 RL RM B4 B35
    go_wp2_with fail
    refine CO2.out.mono ?_
    rintro e w6 ⟨A6, c6, rfl, ho6, b6⟩
    obtain ⟨A7, c7, e7, hR6, hN6, hC6⟩ := Rd.of_own (l := reqM c now) (by rw [← HLEN.out.2.1] at ho6; exact ho6) rfl
    cases e7
    have B6 := Lib.hid (B5.out.trans (b6.mono B5.out.size))
    have b7 : Below w6.heap.size w6 (w6.alloc (.cells #[.int .u8 0, .int .u8 23, .int .u8 0, .int .u8 24, .int .u8 0, .int .u8 32] 5)) := (by (repeat (first | exact Below.refl _ _ | assumption | refine Below.drew ?_ | refine bdrewN ?_ _ | refine Below.alloc ?_ (by first | omega | (simp <;> omega) | (simp only [World.size_alloc] <;> omega)) _ | refine below_setRow ?_ (by first | omega | (simp <;> omega)) _ | refine Below.setCell ?_ (by first | omega | (simp <;> omega)) _)))
    have RL7 : Rd (w6.alloc (.cells #[.int .u8 0, .int .u8 23, .int .u8 0, .int .u8 24, .int .u8 0, .int .u8 32] 5)) (w6.alloc (.cells #[.int .u8 0, .int .u8 23, .int .u8 0, .int .u8 24, .int .u8 0, .int .u8 32] 5)).heap.size (some ⟨w6.heap.size, 0, none⟩) [0, 23, 0, 24, 0, 32] := Rd.lit w6 [0, 23, 0, 24, 0, 32] 5
    have CO3 : Hid (Calls Try.prog 62 #[.slice A6 24 c6, .int .u64 6, .slice (some ⟨w6.heap.size, 0, none⟩) 6 6] (w6.alloc (.cells #[.int .u8 0, .int .u8 23, .int .u8 0, .int .u8 24, .int .u8 0, .int .u8 32] 5)) fun e w' => ∃ A' c', e = .returned (.slice A' 34 c') ∧ w'.ownsRow (w6.alloc (.cells #[.int .u8 0, .int .u8 23, .int .u8 0, .int .u8 24, .int .u8 0, .int .u8 32] 5)).heap.size 5 1 (.slice A' 34 c') 34 ((reqB c now).map B) ∧ Below (w6.alloc (.cells #[.int .u8 0, .int .u8 23, .int .u8 0, .int .u8 24, .int .u8 0, .int .u8 32] 5)).heap.size (w6.alloc (.cells #[.int .u8 0, .int .u8 23, .int .u8 0, .int .u8 24, .int .u8 0, .int .u8 32] 5)) w') := Lib.hid (by
      have C := option_any A6 (reqM c now) c6 6 ⟨w6.heap.size, 0, none⟩ [0, 23, 0, 24, 0, 32] 6 _ ((hR6.below b7 (Nat.le_refl _)).mono b7.size) hN6 (by rw [HLEN.out.2.1]; decide) (by decide) RL7 (by decide) (by decide)
      have e : opB (reqM c now) 6 [0, 23, 0, 24, 0, 32] = reqB c now := rfl
      rw [e, HLEN.out.2.1, HLEN.out.2.2] at C
      exact C)
    have B7 := Lib.hid (B6.out.trans (b7.mono B6.out.size))
    clear ho6 b6 hR6 hN6 hC6 CO2 B5 B6 RL7 b7
    go_wp2_with fail
    refine CO3.out.mono ?_
    rintro e w8 ⟨A8, c8, rfl, ho8, b8⟩
    obtain ⟨A9, c9, e9, hR8, hN8, hC8⟩ := Rd.of_own (l := reqB c now) (by rw [← HLEN.out.2.2] at ho8; exact ho8) rfl
    cases e9
    rw [HLEN.out.2.2] at hC8
    have CC := Lib.hid (clip_any A8 34 c8 hC8 w8)
    have B8 := B7.out.trans (b8.mono B7.out.size)
    have FIN : Hid (∀ w9, Below w8.heap.size w8 w9 → Rd w9 w9.heap.size A8 (reqB c now) ∧ (∀ b o, A8 = some ⟨b, o, none⟩ → w.heap.size ≤ b) ∧ Below w.heap.size w w9) := Lib.hid fun w9 b9 => ⟨(hR8.below b9 (Nat.le_refl _)).mono b9.size, fun b o e => by
      have h1 := (ho8.lt b (by rw [e]; rfl)).1
      have h2 := B7.out.size
      omega, B8.trans (b9.mono B8.size)⟩
    clear ho8 b8 hR8 hN8 hC8 CO3 B7 B8
    go_wp2_with fail
    refine CC.out.mono ?_
    rintro e w9 ⟨rfl, b9⟩
    have F9 := Lib.hid (FIN.out w9 b9)
    clear FIN b9 CC
    go_wp2_with fail
    go_ret
    exact ⟨_, rfl, F9.out⟩
end Go.Proofs.Ytfldoihindbdmaa

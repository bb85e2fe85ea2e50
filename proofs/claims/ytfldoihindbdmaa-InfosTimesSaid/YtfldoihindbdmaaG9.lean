/- Infos: the document's options. -/
import Derived.Test.YtfldoihindbdmaaG8
import Derived.Test.YtfldoihindbdmaaMgB
namespace Go.Proofs.Ytfldoihindbdmaa
open Go.RowKit
set_option maxRecDepth 100000
set_option maxHeartbeats 2000000
theorem appO : App1 117 140 (.agg #[.int .i64 0, .slice none 0 0]) 2 32 := ⟨Try.underlying117, by kernel_rfl, rfl, by decide, by decide⟩
/-- Options that stand in a row. -/
def RO (w : World) (m : Nat) (v : Value) (ol : List (Nat × List UInt8)) : Prop :=
  ∃ vs, w.ownsRow m 140 2 v ol.length vs ∧ ∀ i (h : i < ol.length), ∃ A c, vs[2 * i]? = some (.int .i64 (ol[i].1 : Int)) ∧ vs[2 * i + 1]? = some (.slice A ol[i].2.length c) ∧ Rd w m A ol[i].2 ∧ ol[i].2.length ≤ c ∧ c < 2 ^ 63
theorem RO.nil {w : World} {m : Nat} : RO w m (.slice none 0 0) [] := ⟨[], World.ownsRow_nil _ _ _ _, fun i h => absurd h (by simp)⟩
theorem RO.below {w w' : World} {m : Nat} {v : Value} {ol : List (Nat × List UInt8)} (h : RO w m v ol) (hb : Below w.heap.size w w') (hm : m ≤ w.heap.size) : RO w' m v ol := by
  obtain ⟨vs, h1, h2⟩ := h
  refine ⟨vs, own_below h1 hb, fun i hi => ?_⟩
  obtain ⟨A, c, e1, e2, hr, hc⟩ := h2 i hi
  exact ⟨A, c, e1, e2, hr.below hb hm, hc⟩
/-- What is parsed, and what is left. -/
def OSt (res : Option (List (Nat × List UInt8))) (rest : List UInt8) (done : List (Nat × List UInt8)) : Prop :=
  match res with
  | some ol => ∃ todo, Opts rest todo ∧ ol = done ++ todo
  | none => BadO rest
theorem OSt.short {res : Option (List (Nat × List UInt8))} {rest : List UInt8} {done : List (Nat × List UInt8)} (h : OSt res rest done) (h0 : rest ≠ []) (hl : rest.length < 4 ∨ rest.length < 4 + val ((rest.drop 2).take 2)) : res = none := by
  cases res with
  | none => rfl
  | some ol =>
    obtain ⟨todo, ho, _⟩ := h
    rcases ho.inv with ⟨hr, _⟩ | ⟨n, ol2, h4, hn, hl2, _⟩
    · exact absurd hr h0
    · omega
theorem OSt.done {res : Option (List (Nat × List UInt8))} {done : List (Nat × List UInt8)} (h : OSt res [] done) : res = some done := by
  cases res with
  | none =>
    rcases (show BadO [] from h).inv with ⟨h0, _⟩ | ⟨n, h4, _⟩
    · exact absurd rfl h0
    · simp at h4
  | some ol =>
    obtain ⟨todo, ho, e⟩ := h
    rcases ho.inv with ⟨_, e2⟩ | ⟨n, ol2, h4, _⟩
    · rw [e, e2, List.append_nil]
    · simp at h4
theorem OSt.next {res : Option (List (Nat × List UInt8))} {rest : List UInt8} {done : List (Nat × List UInt8)} {n : Nat} (h : OSt res rest done) (h4 : 4 ≤ rest.length) (hn : n = val ((rest.drop 2).take 2)) (hl : 4 + n ≤ rest.length) : OSt res (rest.drop (4 + n)) (done ++ [(val (rest.take 2), (rest.drop 4).take n)]) := by
  cases res with
  | none =>
    rcases (show BadO rest from h).inv with ⟨_, hs⟩ | ⟨k, _, hk, _, hb⟩
    · omega
    · have : k = n := by omega
      rw [← this]; exact hb
  | some ol =>
    obtain ⟨todo, ho, e⟩ := h
    rcases ho.inv with ⟨hr, _⟩ | ⟨k, ol2, _, hk, _, e2, hop⟩
    · rw [hr] at h4; simp at h4
    · have : k = n := by omega
      subst this
      exact ⟨ol2, hop, by rw [e, e2, List.append_assoc]; rfl⟩
theorem val2 (l : List UInt8) (i : Nat) (h : i + 1 < l.length) : val ((l.drop i).take 2) = 256 * (l[i]).toNat + (l[i + 1]).toNat := by
  have e : (l.drop i).take 2 = [l[i], l[i + 1]] := by
    rw [List.drop_eq_getElem_cons (by omega), List.drop_eq_getElem_cons (by omega)]
    rfl
  rw [e]
  show 256 * (256 * 0 + (l[i]).toNat) + (l[i + 1]).toNat = _
  omega
theorem RO.snoc {w w' : World} {m cd n DC : Nat} {LA : Option Addr} {lc : Nat} {DA : Option Addr} {done : List (Nat × List UInt8)} {dt : List UInt8} {vs : List Value} (h2 : ∀ i (h : i < done.length), ∃ A c, vs[2 * i]? = some (.int .i64 (done[i].1 : Int)) ∧ vs[2 * i + 1]? = some (.slice A done[i].2.length c) ∧ Rd w m A done[i].2 ∧ done[i].2.length ≤ c ∧ c < 2 ^ 63)
    (hvl : vs.length = done.length * 2) (ho : w'.ownsRow m 140 2 (.slice LA (done.length + 1) lc) (done.length + 1) (vs ++ [.int .i64 (cd : Int), .slice DA n DC])) (hb : Below m w w') (hr : Rd w m DA dt) (hn : n = dt.length) (hc : n ≤ DC ∧ DC < 2 ^ 63) :
    RO w' m (.slice LA (done.length + 1) lc) (done ++ [(cd, dt)]) := by
  refine ⟨_, by rw [List.length_append]; exact ho, fun i hi => ?_⟩
  rw [List.length_append] at hi
  by_cases hl : i < done.length
  · obtain ⟨A, c, e1, e2, hr, hc⟩ := h2 i hl
    rw [List.getElem_append_left hl]
    refine ⟨A, c, by rw [List.getElem?_append_left (by omega)]; exact e1, by rw [List.getElem?_append_left (by omega)]; exact e2, hr.below hb (Nat.le_refl _), hc⟩
  · have hi2 : i = done.length := by simp at hi; omega
    subst hi2
    have e : (done ++ [(cd, dt)])[done.length]'(by simp) = (cd, dt) := by simp
    rw [e]
    refine ⟨DA, DC, ?_, ?_, hr.below hb (Nat.le_refl _), by rw [← hn]; exact hc⟩
    · rw [List.getElem?_append_right (by omega), show 2 * done.length - vs.length = 0 by omega]; rfl
    · rw [List.getElem?_append_right (by omega), show 2 * done.length + 1 - vs.length = 1 by omega, hn]; rfl
theorem rd_off {w : World} {n b o : Nat} {l : List UInt8} (h : Rd w n (some ⟨b, o, none⟩) l) (k : Nat) : Rd w n (some ⟨b, o + k, none⟩) (l.drop k) := fun h0 => by
  rw [List.length_drop] at h0
  obtain ⟨b', o', e, hl, hc⟩ := h (by omega)
  cases e
  refine ⟨b, o + k, rfl, hl, fun j hj => ?_⟩
  rw [List.length_drop] at hj
  rw [Nat.add_assoc, hc (k + j) (by omega), List.getElem_drop]
theorem rd_sub {w : World} {n b o : Nat} {l : List UInt8} (h : Rd w n (some ⟨b, o, none⟩) l) (k m : Nat) : Rd w n (some ⟨b, o + k, none⟩) ((l.drop k).take m) := Rd.take (rd_off h k)
theorem two64 (a b : UInt8) (n : Nat) (h : n = 256 * a.toNat + b.toNat) : ∃ z : Nat, wrap64 (a.toNat : Int) = (a.toNat : Int) ∧ wrap64 (256 * (a.toNat : Int)) = (z : Int) ∧ wrap64 (b.toNat : Int) = (b.toNat : Int) ∧ wrap64 ((z : Int) + (b.toNat : Int)) = (n : Int) ∧ n < 65536 := by
  have h1 := a.toNat_lt
  have h2 := b.toNat_lt
  exact ⟨256 * a.toNat, by unfold wrap64; omega, by unfold wrap64; omega, by unfold wrap64; omega, by unfold wrap64; omega, by omega⟩
theorem i64w (x : Int) : IntKind.i64.wrap x = wrap64 x := by rw [IntKind.wrap_i64]; unfold wrap64; rfl
theorem four64 (n : Nat) (h : n < 65536) : wrap64 (4 + (n : Int)) = ((4 + n : Nat) : Int) := by unfold wrap64; omega
/-- What is handed back. -/
def ORes (w w' : World) (e : Ending) : Option (List (Nat × List UInt8)) → Prop
  | some ol => ∃ LA lc, e = .returned (.tuple #[.slice LA ol.length lc, .bool true]) ∧ ol.length ≤ lc ∧ RO w' w.heap.size (.slice LA ol.length lc) ol
  | none => e = .returned (.tuple #[.slice none 0 0, .bool false])
theorem roptions_any (A : Option Addr) (b : List UInt8) (c : Nat) (w : World) (h : Rd w w.heap.size A b) (hc : b.length ≤ c) (hcc : c < 2 ^ 63) (hl : b.length < 2 ^ 28) (res : Option (List (Nat × List UInt8))) (ho : OSt res b []) :
    Calls Try.prog 68 #[.slice A b.length c] w fun e w' => ORes w w' e res ∧ Below w.heap.size w w' := by
  have HR := Lib.hid h
  have HO := Lib.hid ho
  have HL := Lib.hid hl
  have HCC := Lib.hid (And.intro hc hcc)
  clear h hc hcc hl ho
  go_enter Try.func68, Try.ntmps68
  go_wp2_with fail
  go_loopw [0, 4, 5] (fun bv lv _ wr => ∃ (rest : List UInt8) (A : Option Addr) (c : Nat) (LA : Option Addr) (lc : Nat) (done : List (Nat × List UInt8)), bv = .slice A rest.length c ∧ lv = .slice LA done.length lc ∧ Hid (rest.length ≤ c ∧ c < 2 ^ 63) ∧ Hid (Rd wr w.heap.size A rest) ∧ Hid (RO wr w.heap.size (.slice LA done.length lc) done) ∧ Hid (Below w.heap.size w wr) ∧ Hid (OSt res rest done) ∧ Hid (done.length + rest.length < 2 ^ 28)) (fun bv _ _ _ => lenV bv)
  case atStart => exact ⟨b, A, c, none, 0, [], rfl, rfl, HCC, HR, Lib.hid RO.nil, Lib.hid (Below.refl _ _), HO, Lib.hid (by simpa using HL.out)⟩
  case round =>
    clear HR HO HL HCC
    obtain ⟨rest, A, c, LA, lc, done, rfl, rfl, HC, HR, HRO, BW, HST, HLN⟩ := hrel
    obtain ⟨N, hN⟩ : ∃ N, N = rest.length := ⟨_, rfl⟩
    obtain ⟨K, hK⟩ : ∃ K, K = done.length := ⟨_, rfl⟩
    have HN := Lib.hid hN
    have HK : Hid (K = done.length ∧ K < 2 ^ 28) := Lib.hid ⟨hK, by have := HLN.out; omega⟩
    rw [← hN, ← hK]
    have hNc : N ≤ c := by rw [hN]; exact HC.out.1
    have hc63 := HC.out.2
    by_cases h0 : N = 0
    · have hr0 : rest = [] := List.eq_nil_of_length_eq_zero (by omega)
      subst hr0
      have hres := HST.out.done
      have d1 : decide ((0 : Int) < (N : Int)) = false := by simp; omega
      have d1' : decide (0 < N) = false := by simp; omega
      have hlc : done.length ≤ lc := by obtain ⟨vs, ho, _⟩ := HRO.out; obtain ⟨_, _, e, h9, _⟩ := own_slG ho; cases e; exact h9
      have FIN := Lib.hid (And.intro hres (And.intro hlc (And.intro HRO.out BW.out)))
      clear h0 hN hK hres hNc hc63 hlc
      go_wp2_with fail
      go_ret2
      rw [FIN.out.1]
      exact ⟨⟨LA, lc, by rw [HK.out.1]; rfl, FIN.out.2.1, FIN.out.2.2.1⟩, FIN.out.2.2.2⟩
    · have d1 : decide ((0 : Int) < (N : Int)) = true := by simp; omega
      have d1' : decide (0 < N) = true := by simp; omega
      have HLEN : Hid (0 < rest.length) := Lib.hid (by omega)
      by_cases h4 : N < 4
      · have d2 : decide ((N : Int) < 4) = true := by simp; omega
        have d2' : decide (N < 4) = true := by simp; omega
        have HSH : Hid (rest.length < 4 ∨ rest.length < 4 + val ((rest.drop 2).take 2)) := Lib.hid (by omega)
        clear h0 hN hK hNc hc63 h4
        have he := HST.out.short (fun e => by have := HLEN.out; rw [e] at this; simp at this) HSH.out
        have FB := Lib.hid (And.intro he BW.out)
        clear he
        go_wp2_with fail
        go_ret2
        rw [FB.out.1]
        exact ⟨rfl, FB.out.2⟩
      · have d2 : decide ((N : Int) < 4) = false := by simp; omega
        have d2' : decide (N < 4) = false := by simp; omega
        obtain ⟨bb, oo, rfl, hbb, hcl⟩ := HR.out (by omega)
        obtain ⟨x0, hx0⟩ : ∃ x, x = rest[0]'(by omega) := ⟨_, rfl⟩
        obtain ⟨x1, hx1⟩ : ∃ x, x = rest[1]'(by omega) := ⟨_, rfl⟩
        obtain ⟨x2, hx2⟩ : ∃ x, x = rest[2]'(by omega) := ⟨_, rfl⟩
        obtain ⟨x3, hx3⟩ : ∃ x, x = rest[3]'(by omega) := ⟨_, rfl⟩
        have u0 := hcl 0 (by omega)
        have u1 := hcl 1 (by omega)
        have u2 := hcl 2 (by omega)
        have u3 := hcl 3 (by omega)
        rw [← hx0, Nat.add_zero] at u0
        rw [← hx1] at u1
        rw [← hx2] at u2
        rw [← hx3] at u3
        have lb : bb < wr.heap.size := Nat.lt_of_lt_of_le hbb BW.out.size
        obtain ⟨n, hn⟩ : ∃ n, n = val ((rest.drop 2).take 2) := ⟨_, rfl⟩
        have hn2 : n = 256 * x2.toNat + x3.toNat := by rw [hn, val2 rest 2 (by omega), hx2, hx3]
        obtain ⟨cd, hcd⟩ : ∃ cd, cd = val (rest.take 2) := ⟨_, rfl⟩
        have hcd2 : cd = 256 * x0.toNat + x1.toNat := by
          have := val2 rest 0 (by omega)
          rw [List.drop_zero] at this
          rw [hcd, this, hx0, hx1]
        obtain ⟨z1, p1⟩ := two64 x2 x3 n hn2
        obtain ⟨z2, p2⟩ := two64 x0 x1 cd hcd2
        have P1 := Lib.hid p1
        have P2 := Lib.hid p2
        obtain ⟨m4, hm4⟩ : ∃ m, m = 4 + n := ⟨_, rfl⟩
        have M4 : Hid (wrap64 (4 + (n : Int)) = (m4 : Int) ∧ m4 = 4 + n) := Lib.hid ⟨by rw [hm4]; exact four64 n p1.2.2.2.2, hm4⟩
        have HV := Lib.hid (And.intro hn hcd)
        have HCL := Lib.hid hcl
        have HBB := Lib.hid hbb
        have hN4 : 4 ≤ N := by omega
        clear hx0 hx1 hx2 hx3 hn hcd hn2 hcd2 h4 h0 hcl hbb p1 p2 hN hK hm4
        go_upto_region 5 with fail
        obtain ⟨f1, f2, f3, f4, f5⟩ := P1.out
        go_region
        clear f1 f2 f3 f4
        have b2 : Below wr.heap.size wr wr.drew := (by (repeat (first | exact Below.refl _ _ | assumption | refine Below.drew ?_ | refine bdrewN ?_ _ | refine Below.alloc ?_ (by first | omega | (simp <;> omega) | (simp only [World.size_alloc] <;> omega)) _ | refine below_setRow ?_ (by first | omega | (simp <;> omega)) _ | refine Below.setCell ?_ (by first | omega | (simp <;> omega)) _)))
        have HR2 : Hid (Rd wr.drew w.heap.size (some ⟨bb, oo, none⟩) rest) := Lib.hid (HR.out.below (b2.mono BW.out.size) (Nat.le_refl _))
        have B2 := Lib.hid (BW.out.trans (b2.mono BW.out.size))
        have HRO2 := Lib.hid (HRO.out.below b2 BW.out.size)
        have v0 : wr.drew.cell? ⟨bb, oo, none⟩ = some (B x0) := u0
        have v1 : wr.drew.cell? ⟨bb, oo + 1, none⟩ = some (B x1) := u1
        have lb2 : bb < wr.drew.heap.size := lb
        rw [P1.out.2.2.2.1]
        clear u0 u1 u2 u3 lb b2 HRO BW HR
        generalize wr.drew = wr2 at *
        by_cases hsh : N < m4
        · have d3 : decide ((N : Int) < (m4 : Int)) = true := by simp; omega
          have d3' : decide (N < m4) = true := by simp; omega
          have HSH : Hid (rest.length < 4 ∨ rest.length < 4 + val ((rest.drop 2).take 2)) := Lib.hid (by have := M4.out.2; have h2 := HN.out; rw [← HV.out.1]; omega)
          have d3a : decide ((N : Int) < 4 + (n : Int)) = true := by have := M4.out.2; simp; omega
          have d3b : decide (N < 4 + n) = true := by have := M4.out.2; simp; omega
          have m4e := M4.out.1
          clear hsh hNc hc63 v0 v1 lb2
          have he := HST.out.short (fun e => by have := HLEN.out; rw [e] at this; simp at this) HSH.out
          have FB := Lib.hid (And.intro he B2.out)
          clear he
          go_wp2_with fail
          go_ret2
          rw [FB.out.1]
          exact ⟨rfl, FB.out.2⟩
        · have d3 : decide ((N : Int) < (m4 : Int)) = false := by simp; omega
          have d3' : decide (N < m4) = false := by simp; omega
          have d3a : decide ((N : Int) < 4 + (n : Int)) = false := by have := M4.out.2; simp; omega
          have d3b : decide (N < 4 + n) = false := by have := M4.out.2; simp; omega
          have m4e := M4.out.1
          have HLL : Hid (4 + n ≤ N ∧ N = rest.length) := Lib.hid (by have := M4.out.2; have := HN.out; omega)
          obtain ⟨vs, hvs, hall⟩ := HRO2.out
          rw [← HK.out.1] at hvs
          have HVS := Lib.hid (And.intro hvs hall)
          have HS2 : Hid (OSt res (rest.drop (4 + n)) (done ++ [(cd, (rest.drop 4).take n)])) := Lib.hid (by have h1 := HLL.out; have := HST.out.next (n := n) (by omega) HV.out.1 (by omega); rw [← HV.out.2] at this; exact this)
          clear hvs hall hsh HRO2 HST
          go_upto_region 8 with fail
          clear d1 d1' d2 d2' d3 d3' d3a d3b m4e
          have e6 : wrap64 (4 + (n : Int)) = 4 + (n : Int) := by rw [M4.out.1, M4.out.2]; rfl
          have e7 : (4 + (n : Int)).toNat = 4 + n := rfl
          rw [← i64w] at e6
          have hHL := HLL.out.1
          have q2 : 0 < N := by omega
          have q3 : 1 < N := by omega
          have q3i : (1 : Int) < (N : Int) := by omega
          have q2i : (0 : Int) < (N : Int) := by omega
          have q5 : (0 : Int) ≤ 4 + (n : Int) := by omega
          have q6 : 4 + (n : Int) ≤ (c : Int) := by omega
          have q7 : (4 : Int) ≤ 4 + (n : Int) := by omega
          have q4 : 4 ≤ N := by omega
          by_cases hc4 : c = 4
          · obtain rfl : n = 0 := by omega
            subst hc4
            have e8 : IntKind.i64.wrap 4 = 4 := by decide
            have HN0 : Hid (rest.length = 4) := Lib.hid (by have h1 := HLL.out.2; omega)
            have HD1 : Hid (Rd wr2 w.heap.size (some ⟨bb, oo, none⟩) ((rest.drop 4).take 0)) := Lib.hid (by rw [List.take_zero]; exact Rd.nil)
            have HN1 : Hid (Rd wr2 w.heap.size (some ⟨bb, oo, none⟩) (rest.drop (4 + 0))) := Lib.hid (by rw [List.drop_of_length_le (by have := HN0.out; omega)]; exact Rd.nil)
            have B5 : Hid (Below wr2.heap.size wr2 (wr2.drew.alloc (.cells #[.int .i64 (cd : Int), .slice (some ⟨bb, oo, none⟩) 0 (0)] 140))) := Lib.hid ((Below.refl _ _).drew.alloc (Nat.le_refl _) _)
            have HO5 : Hid ((wr2.drew.alloc (.cells #[.int .i64 (cd : Int), .slice (some ⟨bb, oo, none⟩) 0 (0)] 140)).ownsRow w.heap.size 140 2 (.slice LA K lc) K vs) := Lib.hid (own_below HVS.out.1 B5.out)
            have HC5 : Hid (∀ j u, ([.int .i64 (cd : Int), .slice (some ⟨bb, oo, none⟩) 0 (0)] : List Value)[j]? = some u → (wr2.drew.alloc (.cells #[.int .i64 (cd : Int), .slice (some ⟨bb, oo, none⟩) 0 (0)] 140)).cell? ⟨wr2.heap.size, j, none⟩ = some u) := Lib.hid fun j u hu => by
              show (wr2.drew.alloc (.cells #[.int .i64 (cd : Int), .slice (some ⟨bb, oo, none⟩) 0 (0)] 140)).cell? ⟨wr2.drew.heap.size, j, none⟩ = some u
              rw [bk_cell (bk_alloc_at wr2.drew (.cells #[.int .i64 (cd : Int), .slice (some ⟨bb, oo, none⟩) 0 (0)] 140) _ rfl)]
              rw [List.getElem?_toArray]
              exact hu
            have HM5 : Hid (w.heap.size ≤ (wr2.drew.alloc (.cells #[.int .i64 (cd : Int), .slice (some ⟨bb, oo, none⟩) 0 (0)] 140)).heap.size) := Lib.hid (Nat.le_trans B2.out.size B5.out.size)
            have H1 : Hid (∀ u ∈ ([.int .i64 (cd : Int), .slice (some ⟨bb, oo, none⟩) 0 (0)] : List Value), u.oneCell' = true) := Lib.hid (by intro u hu; rcases List.mem_cons.1 hu with rfl | hu; rfl; have := List.mem_singleton.1 hu; subst this; rfl)
            have HK30 : Hid (K < 2 ^ 30) := Lib.hid (by have := HK.out.2; omega)
            obtain ⟨g1, g2, g3, g4, g5⟩ := P2.out
            have g4' : IntKind.i64.wrap ((z2 : Int) + (x1.toNat : Int)) = (cd : Int) := by rw [i64w]; exact g4
            rw [← i64w] at g1 g2 g3
            go_region_law (refine step_app1 appO rfl (.tmp 27) (.tmp 43) rfl w.heap.size (.slice LA K lc) K vs (by simp [Act.eval, Act.put]) HO5.out wr2.heap.size 1 (by simp [Act.eval, Act.put]) [.int .i64 (cd : Int), .slice (some ⟨bb, oo, none⟩) 0 (0)] rfl HC5.out H1.out HM5.out HK30.out ?_; intro A6 c6 w6 ho6 hg6 hc6 _; have HA6 := Lib.hid ho6; have HG6 := Lib.hid hg6; clear ho6 hg6)
            all_goals
              have b26 : Below w.heap.size wr2 w6 := (B5.out.mono B2.out.size).grown HG6.out (Nat.le_trans B2.out.size B5.out.size) (fun k hk => (HVS.out.1.lt k hk).1)
              have RO6 : Hid (RO w6 w.heap.size (.slice A6 (done ++ [(cd, (rest.drop 4).take 0)]).length c6) (done ++ [(cd, (rest.drop 4).take 0)])) := Lib.hid (by
                have ho := HA6.out
                rw [HK.out.1] at ho
                rw [show (done ++ [(cd, (rest.drop 4).take 0)]).length = done.length + 1 by simp]
                exact RO.snoc HVS.out.2 (by rw [HVS.out.1.1, HK.out.1]) ho b26 HD1.out (by rw [List.length_take, List.length_drop]; have := HLL.out; omega) ⟨(Nat.le_refl _), by have := HC.out.2; omega⟩)
              have BW6 := Lib.hid (B2.out.trans b26)
              have HN6 := Lib.hid (HN1.out.below b26 (Nat.le_refl _))
              have HDL : Hid ((rest.drop (4 + 0)).length = N - (4 + 0)) := Lib.hid (by rw [List.length_drop, HN.out])
              have HLQ : Hid ((rest.drop (4 + 0)).length = 0) := Lib.hid ((by rw [HDL.out]; have h1 := HN0.out; have h2 := HN.out; omega))
              have HC6 : Hid ((rest.drop (4 + 0)).length ≤ 0 ∧ 0 < 2 ^ 63) := Lib.hid ((by rw [HDL.out]; have h1 := HN0.out; have h2 := HN.out; omega))
              have HLN6 : Hid ((done ++ [(cd, (rest.drop 4).take 0)]).length + (rest.drop (4 + 0)).length < 2 ^ 28) := Lib.hid (by have h1 := HDL.out; have h2 := HLN.out; have h3 := HLL.out; rw [List.length_append]; simp only [List.length_cons, List.length_nil]; omega)
              have HD3 : Hid ((done ++ [(cd, (rest.drop 4).take 0)]).length = K + 1) := Lib.hid (by rw [List.length_append, HK.out.1]; rfl)
              clear b26 HA6 HG6 B5 HO5 HC5 HM5 H1 HK30 g1 g2 g3 g4 g4'
              skip
              go_wp2_with fail
              refine ⟨⟨rest.drop (4 + 0), some ⟨bb, oo, none⟩, 0, A6, c6, done ++ [(cd, (rest.drop 4).take 0)], (by rw [HLQ.out] <;> rfl), (by rw [HD3.out] <;> rfl), HC6, HN6, RO6, BW6, HS2, HLN6⟩, ?_⟩
              show 0 < N
              have := HLL.out.1
              omega
          · by_cases hc5 : c = 4 + n
            · have HN0 : Hid (rest.length = 4 + n) := Lib.hid (by have h1 := HLL.out.2; omega)
              have HCA : Hid (c - 4 = n ∧ c = 4 + n) := Lib.hid ⟨by omega, hc5⟩
              have q1 : ¬ (c < 4) := by omega
              clear hc5
              have HD1 : Hid (Rd wr2 w.heap.size (some ⟨bb, oo + 4, none⟩) ((rest.drop 4).take n)) := Lib.hid (rd_sub HR2.out 4 n)
              have HN1 : Hid (Rd wr2 w.heap.size (some ⟨bb, oo, none⟩) (rest.drop (4 + n))) := Lib.hid (by rw [List.drop_of_length_le (by have := HN0.out; omega)]; exact Rd.nil)
              have B5 : Hid (Below wr2.heap.size wr2 (wr2.drew.alloc (.cells #[.int .i64 (cd : Int), .slice (some ⟨bb, oo + 4, none⟩) n (c - 4)] 140))) := Lib.hid ((Below.refl _ _).drew.alloc (Nat.le_refl _) _)
              have HO5 : Hid ((wr2.drew.alloc (.cells #[.int .i64 (cd : Int), .slice (some ⟨bb, oo + 4, none⟩) n (c - 4)] 140)).ownsRow w.heap.size 140 2 (.slice LA K lc) K vs) := Lib.hid (own_below HVS.out.1 B5.out)
              have HC5 : Hid (∀ j u, ([.int .i64 (cd : Int), .slice (some ⟨bb, oo + 4, none⟩) n (c - 4)] : List Value)[j]? = some u → (wr2.drew.alloc (.cells #[.int .i64 (cd : Int), .slice (some ⟨bb, oo + 4, none⟩) n (c - 4)] 140)).cell? ⟨wr2.heap.size, j, none⟩ = some u) := Lib.hid fun j u hu => by
                show (wr2.drew.alloc (.cells #[.int .i64 (cd : Int), .slice (some ⟨bb, oo + 4, none⟩) n (c - 4)] 140)).cell? ⟨wr2.drew.heap.size, j, none⟩ = some u
                rw [bk_cell (bk_alloc_at wr2.drew (.cells #[.int .i64 (cd : Int), .slice (some ⟨bb, oo + 4, none⟩) n (c - 4)] 140) _ rfl)]
                rw [List.getElem?_toArray]
                exact hu
              have HM5 : Hid (w.heap.size ≤ (wr2.drew.alloc (.cells #[.int .i64 (cd : Int), .slice (some ⟨bb, oo + 4, none⟩) n (c - 4)] 140)).heap.size) := Lib.hid (Nat.le_trans B2.out.size B5.out.size)
              have H1 : Hid (∀ u ∈ ([.int .i64 (cd : Int), .slice (some ⟨bb, oo + 4, none⟩) n (c - 4)] : List Value), u.oneCell' = true) := Lib.hid (by intro u hu; rcases List.mem_cons.1 hu with rfl | hu; rfl; have := List.mem_singleton.1 hu; subst this; rfl)
              have HK30 : Hid (K < 2 ^ 30) := Lib.hid (by have := HK.out.2; omega)
              obtain ⟨g1, g2, g3, g4, g5⟩ := P2.out
              have g4' : IntKind.i64.wrap ((z2 : Int) + (x1.toNat : Int)) = (cd : Int) := by rw [i64w]; exact g4
              rw [← i64w] at g1 g2 g3
              go_region_law (refine step_app1 appO rfl (.tmp 27) (.tmp 43) rfl w.heap.size (.slice LA K lc) K vs (by simp [Act.eval, Act.put]) HO5.out wr2.heap.size 1 (by simp [Act.eval, Act.put]) [.int .i64 (cd : Int), .slice (some ⟨bb, oo + 4, none⟩) n (c - 4)] rfl HC5.out H1.out HM5.out HK30.out ?_; intro A6 c6 w6 ho6 hg6 hc6 _; have HA6 := Lib.hid ho6; have HG6 := Lib.hid hg6; clear ho6 hg6)
              all_goals
                have b26 : Below w.heap.size wr2 w6 := (B5.out.mono B2.out.size).grown HG6.out (Nat.le_trans B2.out.size B5.out.size) (fun k hk => (HVS.out.1.lt k hk).1)
                have RO6 : Hid (RO w6 w.heap.size (.slice A6 (done ++ [(cd, (rest.drop 4).take n)]).length c6) (done ++ [(cd, (rest.drop 4).take n)])) := Lib.hid (by
                  have ho := HA6.out
                  rw [HK.out.1] at ho
                  rw [show (done ++ [(cd, (rest.drop 4).take n)]).length = done.length + 1 by simp]
                  exact RO.snoc HVS.out.2 (by rw [HVS.out.1.1, HK.out.1]) ho b26 HD1.out (by rw [List.length_take, List.length_drop]; have := HLL.out; omega) ⟨(by have := HCA.out.1; omega), by have := HC.out.2; omega⟩)
                have BW6 := Lib.hid (B2.out.trans b26)
                have HN6 := Lib.hid (HN1.out.below b26 (Nat.le_refl _))
                have HDL : Hid ((rest.drop (4 + n)).length = N - (4 + n)) := Lib.hid (by rw [List.length_drop, HN.out])
                have HLQ : Hid ((rest.drop (4 + n)).length = N - (4 + n)) := Lib.hid (HDL.out)
                have HC6 : Hid ((rest.drop (4 + n)).length ≤ 0 ∧ 0 < 2 ^ 63) := Lib.hid ((by rw [HDL.out]; have h1 := HN0.out; have h2 := HN.out; omega))
                have HLN6 : Hid ((done ++ [(cd, (rest.drop 4).take n)]).length + (rest.drop (4 + n)).length < 2 ^ 28) := Lib.hid (by have h1 := HDL.out; have h2 := HLN.out; have h3 := HLL.out; rw [List.length_append]; simp only [List.length_cons, List.length_nil]; omega)
                have HD3 : Hid ((done ++ [(cd, (rest.drop 4).take n)]).length = K + 1) := Lib.hid (by rw [List.length_append, HK.out.1]; rfl)
                clear b26 HA6 HG6 B5 HO5 HC5 HM5 H1 HK30 g1 g2 g3 g4 g4'
                (have hc5 := HCA.out.2)
                go_wp2_with fail
                refine ⟨⟨rest.drop (4 + n), some ⟨bb, oo, none⟩, 0, A6, c6, done ++ [(cd, (rest.drop 4).take n)], (by rw [HLQ.out] <;> rfl), (by rw [HD3.out] <;> rfl), HC6, HN6, RO6, BW6, HS2, HLN6⟩, ?_⟩
                show N - (4 + n) < N
                have := HLL.out.1
                omega
            · have q1 : ¬ (c < 4) := by omega
              have HD1 : Hid (Rd wr2 w.heap.size (some ⟨bb, oo + 4, none⟩) ((rest.drop 4).take n)) := Lib.hid (rd_sub HR2.out 4 n)
              have HN1 : Hid (Rd wr2 w.heap.size (some ⟨bb, oo + (4 + n), none⟩) (rest.drop (4 + n))) := Lib.hid (rd_off HR2.out (4 + n))
              have B5 : Hid (Below wr2.heap.size wr2 (wr2.drew.alloc (.cells #[.int .i64 (cd : Int), .slice (some ⟨bb, oo + 4, none⟩) n (c - 4)] 140))) := Lib.hid ((Below.refl _ _).drew.alloc (Nat.le_refl _) _)
              have HO5 : Hid ((wr2.drew.alloc (.cells #[.int .i64 (cd : Int), .slice (some ⟨bb, oo + 4, none⟩) n (c - 4)] 140)).ownsRow w.heap.size 140 2 (.slice LA K lc) K vs) := Lib.hid (own_below HVS.out.1 B5.out)
              have HC5 : Hid (∀ j u, ([.int .i64 (cd : Int), .slice (some ⟨bb, oo + 4, none⟩) n (c - 4)] : List Value)[j]? = some u → (wr2.drew.alloc (.cells #[.int .i64 (cd : Int), .slice (some ⟨bb, oo + 4, none⟩) n (c - 4)] 140)).cell? ⟨wr2.heap.size, j, none⟩ = some u) := Lib.hid fun j u hu => by
                show (wr2.drew.alloc (.cells #[.int .i64 (cd : Int), .slice (some ⟨bb, oo + 4, none⟩) n (c - 4)] 140)).cell? ⟨wr2.drew.heap.size, j, none⟩ = some u
                rw [bk_cell (bk_alloc_at wr2.drew (.cells #[.int .i64 (cd : Int), .slice (some ⟨bb, oo + 4, none⟩) n (c - 4)] 140) _ rfl)]
                rw [List.getElem?_toArray]
                exact hu
              have HM5 : Hid (w.heap.size ≤ (wr2.drew.alloc (.cells #[.int .i64 (cd : Int), .slice (some ⟨bb, oo + 4, none⟩) n (c - 4)] 140)).heap.size) := Lib.hid (Nat.le_trans B2.out.size B5.out.size)
              have H1 : Hid (∀ u ∈ ([.int .i64 (cd : Int), .slice (some ⟨bb, oo + 4, none⟩) n (c - 4)] : List Value), u.oneCell' = true) := Lib.hid (by intro u hu; rcases List.mem_cons.1 hu with rfl | hu; rfl; have := List.mem_singleton.1 hu; subst this; rfl)
              have HK30 : Hid (K < 2 ^ 30) := Lib.hid (by have := HK.out.2; omega)
              obtain ⟨g1, g2, g3, g4, g5⟩ := P2.out
              have g4' : IntKind.i64.wrap ((z2 : Int) + (x1.toNat : Int)) = (cd : Int) := by rw [i64w]; exact g4
              rw [← i64w] at g1 g2 g3
              go_region_law (refine step_app1 appO rfl (.tmp 27) (.tmp 43) rfl w.heap.size (.slice LA K lc) K vs (by simp [Act.eval, Act.put]) HO5.out wr2.heap.size 1 (by simp [Act.eval, Act.put]) [.int .i64 (cd : Int), .slice (some ⟨bb, oo + 4, none⟩) n (c - 4)] rfl HC5.out H1.out HM5.out HK30.out ?_; intro A6 c6 w6 ho6 hg6 hc6 _; have HA6 := Lib.hid ho6; have HG6 := Lib.hid hg6; clear ho6 hg6)
              all_goals
                have b26 : Below w.heap.size wr2 w6 := (B5.out.mono B2.out.size).grown HG6.out (Nat.le_trans B2.out.size B5.out.size) (fun k hk => (HVS.out.1.lt k hk).1)
                have RO6 : Hid (RO w6 w.heap.size (.slice A6 (done ++ [(cd, (rest.drop 4).take n)]).length c6) (done ++ [(cd, (rest.drop 4).take n)])) := Lib.hid (by
                  have ho := HA6.out
                  rw [HK.out.1] at ho
                  rw [show (done ++ [(cd, (rest.drop 4).take n)]).length = done.length + 1 by simp]
                  exact RO.snoc HVS.out.2 (by rw [HVS.out.1.1, HK.out.1]) ho b26 HD1.out (by rw [List.length_take, List.length_drop]; have := HLL.out; omega) ⟨(by have h1 := HLL.out; have h2 := HC.out; omega), by have := HC.out.2; omega⟩)
                have BW6 := Lib.hid (B2.out.trans b26)
                have HN6 := Lib.hid (HN1.out.below b26 (Nat.le_refl _))
                have HDL : Hid ((rest.drop (4 + n)).length = N - (4 + n)) := Lib.hid (by rw [List.length_drop, HN.out])
                have HLQ : Hid ((rest.drop (4 + n)).length = N - (4 + n)) := Lib.hid (HDL.out)
                have HC6 : Hid ((rest.drop (4 + n)).length ≤ c - (4 + n) ∧ c - (4 + n) < 2 ^ 63) := Lib.hid ((by have h1 := HDL.out; have h2 := HC.out; have h3 := HLL.out; omega))
                have HLN6 : Hid ((done ++ [(cd, (rest.drop 4).take n)]).length + (rest.drop (4 + n)).length < 2 ^ 28) := Lib.hid (by have h1 := HDL.out; have h2 := HLN.out; have h3 := HLL.out; rw [List.length_append]; simp only [List.length_cons, List.length_nil]; omega)
                have HD3 : Hid ((done ++ [(cd, (rest.drop 4).take n)]).length = K + 1) := Lib.hid (by rw [List.length_append, HK.out.1]; rfl)
                clear b26 HA6 HG6 B5 HO5 HC5 HM5 H1 HK30 g1 g2 g3 g4 g4'
                skip
                go_wp2_with fail
                refine ⟨⟨rest.drop (4 + n), some ⟨bb, oo + (4 + n), none⟩, c - (4 + n), A6, c6, done ++ [(cd, (rest.drop 4).take n)], (by rw [HLQ.out] <;> rfl), (by rw [HD3.out] <;> rfl), HC6, HN6, RO6, BW6, HS2, HLN6⟩, ?_⟩
                show N - (4 + n) < N
                have := HLL.out.1
                omega
end Go.Proofs.Ytfldoihindbdmaa

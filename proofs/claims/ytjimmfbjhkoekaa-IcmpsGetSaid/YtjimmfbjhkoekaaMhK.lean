import Derived.Test.YtjimmfbjhkoekaaMhJ
import Derived.Test.YtjimmfbjhkoekaaMhB
import Derived.Test.YtjimmfbjhkoekaaMgL
/- Icmps, the document: options that bytes hold. -/
namespace Go.Proofs.Ytjimmfbjhkoekaa
open Go.RowKit
set_option maxRecDepth 100000
set_option maxHeartbeats 2000000
theorem og_case (L : List UInt8) (q k : Nat) (hq : q < L.length) : (L.length - q < 2 ∧ optsG k (L.drop q) = none) ∨
    ∃ (x : UInt8) (h1 : q + 1 < L.length), L[q + 1] = x ∧ ((x.toNat = 0 ∧ optsG k (L.drop q) = none) ∨ (0 < x.toNat ∧ L.length - q < 8 * x.toNat ∧ optsG k (L.drop q) = none) ∨ (0 < x.toNat ∧ q + 8 * x.toNat ≤ L.length ∧ k = 0 ∧ optsG k (L.drop q) = none) ∨
      (0 < x.toNat ∧ q + 8 * x.toNat ≤ L.length ∧ ∃ k', k = k' + 1 ∧ optsG k (L.drop q) = (optsG k' (L.drop (q + 8 * x.toNat))).map fun l => (L[q]'hq, (L.drop (q + 2)).take (8 * x.toNat - 2)) :: l)) := by
  have d1 : L.drop q = L[q] :: L.drop (q + 1) := List.drop_eq_getElem_cons hq
  have dl : (L.drop q).length = L.length - q := List.length_drop
  by_cases h1 : q + 1 < L.length
  · right
    have d2 : L.drop (q + 1) = L[q + 1] :: L.drop (q + 1 + 1) := List.drop_eq_getElem_cons h1
    obtain ⟨x, hx⟩ : ∃ x, x = L[q + 1] := ⟨_, rfl⟩
    refine ⟨x, h1, hx.symm, ?_⟩
    cases k with
    | zero =>
      have e0 : optsG 0 (L.drop q) = none := by rw [d1]; rfl
      by_cases h0 : x.toNat = 0
      · exact .inl ⟨h0, e0⟩
      · by_cases h2 : L.length - q < 8 * x.toNat
        · exact .inr (.inl ⟨by omega, h2, e0⟩)
        · exact .inr (.inr (.inl ⟨by omega, by omega, rfl, e0⟩))
    | succ k =>
      have ho : optsG (k + 1) (L.drop q) = if (L.drop q).length < 2 ∨ x = 0 ∨ (L.drop q).length < 8 * x.toNat then none else (optsG k ((L.drop q).drop (8 * x.toNat))).map fun l => (L[q], ((L.drop q).take (8 * x.toNat)).drop 2) :: l := by
        rw [d1, d2, ← hx]; rfl
      rw [dl] at ho
      by_cases h0 : x.toNat = 0
      · left
        refine ⟨h0, ?_⟩
        rw [ho, if_pos (.inr (.inl (UInt8.toNat_inj.1 h0)))]
      · by_cases h2 : L.length - q < 8 * x.toNat
        · right; left
          exact ⟨by omega, h2, by rw [ho, if_pos (.inr (.inr h2))]⟩
        · right; right; right
          refine ⟨by omega, by omega, k, rfl, ?_⟩
          rw [ho, if_neg (by
            intro h
            rcases h with h | h | h
            · omega
            · exact h0 (by rw [h]; rfl)
            · exact h2 h)]
          rw [List.drop_drop, List.drop_take, List.drop_drop]
  · left
    refine ⟨by omega, ?_⟩
    cases k with
    | zero => rw [d1]; rfl
    | succ k =>
      have : L.drop (q + 1) = [] := List.drop_of_length_le (by omega)
      rw [d1, this]
      rfl
def slenR : Value → Nat
  | .slice _ n _ => n
  | _ => 0
/-- What it hands back. -/
def RgO (L : List UInt8) (n : Nat) (e : Ending) (w' : World) : Prop :=
  match optsG 64 L with
  | none => e = .returned (.tuple #[.slice none 0 0, .int .i64 4])
  | some os => ∃ A c ol, e = .returned (.tuple #[.slice A ol.length c, .int .i64 0]) ∧ ol.map Ov.pl = os ∧ ol.length ≤ 64 ∧ OO w' n A c ol
/-- The loop's. -/
structure RGt (w wr : World) (L : List UInt8) (q R cq k c : Nat) (Aq A : Option Addr) (ol : List Ov) : Prop where
  ql : q ≤ L.length
  hR : R = L.length - q
  rc : R ≤ cq
  rd : Rd wr w.heap.size Aq (L.drop q)
  nil : Aq = none → R = 0 ∧ cq = 0
  hk : k = ol.length
  k64 : k ≤ 64
  oo : OO wr w.heap.size A c ol
  og : optsG 64 L = (optsG (64 - k) (L.drop q)).map (ol.map Ov.pl ++ ·)
  bel : Below w.heap.size w wr
theorem RGt.bad {w wr : World} {L : List UInt8} {q R cq k c : Nat} {Aq A : Option Addr} {ol : List Ov} (h : RGt w wr L q R cq k c Aq A ol) (e : optsG (64 - k) (L.drop q) = none) : RgO L w.heap.size (.returned (.tuple #[.slice none 0 0, .int .i64 4])) wr ∧ Below w.heap.size w wr := by
  refine ⟨?_, h.bel⟩
  have := h.og
  rw [e] at this
  unfold RgO
  rw [this]
  rfl
theorem RGt.good {w wr : World} {L : List UInt8} {q cq k c : Nat} {Aq A : Option Addr} {ol : List Ov} (h : RGt w wr L q 0 cq k c Aq A ol) : RgO L w.heap.size (.returned (.tuple #[.slice A k c, .int .i64 0])) wr ∧ Below w.heap.size w wr := by
  refine ⟨?_, h.bel⟩
  have h0 := h.og
  have hk := h.hk
  subst hk
  have : L.drop q = [] := List.drop_of_length_le (by have := h.hR; omega)
  rw [this] at h0
  have e : optsG 64 L = some (ol.map Ov.pl) := by
    rw [h0]
    cases hh : 64 - ol.length <;> simp [optsG]
  unfold RgO
  rw [e]
  exact ⟨A, c, ol, rfl, rfl, h.k64, h.oo⟩
theorem RGt.more {w wr wb w' : World} {L : List UInt8} {q R cq k c c2 ci k' m : Nat} {Aq A A2 Ai : Option Addr} {ol : List Ov} {x : UInt8} {D : List UInt8} (h : RGt w wr L q R cq k c Aq A ol) (hk : k < 64) (hm : q + m ≤ L.length) (hk' : 64 - k = k' + 1)
    (hg2 : optsG (64 - k) (L.drop q) = (optsG k' (L.drop (q + m))).map fun l => (x, D) :: l) (Aq' : Option Addr) (cq' : Nat) (hcq : R - m ≤ cq') (hn' : Aq' = none → R - m = 0 ∧ cq' = 0) (hrd : Rd wr w.heap.size Aq' (L.drop (q + m)))
    (hb : Below wr.heap.size wr wb) (hown : Own wb wr.heap.size (.slice Ai D.length ci) D)
    (hr : w'.ownsRow w.heap.size 97 2 (.slice A2 (k + 1) c2) (k + 1) (ovF ol ++ [B x, .slice Ai D.length ci])) (hg : wb.grownBy w' (Value.slice A k c).ownBlock) (ho : (Value.slice A2 (k + 1) c2).ownBlock = (Value.slice A k c).ownBlock ∨ (Value.slice A2 (k + 1) c2).ownBlock = some wb.heap.size) :
    RGt w w' L (q + m) (R - m) cq' (k + 1) c2 Aq' A2 (ol ++ [⟨x, Ai, D, ci⟩]) := by
  have hkk := h.hk
  subst hkk
  have hsz := h.bel.size
  have hov := hown.ov x
  have t : Tn (fun j => (Value.slice A ol.length c).ownBlock = some j) wb w' := Tn.grown hg fun j e => e
  have lo : ∀ j, (Value.slice A ol.length c).ownBlock = some j → w.heap.size ≤ j := fun j e => (World.ownsRow.lt h.oo.row j e).1
  have bw : Below w.heap.size wr w' := (hb.mono hsz).trans (t.below lo (Nat.le_trans hsz hb.size))
  refine ⟨hm, by have := h.hR; omega, hcq, hrd.below bw (Nat.le_refl _), hn', by simp, by omega, ?_, ?_, h.bel.trans bw⟩
  · exact h.oo.snoc hb hov.1 hov.2 hsz hr hg ho
  · rw [h.og, hg2, show 64 - (ol.length + 1) = k' by omega, Option.map_map]
    congr 1
    funext l
    simp [Ov.pl]
theorem rget10_any (A0 : Option Addr) (L : List UInt8) (c0 : Nat) (w : World) (h : Rd w w.heap.size A0 L) (hA : A0 = none → L = [] ∧ c0 = 0) (hc : L.length ≤ c0) (hl : L.length < 2 ^ 32) :
    Calls Try.prog 71 #[.slice A0 L.length c0] w fun e w' => RgO L w.heap.size e w' ∧ Below w.heap.size w w' := by
  have H0 : Hid (RGt w w L 0 L.length c0 0 0 A0 none []) := Lib.hid ⟨by omega, by omega, hc, by simpa using h, (fun e => by rw [(hA e).1, (hA e).2]; exact ⟨rfl, rfl⟩), rfl, by omega, OO.nil _ _, by simp, Below.refl _ _⟩
  obtain ⟨N, hN⟩ : ∃ N, N = L.length := ⟨_, rfl⟩
  have HL := Lib.hid (And.intro hN hl)
  rw [← hN] at H0 ⊢
  clear h hA hc hl hN
  go_enter Try.func71, Try.ntmps71
  go_wp2_with fail
  go_loopw [0, 4] (fun v0 v4 wr => ∃ (q R cq k c : Nat) (Aq A : Option Addr) (ol : List Ov), v0 = .slice Aq R cq ∧ v4 = .slice A k c ∧ Hid (RGt w wr L q R cq k c Aq A ol)) (fun v0 _ _ => slenR v0)
  case atStart => exact ⟨0, N, c0, 0, 0, A0, none, [], rfl, rfl, H0⟩
  case round =>
    clear H0
    obtain ⟨q, R, cq, k, c, Aq, A, ol, rfl, rfl, HT⟩ := hrel
    have k64 := HT.out.k64
    have hrc := HT.out.rc
    have hRl : R < 2 ^ 32 := by have h1 := HT.out.hR; have h2 := HL.out.2; omega
    by_cases hlt : 0 < R
    · have d1 : decide ((R : Int) > 0) = true := by simp; omega
      have d1' : decide ((0 : Int) < (R : Int)) = true := by simp; omega
      have hql : q < L.length := by have h1 := HT.out.hR; omega
      rcases og_case L q (64 - k) hql with ⟨h2, hg⟩ | ⟨x, h1, hx, hg⟩
      · have h2' : R < 2 := by have h1 := HT.out.hR; omega
        have d2 : decide ((R : Int) < 2) = true := by simp; omega
        have FX := Lib.hid (HT.out.bad hg)
        clear hg h2 HT
        go_wp2_with fail
        go_ret2
        exact FX.out
      · have hR1 : 1 < R := by have h3 := HT.out.hR; omega
        have d2 : decide ((R : Int) < 2) = false := by simp; omega
        obtain ⟨b, o, rfl, hbl, hcs⟩ := HT.out.rd (by rw [List.length_drop]; omega)
        have e1 := hcs 1 (by rw [List.length_drop]; omega)
        rw [List.getElem_drop, hx] at e1
        have e0 := hcs 0 (by rw [List.length_drop]; omega)
        rw [List.getElem_drop] at e0
        obtain ⟨X, hX⟩ : ∃ X, X = x.toNat := ⟨_, rfl⟩
        have hX8 : X < 256 := by rw [hX]; exact x.toNat_lt
        have e1' : wr.cell? ⟨b, o + 1, none⟩ = some (.int .u8 (X : Int)) := by rw [hX]; exact e1
        rw [← hX] at hg
        have HX := Lib.hid hX
        clear e1 hx hX
        rcases hg with ⟨h0, hg⟩ | ⟨h0, h2, hg⟩ | ⟨h0, h2, h3, hg⟩ | ⟨h0, h2, k', h3, hg⟩
        · have FX := Lib.hid (HT.out.bad hg)
          subst h0
          clear hg HT e0 hcs
          go_wp2_with fail
          go_ret2
          exact FX.out
        · have FX := Lib.hid (HT.out.bad hg)
          have h2' : R < 8 * X := by have h1 := HT.out.hR; omega
          have t0 : ((X : Int) == 0) = false := by simp; omega
          have t0' : decide ((X : Int) = 0) = false := by simp; omega
          have t1 : decide ((R : Int) < 8 * (X : Int)) = true := by simp; omega
          clear hg HT e0 hcs h2
          go_wp2_with fail
          go_ret2
          exact FX.out
        · have FX := Lib.hid (HT.out.bad hg)
          have h2' : ¬ R < 8 * X := by have h1 := HT.out.hR; omega
          have t0 : ((X : Int) == 0) = false := by simp; omega
          have t0' : decide ((X : Int) = 0) = false := by simp; omega
          have t1 : decide ((R : Int) < 8 * (X : Int)) = false := by simp; omega
          have t2 : decide ((k : Int) ≥ 64) = true := by simp; omega
          have t2' : decide ((64 : Int) ≤ (k : Int)) = true := by simp; omega
          clear hg HT e0 hcs h2
          go_wp2_with fail
          go_ret2
          exact FX.out
        · obtain ⟨M, hM⟩ : ∃ M, M = 8 * X := ⟨_, rfl⟩
          have hM8 : 8 * (X : Int) = (M : Int) := by omega
          rw [← hM] at h2 hg
          have hMR : M ≤ R := by have h1 := HT.out.hR; omega
          have hM8' : 8 ≤ M := by omega
          have hMc : M ≤ cq := by omega
          have hk64 : k < 64 := by omega
          have t0 : ((X : Int) == 0) = false := by simp; omega
          have t0' : decide ((X : Int) = 0) = false := by simp; omega
          have t1 : decide ((R : Int) < (M : Int)) = false := by simp; omega
          have t2 : decide ((k : Int) ≥ 64) = false := by simp; omega
          have t2' : decide ((64 : Int) ≤ (k : Int)) = false := by simp; omega
          obtain ⟨D, hD⟩ : ∃ D, D = (L.drop (q + 2)).take (M - 2) := ⟨_, rfl⟩
          have hDl : D.length = M - 2 := by rw [hD, List.length_take, List.length_drop]; omega
          obtain ⟨z, hz⟩ : ∃ z, z = L[q]'hql := ⟨_, rfl⟩
          rw [← hD, ← hz] at hg
          have e0' : wr.cell? ⟨b, o, none⟩ = some (B z) := by rw [hz]; exact e0
          have rd2 : ∀ m, m ≤ R → Rd wr w.heap.size (some ⟨b, o + m, none⟩) (L.drop (q + m)) := fun m hm h0 => by
            have hh := HT.out.hR
            refine ⟨b, o + m, rfl, hbl, fun j hj => ?_⟩
            rw [List.length_drop] at hj
            have := hcs (m + j) (by rw [List.length_drop]; omega)
            rw [List.getElem_drop] at this
            rw [List.getElem_drop]
            rw [show o + m + j = o + (m + j) by omega, this]
            congr 3
            omega
          have HRD : Hid (Rd wr.drew wr.drew.heap.size (some ⟨b, o + 2, none⟩) D) := Lib.hid (by
            rw [hD]
            exact Rd.mono (Rd.tk (rd2 2 (by omega)) _) HT.out.bel.size)
          have HR2 := Lib.hid (rd2 M hMR)
          have HG := Lib.hid (And.intro hg (And.intro h2 h3))
          have HDL := Lib.hid hDl
          have HRL : Hid (R = L.length - q) := Lib.hid HT.out.hR
          have ON : Hid (Own wr.drew wr.heap.size (.slice none 0 0) []) := Lib.hid (.inl ⟨rfl, rfl⟩)
          have HLB : Hid (([] : List UInt8).length + D.length < 2 ^ 46) := Lib.hid (by rw [hDl]; simp only [List.length_nil]; omega)
          have BD : Hid (Below wr.heap.size wr wr.drew) := Lib.hid (by (repeat (first | exact Below.refl _ _ | assumption | refine Below.drew ?_ | refine bdrewN ?_ _ | refine Below.alloc ?_ (by first | omega | (simp <;> omega) | (simp only [World.size_alloc] <;> omega)) _ | refine below_setRow ?_ (by first | omega | (simp <;> omega)) _ | refine Below.setCell ?_ (by first | omega | (simp <;> omega)) _)))
          have hlb : b < wr.heap.size := Nat.lt_of_lt_of_le hbl HT.out.bel.size
          have hlb' : b < wr.drew.heap.size := hlb
          have e0d : wr.drew.cell? ⟨b, o, none⟩ = some (B z) := e0'
          have FA : Hid (∀ (A1 : Option Addr) (N1 c1 : Nat) (w1 : World), Own w1 wr.heap.size (.slice A1 N1 c1) ([] ++ D) → wr.drew.grownBy w1 (Value.slice none 0 0).ownBlock → (w1.cell? ⟨b, o, none⟩ = some (B z) ∧ b < w1.heap.size) ∧ (N1 = D.length ∧
              (w1.alloc (.cells #[B z, .slice A1 N1 c1] 97)).ownsRow w.heap.size 97 2 (.slice A k c) k (ovF ol)) ∧ (∀ j u, ([B z, .slice A1 N1 c1] : List Value)[j]? = some u → (w1.alloc (.cells #[B z, .slice A1 N1 c1] 97)).cell? ⟨w1.heap.size, j, none⟩ = some u) ∧ (∀ u ∈ ([B z, .slice A1 N1 c1] : List Value), u.oneCell' = true) ∧ (w.heap.size ≤ (w1.alloc (.cells #[B z, .slice A1 N1 c1] 97)).heap.size) ∧ Own w1 wr.heap.size (.slice A1 N1 c1) D ∧ Below wr.heap.size wr w1) := Lib.hid fun A1 N1 c1 w1 r1 r2 => by
            rw [List.nil_append] at r1
            have t : Tn (fun _ => False) wr.drew w1 := Tn.grown r2 fun j e => by cases e
            have b1 : Below wr.heap.size wr w1 := BD.out.trans ((t.below (n := wr.heap.size) (fun _ e => e.elim) BD.out.size))
            have b2 : Below w1.heap.size w1 (w1.alloc (.cells #[B z, .slice A1 N1 c1] 97)) := (by (repeat (first | exact Below.refl _ _ | assumption | refine Below.drew ?_ | refine bdrewN ?_ _ | refine Below.alloc ?_ (by first | omega | (simp <;> omega) | (simp only [World.size_alloc] <;> omega)) _ | refine below_setRow ?_ (by first | omega | (simp <;> omega)) _ | refine Below.setCell ?_ (by first | omega | (simp <;> omega)) _)))
            have hN1 : N1 = D.length := by obtain ⟨A', c', e, _⟩ := r1.sl; cases e; rfl
            refine ⟨⟨(t.cell hlb' (fun e => e) o).trans e0d, Nat.lt_of_lt_of_le hlb' t.size⟩, ⟨hN1, ?_⟩, fun j u hu => ?_, fun u hu => ?_, ?_, r1, b1⟩
            · have hk := HT.out.hk
              subst hk
              exact ((HT.out.oo.below b1).below b2).row
            · rw [bk_cell (bk_alloc_at w1 (.cells #[B z, .slice A1 N1 c1] 97) _ rfl), List.getElem?_toArray]
              exact hu
            · rcases List.mem_cons.1 hu with rfl | hu
              · rfl
              · have := List.mem_singleton.1 hu; subst this; rfl
            · exact Nat.le_trans HT.out.bel.size (Nat.le_trans b1.size b2.size)
          have HK30 : Hid (k < 2 ^ 30) := Lib.hid (by omega)
          have hcq2 : ¬ cq = 2 := by omega
          have hcq2' : ¬ 2 = cq := by omega
          have h2M : 2 ≤ M := by omega
          have h2Mi : (2 : Int) ≤ (M : Int) := by omega
          clear hg h2 h3 hcs rd2 e0 e0' hD hDl hz hM
          go_upto_region 6 with fail
          go_region_law (first
            | (refine step_app rfl _ _ rfl wr.heap.size (.slice none 0 0) [] D _ rfl ON.out (some ⟨b, o + 2, none⟩) _ rfl HDL.out.symm HRD.out (fun e => by cases e) BD.out.size HLB.out ?_; intro A1 N1 c1 w1 r1 r2 r3; have Q := Lib.hid (FA.out A1 N1 c1 w1 r1 r2); obtain ⟨e0d', hlb1⟩ := (FA.out A1 N1 c1 w1 r1 r2).1; clear r1 r2 r3)
            | (refine step_app1 appO rfl (.tmp 38) (.tmp 47) rfl w.heap.size (.slice A k c) k (ovF ol) (by simp [Act.eval]) Q.out.2.1.2 w1.heap.size 1 (by simp [Act.eval]) [B z, .slice A1 N1 c1] rfl Q.out.2.2.1 Q.out.2.2.2.1 Q.out.2.2.2.2.1 HK30.out ?_; intro A6 c6 w6 ho6 hg6 hc6 hq6; have HO6 := Lib.hid (And.intro ho6 (And.intro hg6 hq6)); clear ho6 hg6 hc6 hq6))
          all_goals
            have HT6 : Hid (∀ Aq' cq', R - M ≤ cq' → (Aq' = none → R - M = 0 ∧ cq' = 0) → Rd wr w.heap.size Aq' (L.drop (q + M)) → RGt w w6 L (q + M) (R - M) cq' (k + 1) c6 Aq' A6 (ol ++ [⟨z, A1, D, c1⟩])) := Lib.hid fun Aq' cq' x1 x2 x3 => by
              have hN1 := Q.out.2.1.1
              subst hN1
              have hb2 : Below w1.heap.size w1 (w1.alloc (.cells #[B z, .slice A1 D.length c1] 97)) := (by (repeat (first | exact Below.refl _ _ | assumption | refine Below.drew ?_ | refine bdrewN ?_ _ | refine Below.alloc ?_ (by first | omega | (simp <;> omega) | (simp only [World.size_alloc] <;> omega)) _ | refine below_setRow ?_ (by first | omega | (simp <;> omega)) _ | refine Below.setCell ?_ (by first | omega | (simp <;> omega)) _)))
              exact HT.out.more hk64 HG.out.2.1 (by have := HG.out.2.2; omega) HG.out.1 Aq' cq' x1 x2 x3 (Q.out.2.2.2.2.2.2.trans (hb2.mono Q.out.2.2.2.2.2.2.size)) (Own.turn Q.out.2.2.2.2.2.1 fun j hj => (Tn.of (F := fun _ => False) hb2).old j (Own.lt Q.out.2.2.2.2.2.1 hj).2 (fun e => e)) HO6.out.1 HO6.out.2.1 HO6.out.2.2
            clear HO6 Q FA ON HRD HT BD HG HDL e0d' e0d hlb'
            have hbb := HR2.out
            by_cases hcm : cq = M
            · have F7 : Hid (RGt w w6 L (q + M) (R - M) 0 (k + 1) c6 (some ⟨b, o, none⟩) A6 (ol ++ [⟨z, A1, D, c1⟩])) := Lib.hid (HT6.out _ _ (by omega) (fun e => by cases e) (fun h0 => by rw [List.length_drop] at h0; have := HRL.out; omega))
              clear HT6 HR2 hbb
              go_wp2_with fail
              go_roundw
              case rel => exact ⟨q + M, R - M, 0, k + 1, c6, _, A6, _, rfl, rfl, F7⟩
              case measure => simp [slenR]; omega
            · have hcm' : ¬ M = cq := fun e => hcm e.symm
              have F7 : Hid (RGt w w6 L (q + M) (R - M) (cq - M) (k + 1) c6 (some ⟨b, o + M, none⟩) A6 (ol ++ [⟨z, A1, D, c1⟩])) := Lib.hid (HT6.out _ _ (by omega) (fun e => by cases e) hbb)
              clear HT6 HR2 hbb
              go_wp2_with fail
              go_roundw
              case rel => exact ⟨q + M, R - M, cq - M, k + 1, c6, _, A6, _, rfl, rfl, F7⟩
              case measure => simp [slenR]; omega
    · obtain rfl : R = 0 := by omega
      have FX := Lib.hid HT.out.good
      clear HT
      go_wp2_with fail
      go_ret2
      exact FX.out
end Go.Proofs.Ytjimmfbjhkoekaa
/- Icmps, the document: options taken. -/
namespace Go.Proofs.Ytjimmfbjhkoekaa
open Go.RowKit
set_option maxRecDepth 100000
set_option maxHeartbeats 2000000
/-- What is told of what went wrong. -/
def TE (w : World) (gt : Nat) (st : GS) : Prop := ∃ c0 : Value, bk w gt = some (.cells #[c0, .int .i64 ((st.err : Nat) : Int)] 87 (0, 0))
theorem TU.te {w : World} {gt nb : Nat} {L : List UInt8} {st : GS} (h : TU w gt nb L st) : TE w gt st := by obtain ⟨A, n, c, hb, _⟩ := h.box; exact ⟨_, hb⟩
theorem TE.turn {F : Nat → Prop} {w w' : World} {gt : Nat} {st : GS} (h : TE w gt st) (t : Tn F w w') (h1 : ¬ F gt) : TE w' gt st := by obtain ⟨c0, hb⟩ := h; exact ⟨c0, t.keep h1 hb⟩
theorem TE.below {w w' : World} {gt : Nat} {st : GS} (h : TE w gt st) (hb : Below w.heap.size w w') : TE w' gt st := h.turn (Tn.of (F := fun _ => False) hb) fun e => e
theorem TE.err {w : World} {gt : Nat} {st : GS} (h : TE w gt st) : w.cell? ⟨gt, 1, none⟩ = some (.int .i64 ((st.err : Nat) : Int)) ∧ gt < w.heap.size := by obtain ⟨c0, hb⟩ := h; exact ⟨(bk_cell hb 1).trans rfl, bk_lt hb⟩
/-- Options that are taken. -/
def TkO (w : World) (gt : Nat) (L : List UInt8) (st : GS) (e : Ending) (w' : World) : Prop :=
  ∃ A c ol, e = .returned (.slice A ol.length c) ∧ OO w' w.heap.size A c ol ∧ ol.length ≤ 64 ∧ (∀ q os, st = .ok q → optsG 64 (L.drop q) = some os → ol.map Ov.pl = os) ∧ TE w' gt (st.opt L) ∧ Tn (fun j => j = gt) w w'
theorem tk_options (gt nb : Nat) (L : List UInt8) (st : GS) (w : World) (h : TU w gt nb L st) (hL : L.length < 2 ^ 32) :
    Calls Try.prog 50 #[.pointer (some ⟨gt, 0, none⟩)] w fun e w' => TkO w gt L st e w' := by
  cases st with
  | short =>
    have F : Hid (TkO w gt L .short (.returned (.slice none 0 0)) w) := Lib.hid ⟨none, 0, [], rfl, OO.nil _ _, by simp, (fun q os e => by cases e), h.te, Tn.refl _ _⟩
    have c1 : w.cell? ⟨gt, 1, none⟩ = some (.int .i64 5) := h.err.1
    have lg := h.less
    clear h
    go_enter Try.func50, Try.ntmps50
    go_wp2_with fail
    go_ret
    exact F.out
  | form =>
    have F : Hid (TkO w gt L .form (.returned (.slice none 0 0)) w) := Lib.hid ⟨none, 0, [], rfl, OO.nil _ _, by simp, (fun q os e => by cases e), h.te, Tn.refl _ _⟩
    have c1 : w.cell? ⟨gt, 1, none⟩ = some (.int .i64 4) := h.err.1
    have lg := h.less
    clear h
    go_enter Try.func50, Try.ntmps50
    go_wp2_with fail
    go_ret
    exact F.out
  | ok q =>
    obtain ⟨A, n, c, hb, hA, hc, hq⟩ := h.box
    obtain ⟨hql, hn, hr⟩ := hq q rfl
    have hnl : (L.drop q).length = n := by rw [List.length_drop]; omega
    have hnb := h.lt
    have lg := bk_lt hb
    have c0 : w.cell? ⟨gt, 0, none⟩ = some (.slice A n c) := (bk_cell hb 0).trans rfl
    have c1 : w.cell? ⟨gt, 1, none⟩ = some (.int .i64 0) := (bk_cell hb 1).trans rfl
    have C := Lib.hid (rget10_any A (L.drop q) c w (hr.mono (by omega)) (fun e => ⟨List.eq_nil_of_length_eq_zero (by rw [hnl]; exact (hA e).1), (hA e).2⟩) (by rw [hnl]; exact hc) (by rw [List.length_drop]; omega))
    rw [hnl] at C
    have HB := Lib.hid hb
    cases hg : optsG 64 (L.drop q) with
    | none =>
      have ho : GS.opt L (.ok q) = .form := by simp only [GS.opt]; rw [hg]; rfl
      have HO := Lib.hid ho
      have C' : Hid (Calls Try.prog 71 #[.slice A n c] w fun e w' => e = .returned (.tuple #[.slice none 0 0, .int .i64 4]) ∧ Below w.heap.size w w') := Lib.hid (C.out.mono fun e w' h => by
        unfold RgO at h; rw [hg] at h; exact h)
      have HG := Lib.hid hg
      clear h hb hA hc hq hr hn hnl C ho hql hg hnb
      go_enter Try.func50, Try.ntmps50
      go_wp2_with fail
      refine C'.out.mono ?_
      rintro e w1 ⟨rfl, b1⟩
      have k1 := bk_keep b1 lg HB.out
      have f1 := bk_frozen k1 1
      have lg1 := bk_lt k1
      have c1' : w1.cell? ⟨gt, 1, none⟩ = some (.int .i64 0) := (bk_cell k1 1).trans rfl
      have FX : Hid (TkO w gt L (.ok q) (.returned (.slice none 0 0)) (w1.setCell ⟨gt, 1, none⟩ (.int .i64 4))) := Lib.hid ⟨none, 0, [], rfl, OO.nil _ _, by simp, (fun q' os e h => by cases e; rw [HG.out] at h; cases h), by rw [HO.out]; exact ⟨_, by rw [bk_setCell_same, k1]; rfl⟩, (Tn.of (F := fun j => j = gt) b1).set (.inl rfl)⟩
      clear c0 c1 lg b1 k1 C' HO HG HB
      go_wp2_with fail
      go_ret
      exact FX.out
    | some os =>
      have ho : GS.opt L (.ok q) = .ok L.length := by simp only [GS.opt]; rw [hg]; rfl
      have HO := Lib.hid ho
      have C' : Hid (Calls Try.prog 71 #[.slice A n c] w fun e w' => (∃ A c ol, e = .returned (.tuple #[.slice A ol.length c, .int .i64 0]) ∧ ol.map Ov.pl = os ∧ ol.length ≤ 64 ∧ OO w' w.heap.size A c ol) ∧ Below w.heap.size w w') := Lib.hid (C.out.mono fun e w' h => by
        unfold RgO at h; rw [hg] at h; exact h)
      have HG := Lib.hid hg
      clear h hb hA hc hq hr hn hnl C ho hql hg hnb
      go_enter Try.func50, Try.ntmps50
      go_wp2_with fail
      refine C'.out.mono ?_
      rintro e w1 ⟨⟨A1, ca, ol, rfl, ho1, ho2, ho3⟩, b1⟩
      have k1 := bk_keep b1 lg HB.out
      have f1 := bk_frozen k1 1
      have lg1 := bk_lt k1
      have c1' : w1.cell? ⟨gt, 1, none⟩ = some (.int .i64 0) := (bk_cell k1 1).trans rfl
      have FX : Hid (TkO w gt L (.ok q) (.returned (.slice A1 ol.length ca)) (w1.setCell ⟨gt, 1, none⟩ (.int .i64 0))) := Lib.hid ⟨A1, ca, ol, rfl, ho3.turnBelow (F := fun j => j = gt) ((Tn.refl _ _).set (.inl rfl)) (fun k e => by rw [e]; exact lg), ho2, (fun q' os' e h => by cases e; rw [HG.out] at h; cases h; exact ho1), by rw [HO.out]; exact ⟨_, by rw [bk_setCell_same, k1]; rfl⟩, (Tn.of (F := fun j => j = gt) b1).set (.inl rfl)⟩
      clear c0 c1 lg b1 k1 C' HO HG HB ho1 ho2 ho3
      go_wp2_with fail
      go_ret
      exact FX.out
end Go.Proofs.Ytjimmfbjhkoekaa
/- Icmps, the document: a report taken. -/
namespace Go.Proofs.Ytjimmfbjhkoekaa
open Go.RowKit
set_option maxRecDepth 100000
set_option maxHeartbeats 2000000
@[go_sem ↓] theorem ldAdrQ (dst : Option Tmp) (x : Operand) (t : TypeId) (pos : String) (af : Array Edge) (g : Option (Nat × Bool)) (a : Act) (w : World) (K : Act → World → Prop) (Q : Exit → Act → World → Prop) :
    Oper.wp Try.prog ⟨dst, .load 23 x, t, pos, af, g⟩ a w K Q = ldPtr (wpHid Try.prog ⟨dst, .load 23 x, t, pos, af, g⟩ a w K Q) 16 w (fun c => K (a.put dst (.agg c)) w) (a.eval x) :=
  wp_load_bk 23 16 _ Try.underlying23 rfl (by kernel_rfl) dst x t pos af g a w K Q
@[go_sem ↓] theorem stAdrQ (dst : Option Tmp) (x y : Operand) (t : TypeId) (pos : String) (af : Array Edge) (g : Option (Nat × Bool)) (a : Act) (w : World) (K : Act → World → Prop) (Q : Exit → Act → World → Prop) :
    Oper.wp Try.prog ⟨dst, .store 23 x y, t, pos, af, g⟩ a w K Q = stAt (wpHid Try.prog ⟨dst, .store 23 x y, t, pos, af, g⟩ a w K Q) 16 w (fun w' => K (a.put dst undef) w') (a.eval x) (a.eval y) :=
  wp_store_any 23 16 (by kernel_rfl) dst x y t pos af g a w K Q
@[go_sem ↓] theorem qlAdrQ (dst : Option Tmp) (x : Operand) (t : TypeId) (pos : String) (af : Array Edge) (g : Option (Nat × Bool)) (a : Act) (m : Nat) (W : World) (K : Act → Prop) :
    Oper.quiet Try.prog ⟨dst, .load 23 x, t, pos, af, g⟩ a (fun w' => ∃ x : Later m W, w' = x.w) K =
      ldLater (quietHid Try.prog ⟨dst, .load 23 x, t, pos, af, g⟩ a (fun w' => ∃ x : Later m W, w' = x.w) K) m 16 W (fun c => K (a.put dst (.agg c))) (a.eval x) :=
  quiet_load_bk 23 16 _ Try.underlying23 rfl (by kernel_rfl) dst x t pos af g a m W K
@[go_sem ↓] theorem ldRec (dst : Option Tmp) (x : Operand) (t : TypeId) (pos : String) (af : Array Edge) (g : Option (Nat × Bool)) (a : Act) (w : World) (K : Act → World → Prop) (Q : Exit → Act → World → Prop) :
    Oper.wp Try.prog ⟨dst, .load 57 x, t, pos, af, g⟩ a w K Q = ldPtr (wpHid Try.prog ⟨dst, .load 57 x, t, pos, af, g⟩ a w K Q) 18 w (fun c => K (a.put dst (.agg c)) w) (a.eval x) :=
  wp_load_bk 57 18 _ Try.underlying57 rfl (by kernel_rfl) dst x t pos af g a w K Q
@[go_sem ↓] theorem stRec (dst : Option Tmp) (x y : Operand) (t : TypeId) (pos : String) (af : Array Edge) (g : Option (Nat × Bool)) (a : Act) (w : World) (K : Act → World → Prop) (Q : Exit → Act → World → Prop) :
    Oper.wp Try.prog ⟨dst, .store 57 x y, t, pos, af, g⟩ a w K Q = stPtr (wpHid Try.prog ⟨dst, .store 57 x y, t, pos, af, g⟩ a w K Q) 18 w (fun w' => K (a.put dst undef) w') (a.eval x) (a.eval y) :=
  wp_store_bk 57 18 (by kernel_rfl) dst x y t pos af g a w K Q
@[go_sem ↓] theorem qlRec (dst : Option Tmp) (x : Operand) (t : TypeId) (pos : String) (af : Array Edge) (g : Option (Nat × Bool)) (a : Act) (m : Nat) (W : World) (K : Act → Prop) :
    Oper.quiet Try.prog ⟨dst, .load 57 x, t, pos, af, g⟩ a (fun w' => ∃ x : Later m W, w' = x.w) K =
      ldLater (quietHid Try.prog ⟨dst, .load 57 x, t, pos, af, g⟩ a (fun w' => ∃ x : Later m W, w' = x.w) K) m 18 W (fun c => K (a.put dst (.agg c))) (a.eval x) :=
  quiet_load_bk 57 18 _ Try.underlying57 rfl (by kernel_rfl) dst x t pos af g a m W K
theorem got_byte (L : List UInt8) (st : GS) : ∃ k : UInt8, val (st.got L 1) = k.toNat := by
  have h1 := val_lt (st.got L 1)
  have h2 : 256 ^ (st.got L 1).length ≤ 256 ^ 1 := Nat.pow_le_pow_right (by decide) (got_len L 1 st)
  exact ⟨UInt8.ofNat (val (st.got L 1)), by simp only [UInt8.toNat_ofNat']; omega⟩
theorem got_num (L : List UInt8) (k : Nat) (st : GS) (q : Nat) (h : st = .ok q) (hq : q + k ≤ L.length) : val (st.got L k) = numV L q k := by
  subst h
  simp only [GS.got]
  rw [if_pos hq]
  rfl
/-- Where a report is taken. -/
structure RP (w W : World) (gt nb s g : Nat) (L : List UInt8) (st : GS) (r : Rv) : Prop where
  tn : Tn (fun j => j = gt) w W
  tu : TU W gt nb L st
  k2 : bk W s = some (.cells (Rv.row ⟨0, List.replicate 16 0, none, [], 0, rfl⟩) 57 (0, 0))
  k3 : bk W g = some (.cells r.row 57 (0, 0))
  hs : s = w.heap.size
  hg : s < g
  ht : gt < s
theorem RP.call {w W w' : World} {gt nb s g : Nat} {L : List UInt8} {st st' : GS} {r : Rv} (h : RP w W gt nb s g L st r) (hu : TU w' gt nb L st') (t : Tn (fun j => j = gt) W w') : RP w w' gt nb s g L st' r :=
  ⟨h.tn.trans t fun j e => .inl e, hu, t.keep (by have := h.ht; omega) h.k2, t.keep (by have := h.ht; have := h.hg; omega) h.k3, h.hs, h.hg, h.ht⟩
theorem RP.set {w W : World} {gt nb s g j : Nat} {L : List UInt8} {st : GS} {r r' : Rv} {v : Value} (h : RP w W gt nb s g L st r) (e : r.row.setIfInBounds j v = r'.row) : RP w (W.setCell ⟨g, j, none⟩ v) gt nb s g L st r' := by
  have h1 := h.hs; have h2 := h.hg; have h3 := h.ht
  exact ⟨h.tn.set (.inr (by omega)), h.tu.turn (F := fun k => k = g) ((Tn.refl _ _).set (.inl rfl)) (by omega) (fun k e => by have := h.tu.lt; omega), by rw [bk_setCell_other _ _ _ _ _ (by omega)]; exact h.k2, by rw [bk_setCell_same, h.k3, ← e]; rfl, h1, h2, h3⟩
theorem RP.row {w W : World} {gt nb s g : Nat} {L : List UInt8} {st : GS} {r r' : Rv} {c : Array Value} (h : RP w W gt nb s g L st r) (e : c = r'.row) : RP w (W.setRow g c) gt nb s g L st r' := by
  have h1 := h.hs; have h2 := h.hg; have h3 := h.ht
  exact ⟨h.tn.setRow (.inr (by omega)), h.tu.turn (F := fun k => k = g) ((Tn.refl _ _).setRow (.inl rfl)) (by omega) (fun k e => by have := h.tu.lt; omega), by rw [bk_setRow_other _ _ _ _ (by omega)]; exact h.k2, by rw [bk_setRow_same, h.k3, e]; rfl, h1, h2, h3⟩
theorem Rv.set17 (k : UInt8) (z : List UInt8) (hz : z.length = 16) (A : Option Addr) (zs : List (List UInt8)) (c : Nat) : (Rv.row ⟨k, z, none, [], 0, hz⟩).setIfInBounds 17 (.slice A zs.length c) = Rv.row ⟨k, z, A, zs, c, hz⟩ := by simp [Rv.row, hz]
theorem Rv.set1 (k : UInt8) (z : List UInt8) (hz : z.length = 16) : spl (Rv.row ⟨k, List.replicate 16 0, none, [], 0, rfl⟩).toList 1 (z.map B) = Rv.row ⟨k, z, none, [], 0, hz⟩ := by
  unfold spl Rv.row
  simp [hz]
/-- A report that is taken. -/
def TkR (w : World) (gt nb : Nat) (L : List UInt8) (st : GS) (e : Ending) (w' : World) : Prop :=
  ∃ r : Rv, e = .returned (.agg r.row) ∧ OA w' w.heap.size r.A r.c r.s ∧ (∀ z ∈ r.s, z.length = 16) ∧ TU w' gt nb L (recS L st) ∧ (∀ q, recS L st = .ok q → ∃ p, st = .ok p ∧ r.pl = recV L p ∧ q = p + 4 + recL L p) ∧ Tn (fun j => j = gt) w w'
/-- Its end. -/
theorem rec_end {L : List UInt8} {st : GS} {more : UInt8} {N : Nat} {k : UInt8} {z : List UInt8} {zs : List (List UInt8)} (hk : val (st.got L 1) = k.toNat) (hm : val ((st.adv L 1).got L 1) = more.toNat) (hN : ∀ q, (st.adv L 2) = .ok q → q + 2 ≤ L.length → N = numV L q 2)
    (hz : adrOk L ((st.adv L 2).cnt L) z) (hzs : ∀ q, ((st.adv L 2).cnt L).adv L 16 = .ok q → q + 16 * N ≤ L.length → zs = srcsV L q N) : ((((st.adv L 2).cnt L).adv L 16).adv L (16 * N)).adv L (4 * more.toNat) = recS L st ∧ ∀ q, recS L st = .ok q → ∃ p, st = .ok p ∧ (⟨k, z, zs⟩ : Rc) = recV L p ∧ q = p + 4 + recL L p := by
  rw [GS.adv_adv, GS.adv_adv]
  cases st with
  | short => exact ⟨rfl, fun q hq => by cases hq⟩
  | form => exact ⟨rfl, fun q hq => by cases hq⟩
  | ok p =>
    by_cases hc : ∃ q, ((GS.ok p).adv L 2).cnt L = .ok q
    · obtain ⟨q, hc⟩ := hc
      obtain ⟨p2, e1, e2, e3, e4⟩ := cnt_ok hc
      obtain ⟨p1, f1, f2, f3⟩ := adv_ok e1
      cases f1
      subst f2
      have hN' : N = numV L (p + 2) 2 := hN _ e1 (by omega)
      have m1 : more.toNat = numV L (p + 1) 1 := by
        rw [← hm, ok_adv _ _ _ (by omega)]
        exact got_num L 1 _ (p + 1) rfl (by omega)
      have el : 16 + 16 * N + 4 * more.toNat = recL L p := by rw [m1, hN']; rfl
      have er : (((GS.ok p).adv L 2).cnt L).adv L (16 + (16 * N + 4 * more.toNat)) = recS L (.ok p) := by
        show _ = (((GS.ok p).adv L 2).cnt L).adv L (recL L p)
        rw [← el, Nat.add_assoc]
      refine ⟨er, fun q' hq' => ?_⟩
      have hq2 : (((GS.ok p).adv L 2).cnt L).adv L (recL L p) = .ok q' := hq'
      obtain ⟨p3, g1, g2, g3⟩ := adv_ok hq2
      rw [hc] at g1
      cases g1
      have a16 : (((GS.ok p).adv L 2).cnt L).adv L 16 = .ok (q + 16) := by rw [hc]; exact ok_adv _ _ _ (by omega)
      have hkk : k = oneV L p := by
        have h1 := got_num L 1 (.ok p) p rfl (by omega)
        rw [hk] at h1
        exact one_of (st := .ok p) (fun q h1' h2 => by cases h1'; exact h1) rfl (by omega)
      have hzz : z = adrV L (p + 4) := by
        have := adr_of hz hc (by omega)
        rw [this, e2]
      have hss : zs = srcsV L (p + 20) (numV L (p + 2) 2) := by
        have := hzs _ a16 (by omega)
        rw [this, ← hN']
        congr 1
        omega
      refine ⟨p, rfl, ?_, by omega⟩
      unfold recV
      rw [hkk, hzz, hss]
    · have hn : ∀ q, ((GS.ok p).adv L 2).cnt L ≠ .ok q := fun q hq => hc ⟨q, hq⟩
      have e : recS L (.ok p) = ((GS.ok p).adv L 2).cnt L := by
        show (((GS.ok p).adv L 2).cnt L).adv L (recL L p) = _
        rw [err_adv hn]
      rw [err_adv hn, e]
      exact ⟨rfl, fun q hq => absurd hq (hn q)⟩
theorem tk_byte (gt nb : Nat) (L : List UInt8) (st : GS) (w : World) (h : TU w gt nb L st) (hL : L.length < 2 ^ 32) : ∃ kd : UInt8, val (st.got L 1) = kd.toNat ∧
    Calls Try.prog 45 #[.pointer (some ⟨gt, 0, none⟩), .int .i64 1] w fun e w' => e = .returned (.int .u64 (kd.toNat : Int)) ∧ TU w' gt nb L (st.adv L 1) ∧ Tn (fun j => j = gt) w w' := by
  obtain ⟨kd, hkd⟩ := got_byte L st
  refine ⟨kd, hkd, (tk_num gt nb 1 L st w h hL (by omega)).mono ?_⟩
  rintro e w' ⟨rfl, h1, h2⟩
  exact ⟨by rw [hkd], h1, h2⟩
theorem tk_record (gt nb : Nat) (L : List UInt8) (st : GS) (w : World) (h : TU w gt nb L st) (hL : L.length < 2 ^ 32) :
    Calls Try.prog 51 #[.pointer (some ⟨gt, 0, none⟩)] w fun e w' => TkR w gt nb L st e w' := by
  obtain ⟨s, hs⟩ : ∃ s, s = w.heap.size := ⟨_, rfl⟩
  have hgt : gt < s := by rw [hs]; exact h.less
  obtain ⟨W, hW⟩ : ∃ W, W = w.alloc (.cells (Rv.row ⟨0, List.replicate 16 0, none, [], 0, rfl⟩) 57) := ⟨_, rfl⟩
  have b0 : Below w.heap.size w W := by rw [hW]; exact (by (repeat (first | exact Below.refl _ _ | assumption | refine Below.drew ?_ | refine bdrewN ?_ _ | refine Below.alloc ?_ (by first | omega | (simp <;> omega) | (simp only [World.size_alloc] <;> omega)) _ | refine below_setRow ?_ (by first | omega | (simp <;> omega)) _ | refine Below.setCell ?_ (by first | omega | (simp <;> omega)) _)))
  have k2 : bk W s = some (.cells (Rv.row ⟨0, List.replicate 16 0, none, [], 0, rfl⟩) 57 (0, 0)) := by rw [hW]; exact bk_alloc_at _ _ _ hs
  have hU : TU W gt nb L st := h.below b0
  obtain ⟨kd, hkd, c1⟩ := tk_byte gt nb L st W hU hL
  have C1 := Lib.hid c1
  have hk8 : kd.toNat < 256 := kd.toNat_lt
  have HL := Lib.hid hL; have HS := Lib.hid hs; have B0 := Lib.hid b0; have K2 := Lib.hid k2; have HGT := Lib.hid hgt; have HW := Lib.hid hW; have HKD := Lib.hid hkd
  clear h hL b0 k2 hU hgt hW hkd c1
  go_enter Try.func51, Try.ntmps51
  go_upto_region 1 with fail
  rw [← hs]
  clear hs
  change Code.wp _ _ _ _ (w.alloc (.cells (Rv.row ⟨0, List.replicate 16 0, none, [], 0, rfl⟩) 57))
  rw [← HW.out]
  clear HW
  go_wp2_with fail
  refine C1.out.mono ?_
  rintro e w1 ⟨rfl, hu1, t1⟩
  have HU1 := Lib.hid hu1; have T1 := Lib.hid t1
  clear hu1 t1 C1
  go_upto_region 2 with fail
  obtain ⟨g, hg⟩ : ∃ g, g = w1.heap.size := ⟨_, rfl⟩
  rw [← hg]
  generalize hW2 : World.alloc w1 _ = W2
  have P : Hid (RP w W2 gt nb s g L (st.adv L 1) ⟨kd, List.replicate 16 0, none, [], 0, rfl⟩) := Lib.hid (by
    have b2 : Below w1.heap.size w1 W2 := by rw [← hW2]; exact (by (repeat (first | exact Below.refl _ _ | assumption | refine Below.drew ?_ | refine bdrewN ?_ _ | refine Below.alloc ?_ (by first | omega | (simp <;> omega) | (simp only [World.size_alloc] <;> omega)) _ | refine below_setRow ?_ (by first | omega | (simp <;> omega)) _ | refine Below.setCell ?_ (by first | omega | (simp <;> omega)) _)))
    have hsW : s < W.heap.size := bk_lt K2.out
    have hgt := HGT.out
    refine ⟨((Tn.of (F := fun j => j = gt) B0.out).trans T1.out fun j e => .inl e).next b2, HU1.out.below b2, ?_, ?_, HS.out, by have := T1.out.size; omega, hgt⟩
    · exact bk_keep b2 (Nat.lt_of_lt_of_le hsW T1.out.size) (T1.out.keep (by omega) K2.out)
    · rw [← hW2]; exact (bk_alloc_at _ _ _ hg).trans (by rfl))
  clear hW2 hg HU1 T1 K2 B0 W w1
  obtain ⟨mo, hmo, c2⟩ := tk_byte gt nb L (st.adv L 1) W2 P.out.tu HL.out
  have C2 := Lib.hid c2
  have hm8 : mo.toNat < 256 := mo.toNat_lt
  have HMO := Lib.hid hmo
  clear hmo c2
  go_wp2_with fail
  refine C2.out.mono ?_
  rintro e w3 ⟨rfl, hu1, t1⟩
  rw [GS.adv_adv] at hu1
  have P3 := Lib.hid (P.out.call hu1 t1)
  clear hu1 t1 C2 P
  have C3 := Lib.hid (tk_count gt nb L (st.adv L (1 + 1)) w3 P3.out.tu HL.out)
  go_upto_region 3 with fail
  go_wp2_with fail
  refine C3.out.mono ?_
  rintro e w4 ⟨N, rfl, hN64, hN, hu1, t1⟩
  have P4 := Lib.hid (P3.out.call hu1 t1)
  have HN := Lib.hid hN
  clear hu1 t1 C3 P3 hN
  have C4 := Lib.hid (tk_addr gt nb L ((st.adv L (1 + 1)).cnt L) w4 P4.out.tu HL.out)
  go_upto_region 4 with fail
  go_wp2_with fail
  refine C4.out.mono ?_
  rintro e w5 ⟨z, hz, rfl, hok, hu1, t1⟩
  have P5 := Lib.hid (P4.out.call hu1 t1)
  have HZ := Lib.hid (And.intro hz hok)
  clear hu1 t1 C4 P4 hok
  have ut := P5.out.k3
  have lt := bk_lt ut
  go_upto_region 4 with fail
  have sz := Rv.row_size ⟨kd, List.replicate 16 0, none, [], 0, rfl⟩
  refine (stAdrI _ _ _ _ _ _ _ _ _ _ _).mp ?_
  rw [stAdrQ]
  show stAny _ 16 w5 g 1 (List.map B z).toArray _ (bk w5 g)
  rw [ut, stAny_part _ _ _ _ _ _ _ _ _ (by rw [Rv.row_size]; decide) (by rw [Rv.row_size]; decide) (by simp [hz]) (by simp only [ones_map])]
  have P6 := Lib.hid (P5.out.row (Rv.set1 kd z hz))
  generalize World.setRow w5 g _ = w6 at *
  clear ut lt sz P5
  have C5 := Lib.hid (tk_addrs gt nb N L (((st.adv L (1 + 1)).cnt L).adv L 16) w6 P6.out.tu HL.out hN64)
  go_upto_region 5 with fail
  go_wp2_with fail
  refine C5.out.mono ?_
  rintro e w7 ⟨A, c, zs, rfl, ho, h16, _, hzs, hu1, t1⟩
  have P7 := Lib.hid (P6.out.call hu1 t1)
  have HO := Lib.hid ho; have HS7 := Lib.hid (And.intro h16 hzs)
  have HSZ : Hid (g < w6.heap.size) := Lib.hid (bk_lt P6.out.k3)
  clear hu1 t1 C5 P6 ho h16 hzs
  have ut := (bk_cell P7.out.k3 17).trans (show (Rv.row ⟨kd, z, none, [], 0, hz⟩)[17]? = some (.slice none 0 0) by simp [Rv.row, hz])
  have lt := bk_lt P7.out.k3
  have fz := bk_frozen P7.out.k3 17
  go_upto_region 6 with fail
  have P8 := Lib.hid (P7.out.set (Rv.set17 kd z hz A zs c))
  have HO8 : Hid (OA (w7.setCell ⟨g, 17, none⟩ (.slice A zs.length c)) w6.heap.size A c zs) := Lib.hid (HO.out.turn (F := fun j => j = g) ((Tn.refl _ _).set (.inl rfl)) fun k hk e => by have := (World.ownsRow.lt HO.out k hk).1; have := HSZ.out; omega)
  generalize World.setCell w7 _ _ = w8 at *
  clear ut lt fz P7 HO
  obtain ⟨E, hE⟩ : ∃ E, E = 4 * mo.toNat := ⟨_, rfl⟩
  have hE4 : 4 * (mo.toNat : Int) = (E : Int) := by omega
  have C6 := Lib.hid (tk_bytes gt nb E L ((((st.adv L (1 + 1)).cnt L).adv L 16).adv L (16 * N)) w8 P8.out.tu HL.out (by omega))
  have HE := Lib.hid hE
  clear hE
  go_wp2_with fail
  refine C6.out.mono ?_
  rintro e w9 ⟨A9, c9, rfl, _, hu1, t1⟩
  have P9 := Lib.hid (P8.out.call hu1 t1)
  have O9 : Hid (OA w9 w.heap.size A c zs) := Lib.hid (by
    have h1 := HO8.out.turn (F := fun j => j = gt) t1 fun k hk e => by have := (World.ownsRow.lt HO8.out k hk).1; have := HSZ.out; have := P8.out.hg; have := P8.out.ht; omega
    refine ⟨h1.1, ?_⟩
    rcases h1.2 with h2 | ⟨g', cap, cur, e1, e2, e3⟩
    · exact .inl h2
    · exact .inr ⟨g', cap, cur, e1, by have := HSZ.out; have := P8.out.hg; have := P8.out.hs; omega, e3⟩)
  clear hu1 t1 C6 P8 HO8
  obtain ⟨r, hr⟩ : ∃ r : Rv, r = ⟨kd, z, A, zs, c, hz⟩ := ⟨_, rfl⟩
  have P10 : Hid (RP w w9 gt nb s g L (((((st.adv L (1 + 1)).cnt L).adv L 16).adv L (16 * N)).adv L E) r) := Lib.hid (by rw [hr]; exact P9.out)
  have FX : Hid (TkR w gt nb L st (.returned (.agg r.row)) (w9.setRow s r.row)) := Lib.hid (by
    have e := rec_end (L := L) (st := st) (more := mo) (N := N) (k := kd) (z := z) (zs := zs) HKD.out HMO.out HN.out HZ.out.2 HS7.out.2
    have hs := P9.out.hs; have hgt := P9.out.ht
    have ts : Tn (fun j => j = s) w9 (w9.setRow s r.row) := (Tn.refl _ _).setRow (.inl rfl)
    refine ⟨r, rfl, ?_, by rw [hr]; exact HS7.out.1, ?_, ?_, P9.out.tn.setRow (.inr (by omega))⟩
    · rw [hr]
      exact O9.out.turn (by rw [hr] at ts; exact ts) fun k hk e => by
        have h2 := P9.out.k2
        rcases O9.out.2 with ⟨e1, _⟩ | ⟨g', cap, cur, e1, _, hb, _⟩
        · rw [e1] at hk; cases hk
        · rw [e1] at hk
          have hk' : g' = s := (Option.some.inj hk).trans e
          have hb' : bk w9 g' = some (.cells cur 23 (0, 0)) := hb
          rw [hk', h2] at hb'
          cases hb'
    · have := P9.out.tu.turn (F := fun k => k = s) ts (by omega) (fun k e => by have := P9.out.tu.lt; omega)
      rw [HE.out, e.1] at this
      exact this
    · rw [hr]; exact e.2)
  have ut := P10.out.k3
  have ur := P10.out.k2
  have lt := bk_lt ut
  have lr := bk_lt ur
  have sz := r.row_size
  have sz0 := Rv.row_size ⟨0, List.replicate 16 0, none, [], 0, rfl⟩
  have so := r.row_ones
  have kf : bk (w9.setRow s r.row) s = some (.cells r.row 57 (0, 0)) := by rw [bk_setRow_same, ur]; rfl
  clear hr P9 P10 O9 HS7 HZ HKD HMO HN HE HS HGT HSZ
  go_wp2_with fail
  exact bodyPost_ret (results_cell_row rfl _ _ s 57 r.row (0, 0) _ rfl kf Try.underlying57 rfl (by rw [sz]; kernel_rfl)) rfl FX.out
end Go.Proofs.Ytjimmfbjhkoekaa
/- Icmps, the document: what is got, in memory; where Get stands. -/
namespace Go.Proofs.Ytjimmfbjhkoekaa
open Go.RowKit
set_option maxRecDepth 100000
set_option maxHeartbeats 1000000
theorem own_rwsG {α : Type} {C n c : Nat} {f : α → Array Value} {e : TypeId} {w : World} {A : Option Addr} {l : List α} (hC : 0 < C) (hf : ∀ x ∈ l, (f x).size = C) (h : w.ownsRow n e C (.slice A l.length c) l.length ((l.map fun x => (f x).toList).flatten)) : Rws C f w w.heap.size A l ∧ l.length ≤ c ∧ c < 2 ^ 63 := by
  obtain ⟨A', c', e', h4, h5⟩ := own_slG h
  cases e'
  refine ⟨?_, h4, h5⟩
  rcases h.2 with ⟨e, h0⟩ | ⟨g, cap, cur, e, hg, hb, h1, h2, h3, h4⟩
  · have hl : l = [] := List.eq_nil_of_length_eq_zero h0
    subst hl
    exact Rws.nil
  · obtain ⟨rfl, _, rfl⟩ := Value.slice.inj e
    refine fun _ => ⟨g, 0, cur, _, _, rfl, bk_lt hb, hb, fun j hj => ?_⟩
    have hj2 : j * C + C ≤ c * C := by
      have : (j + 1) * C ≤ c * C := Nat.mul_le_mul_right C (by omega)
      rw [Nat.add_mul] at this; omega
    have hj3 : j * C + C ≤ l.length * C := by
      have : (j + 1) * C ≤ l.length * C := Nat.mul_le_mul_right C (by omega)
      rw [Nat.add_mul] at this; omega
    have hsz : 0 + j * C + C ≤ cur.size := by omega
    refine ⟨hsz, ?_⟩
    apply Array.ext_getElem?
    intro i
    unfold xt
    rw [Array.getElem?_extract]
    by_cases hi : i < C
    · rw [if_pos (by omega)]
      have e1 : (j * C + i) / C = j := by rw [Nat.mul_comm, Nat.mul_add_div hC, Nat.div_eq_of_lt hi, Nat.add_zero]
      have e2 : (j * C + i) % C = i := by rw [Nat.mul_comm, Nat.mul_add_mod, Nat.mod_eq_of_lt hi]
      have key : ((l.map fun x => (f x).toList).flatten)[j * C + i]? = ((f l[j]).toList)[i]? := by
        rw [flat_at (fun x : α => (f x).toList) C hC l (j * C + i) (fun x hx => by rw [Array.length_toList]; exact hf x hx) (by rw [e1]; exact hj)]
        simp only [e1, e2]
      rw [← h4, List.getElem?_take_of_lt (by omega), Array.getElem?_toList, Array.getElem?_toList] at key
      rw [Nat.zero_add]
      exact key
    · rw [if_neg (by omega), Array.getElem?_eq_none (by rw [hf _ (List.getElem_mem hj)]; omega)]
theorem OA.rws {w : World} {n c : Nat} {A : Option Addr} {zs : List (List UInt8)} (h : OA w n A c zs) (h16 : ∀ z ∈ zs, z.length = 16) : Rws 16 (fun z : List UInt8 => (z.map B).toArray) w w.heap.size A zs ∧ zs.length ≤ c ∧ c < 2 ^ 63 := by
  refine own_rwsG (by decide) (fun z hz => by simp [h16 z hz]) (e := 23) (n := n) ?_
  have e : (zs.map fun z => ((z.map B).toArray).toList).flatten = zs.flatten.map B := by rw [List.map_flatten]
  rw [e]
  exact h
def rvF (l : List Rv) : List Value := (l.map fun x => x.row.toList).flatten
theorem rvF_snoc (l : List Rv) (x : Rv) : rvF (l ++ [x]) = rvF l ++ x.row.toList := by unfold rvF; simp
/-- A row of reports of one's own, each with addresses of its own. -/
structure OR (w : World) (n : Nat) (A : Option Addr) (c : Nat) (rl : List Rv) : Prop where
  row : w.ownsRow n 57 18 (.slice A rl.length c) rl.length (rvF rl)
  at' : ∀ x ∈ rl, OA w n x.A x.c x.s
  l16 : ∀ x ∈ rl, ∀ z ∈ x.s, z.length = 16
theorem OR.nil (w : World) (n : Nat) : OR w n none 0 [] := ⟨World.ownsRow_nil _ _ _ _, fun x hx => by simp at hx, fun x hx => by simp at hx⟩
theorem OR.turnBelow {F : Nat → Prop} {w w' : World} {n c : Nat} {A : Option Addr} {rl : List Rv} (h : OR w n A c rl) (t : Tn F w w') (hF : ∀ k, F k → k < n) : OR w' n A c rl :=
  ⟨own_turnG h.row fun k hk => t.old k (h.row.lt k hk).2 (fun f => by have := (h.row.lt k hk).1; have := hF k f; omega), fun x hx => (h.at' x hx).turn t fun k hk f => by have := (World.ownsRow.lt (h.at' x hx) k hk).1; have := hF k f; omega, h.l16⟩
theorem OR.below {w w' : World} {n c : Nat} {A : Option Addr} {rl : List Rv} (h : OR w n A c rl) (hb : Below w.heap.size w w') : OR w' n A c rl :=
  h.turnBelow (Tn.of (F := fun _ => False) hb) fun _ e => e.elim
theorem own_apart {w : World} {n n' s s' c c' k k' : Nat} {A A' : Option Addr} {t t' : TypeId} {xs xs' : List Value} (h : w.ownsRow n t s (.slice A k c) k xs) (h' : w.ownsRow n' t' s' (.slice A' k' c') k' xs') (ht : t ≠ t') : ∀ j, (Value.slice A k c).ownBlock = some j → (Value.slice A' k' c').ownBlock ≠ some j := fun j hj hj' => by
  rcases h.2 with ⟨e, _⟩ | ⟨g, cap, cur, e, _, hb, _⟩
  · rw [e] at hj; cases hj
  rcases h'.2 with ⟨e', _⟩ | ⟨g', cap', cur', e', _, hb', _⟩
  · rw [e'] at hj'; cases hj'
  rw [e] at hj
  rw [e'] at hj'
  have e1 : g = j := Option.some.inj hj
  have e2 : g' = j := Option.some.inj hj'
  have b1 : bk w g = some (.cells cur t (0, 0)) := hb
  have b2 : bk w g' = some (.cells cur' t' (0, 0)) := hb'
  rw [e1] at b1
  rw [e2, b1] at b2
  cases b2
  exact ht rfl
theorem OR.snoc {wb w' : World} {n c c2 : Nat} {A A2 : Option Addr} {rl : List Rv} {x : Rv} (h : OR wb n A c rl) (hx : OA wb n x.A x.c x.s) (h16 : ∀ z ∈ x.s, z.length = 16)
    (hr : w'.ownsRow n 57 18 (.slice A2 (rl.length + 1) c2) (rl.length + 1) (rvF rl ++ x.row.toList)) (hg : wb.grownBy w' (Value.slice A rl.length c).ownBlock) : OR w' n A2 c2 (rl ++ [x]) := by
  have t : Tn (fun k => (Value.slice A rl.length c).ownBlock = some k) wb w' := Tn.grown hg fun k e => e
  refine ⟨by rw [List.length_append, rvF_snoc]; exact hr, fun y hy => ?_, fun y hy => ?_⟩
  · have : OA wb n y.A y.c y.s := by
      rcases List.mem_append.1 hy with hy | hy
      · exact h.at' y hy
      · rw [List.mem_singleton] at hy; rw [hy]; exact hx
    exact this.turn t (own_apart this h.row (by decide))
  · rcases List.mem_append.1 hy with hy | hy
    · exact h.l16 y hy
    · rw [List.mem_singleton] at hy; rw [hy]; exact h16
theorem OR.rws {w : World} {n c : Nat} {A : Option Addr} {rl : List Rv} (h : OR w n A c rl) : (Rws 18 Rv.row w w.heap.size A rl ∧ rl.length ≤ c ∧ c < 2 ^ 63) ∧ ∀ r ∈ rl, Rws 16 (fun z : List UInt8 => (z.map B).toArray) w w.heap.size r.A r.s ∧ (∀ z ∈ r.s, z.length = 16) ∧ r.s.length ≤ r.c ∧ r.c < 2 ^ 63 :=
  ⟨own_rwsG (by decide) (fun x _ => x.row_size) h.row, fun r hr => by
    obtain ⟨h1, h2, h3⟩ := (h.at' r hr).rws (h.l16 r hr)
    exact ⟨h1, h.l16 r hr, h2, h3⟩⟩
/-- Where Get stands. -/
structure RM (u : Bool) (w W : World) (s gm gt : Nat) (L : List UInt8) (m : Mv) (st : GS) : Prop where
  bl : Below w.heap.size w W
  te : TE W gt st
  tu : u = true → TU W gt w.heap.size L st
  kr : bk W s = some (.cells (mC (mZ 0 0)) 33 (0, 0))
  km : bk W gm = some (.cells (mC m) 33 (0, 0))
  lo : w.heap.size ≤ s ∧ s < gm ∧ gm < gt
theorem RM.call {u : Bool} {w W W' : World} {s gm gt : Nat} {L : List UInt8} {m : Mv} {st st' : GS} (h : RM u w W s gm gt L m st) (hu : TU W' gt w.heap.size L st') (t : Tn (fun j => j = gt) W W') : RM true w W' s gm gt L m st' := by
  have lo := h.lo
  exact ⟨h.bl.trans (t.below (fun k e => by omega) h.bl.size), hu.te, fun _ => hu, t.keep (by omega) h.kr, t.keep (by omega) h.km, lo⟩
theorem RM.callE {u : Bool} {w W W' : World} {s gm gt : Nat} {L : List UInt8} {m : Mv} {st st' : GS} (h : RM u w W s gm gt L m st) (hu : TE W' gt st') (t : Tn (fun j => j = gt) W W') : RM false w W' s gm gt L m st' := by
  have lo := h.lo
  exact ⟨h.bl.trans (t.below (fun k e => by omega) h.bl.size), hu, (fun e => by cases e), t.keep (by omega) h.kr, t.keep (by omega) h.km, lo⟩
theorem RM.set {u : Bool} {w W : World} {s gm gt j : Nat} {L : List UInt8} {m m' : Mv} {st : GS} {v : Value} (h : RM u w W s gm gt L m st) (e : (mC m).setIfInBounds j v = mC m') : RM u w (W.setCell ⟨gm, j, none⟩ v) s gm gt L m' st := by
  have lo := h.lo
  have t : Tn (fun k => k = gm) W (W.setCell ⟨gm, j, none⟩ v) := (Tn.refl _ _).set (.inl rfl)
  exact ⟨h.bl.trans (t.below (fun k e => by omega) h.bl.size), h.te.turn t (by omega), fun e => (h.tu e).turn t (by omega) fun k e => by omega, t.keep (by omega) h.kr, by rw [bk_setCell_same, h.km, ← e]; rfl, lo⟩
theorem RM.part {u : Bool} {w W : World} {s gm gt j : Nat} {L : List UInt8} {m m' : Mv} {st : GS} {z : List UInt8} (h : RM u w W s gm gt L m st) (e : spl (mC m).toList j (z.map B) = mC m') : RM u w (W.setRow gm (spl (mC m).toList j (List.map B z).toArray.toList)) s gm gt L m' st := by
  have lo := h.lo
  have t : Tn (fun k => k = gm) W (W.setRow gm (spl (mC m).toList j (List.map B z).toArray.toList)) := (Tn.refl _ _).setRow (.inl rfl)
  exact ⟨h.bl.trans (t.below (fun k e => by omega) h.bl.size), h.te.turn t (by omega), fun e => (h.tu e).turn t (by omega) fun k e => by omega, t.keep (by omega) h.kr, by rw [bk_setRow_same, h.km, ← e]; rfl, lo⟩
theorem RM.turn {F : Nat → Prop} {u : Bool} {w W W' : World} {s gm gt : Nat} {L : List UInt8} {m : Mv} {st : GS} (h : RM u w W s gm gt L m st) (t : Tn F W W') (hF : ∀ k, F k → gt < k) : RM u w W' s gm gt L m st := by
  have lo := h.lo
  exact ⟨h.bl.trans (t.below (fun k e => by have := hF k e; omega) h.bl.size), h.te.turn t (fun e => by have := hF _ e; omega), fun e => (h.tu e).turn t (fun e => by have := hF _ e; omega) fun k e => by have := hF k e; omega, t.keep (fun e => by have := hF _ e; omega) h.kr, t.keep (fun e => by have := hF _ e; omega) h.km, lo⟩
/-- What the document's Get hands back of bytes of a kind that it knows. -/
def RGet (k c : UInt8) (L : List UInt8) (w : World) (e : Ending) (w' : World) : Prop :=
  Below w.heap.size w w' ∧ ((∃ q mo, getS k L = .ok q ∧ e = .returned (.tuple #[.agg (mC mo), .int .i64 0]) ∧ mo.pl = getV k c L ∧ MvOk w' w'.heap.size mo) ∨
    ((∀ q, getS k L ≠ .ok q) ∧ e = .returned (.tuple #[.agg (mC (mZ 0 0)), .int .i64 (((getS k L).err : Nat) : Int)])))
theorem RM.fin {u : Bool} {w W : World} {s gm gt q : Nat} {k c : UInt8} {L : List UInt8} {m : Mv} {st : GS} (h : RM u w W s gm gt L m st) (hs : st = getS k L) (hq : st = .ok q) (hp : m.pl = getV k c L) (hm : MvOk (W.setRow s (mC m)) (W.setRow s (mC m)).heap.size m) : RGet k c L w (.returned (.tuple #[.agg (mC m), .int .i64 0])) (W.setRow s (mC m)) :=
  ⟨below_row h.bl h.lo.1 _, .inl ⟨q, m, by rw [← hs, hq], rfl, hp, hm⟩⟩
theorem rm_bad {w W' : World} {k c : UInt8} {L : List UInt8} {st : GS} (hs : st = getS k L) (he : st.err ≠ 0) (hb : Below w.heap.size w W') : RGet k c L w (.returned (.tuple #[.agg (mC (mZ 0 0)), .int .i64 ((st.err : Nat) : Int)])) W' :=
  ⟨hb, .inr ⟨fun q e => by rw [hs, e] at he; exact he rfl, by rw [hs]⟩⟩
theorem mv_ok {w : World} {n : Nat} {m : Mv} (hd : Rd w n m.DA m.dd ∧ (m.DA = none → m.dd = [] ∧ m.dc = 0) ∧ m.dd.length ≤ m.dc ∧ m.dc < 2 ^ 63) (ho : Ovs w n m.OA m.os ∧ m.os.length ≤ m.oc ∧ m.oc < 2 ^ 63) (hs : (Rws 16 (fun z : List UInt8 => (z.map B).toArray) w n m.SA m.ss ∧ m.ss.length ≤ m.sc ∧ m.sc < 2 ^ 63) ∧ ∀ z ∈ m.ss, z.length = 16)
    (hr : (Rws 18 Rv.row w n m.RA m.rs ∧ m.rs.length ≤ m.rc ∧ m.rc < 2 ^ 63) ∧ ∀ r ∈ m.rs, Rws 16 (fun z : List UInt8 => (z.map B).toArray) w n r.A r.s ∧ (∀ z ∈ r.s, z.length = 16) ∧ r.s.length ≤ r.c ∧ r.c < 2 ^ 63) (hb : m.param < 4294967296 ∧ m.life < 65536 ∧ m.reach < 4294967296 ∧ m.retr < 4294967296 ∧ m.mx < 65536) : MvOk w n m :=
  ⟨hd.1, hd.2.1, hd.2.2.1, hd.2.2.2, ho.1, ho.2.1, ho.2.2, hs.1.1, hs.2, hs.1.2.1, hs.1.2.2, hr.1.1, hr.2, hr.1.2.1, hr.1.2.2, hb.1, hb.2.1, hb.2.2.1, hb.2.2.2.1, hb.2.2.2.2⟩
theorem no_d (w : World) (n : Nat) : Rd w n none [] ∧ ((none : Option Addr) = none → ([] : List UInt8) = [] ∧ (0 : Nat) = 0) ∧ ([] : List UInt8).length ≤ 0 ∧ (0 : Nat) < 2 ^ 63 := ⟨Rd.nil, fun _ => ⟨rfl, rfl⟩, Nat.le_refl _, by decide⟩
theorem no_o (w : World) (n : Nat) : Ovs w n none [] ∧ ([] : List Ov).length ≤ 0 ∧ (0 : Nat) < 2 ^ 63 := ⟨⟨Rws.nil, fun x hx => by simp at hx⟩, Nat.le_refl _, by decide⟩
theorem no_s (w : World) (n : Nat) : (Rws 16 (fun z : List UInt8 => (z.map B).toArray) w n none [] ∧ ([] : List (List UInt8)).length ≤ 0 ∧ (0 : Nat) < 2 ^ 63) ∧ ∀ z ∈ ([] : List (List UInt8)), z.length = 16 := ⟨⟨Rws.nil, Nat.le_refl _, by decide⟩, fun z hz => by simp at hz⟩
theorem no_r (w : World) (n : Nat) : (Rws 18 Rv.row w n none [] ∧ ([] : List Rv).length ≤ 0 ∧ (0 : Nat) < 2 ^ 63) ∧ ∀ r ∈ ([] : List Rv), Rws 16 (fun z : List UInt8 => (z.map B).toArray) w n r.A r.s ∧ (∀ z ∈ r.s, z.length = 16) ∧ r.s.length ≤ r.c ∧ r.c < 2 ^ 63 := ⟨⟨Rws.nil, Nat.le_refl _, by decide⟩, fun z hz => by simp at hz⟩
theorem got_ok (L : List UInt8) (k : Nat) (st : GS) : numOk L st k (val (st.got L k)) := fun q e h => got_num L k st q e h
theorem byte_ok {L : List UInt8} {st : GS} {k : UInt8} (h : val (st.got L 1) = k.toNat) : numOk L st 1 k.toNat := h ▸ got_ok L 1 st
theorem num_ok' {L : List UInt8} {st : GS} {n V : Nat} (h : V = val (st.got L n)) : numOk L st n V := by subst h; exact got_ok L n st
theorem opt_err {L : List UInt8} {s : GS} (h : ∀ q, s ≠ .ok q) : s.opt L = s := by
  cases s with
  | ok q => exact absurd rfl (h q)
  | short => rfl
  | form => rfl
end Go.Proofs.Ytjimmfbjhkoekaa

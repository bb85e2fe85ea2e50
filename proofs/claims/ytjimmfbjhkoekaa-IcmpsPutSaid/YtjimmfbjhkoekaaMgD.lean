import Derived.Test.YtjimmfbjhkoekaaMgB
import Derived.OneCell
/- What a cutter gives: plain. -/
namespace Go.Proofs.Ytjimmfbjhkoekaa
open Go.RowKit
/-- What is cut, and what is left, when n bytes are asked for. -/
def cutB (n : Int) : Option (List UInt8) → List UInt8 × Option (List UInt8)
  | none => ([], none)
  | some l => if n < 0 ∨ (l.length : Int) < n then ([], none) else (l.take n.toNat, some (l.drop n.toNat))
theorem cutB_none (n : Int) : cutB n none = ([], none) := rfl
theorem cutB_bad {n : Int} {l : List UInt8} (h : n < 0 ∨ (l.length : Int) < n) : cutB n (some l) = ([], none) := by simp [cutB, h]
theorem cutB_good {n : Nat} {l : List UInt8} (h : n ≤ l.length) : cutB n (some l) = (l.take n, some (l.drop n)) := by
  simp only [cutB]
  rw [if_neg (by omega)]
  simp
/-- How many bytes a number asks for. -/
def ask (n : Int) : Int := if n < 1 ∨ 8 < n then -1 else n
theorem cutB_len (n : Int) (st : Option (List UInt8)) : (cutB (ask n) st).1.length ≤ 8 := by
  cases st with
  | none => simp [cutB]
  | some l =>
    unfold ask
    split
    · rw [cutB_bad (.inl (by omega))]; simp
    · by_cases hb : n < 0 ∨ (l.length : Int) < n
      · rw [cutB_bad hb]; simp
      · obtain ⟨m, rfl⟩ := Int.eq_ofNat_of_zero_le (show 0 ≤ n by omega)
        have := cutB_good (n := m) (l := l) (by omega)
        rw [show ((m : Nat) : Int) = (m : Int) from rfl] at this
        rw [this, List.length_take]; omega
end Go.Proofs.Ytjimmfbjhkoekaa
/- The program's cutter, by where it stands. -/
namespace Go.Proofs.Ytjimmfbjhkoekaa
open Go.RowKit
set_option maxRecDepth 100000
/-- The bytes that are cut lie in block gb. -/
def PB (w : World) (gb : Nat) (L : List UInt8) : Prop := 0 < L.length → ∃ cur, bk w gb = some (.cells cur 5 (0, 0)) ∧ L.length ≤ cur.size ∧ cur.toList.take L.length = L.map B
/-- A cutter of them stands behind q of them, or is spoilt. -/
def PK (w : World) (gc gb : Nat) (L : List UInt8) : Option Nat → Prop
  | some q => q ≤ L.length ∧ ∃ A c, bk w gc = some (cut A (L.length - q) c true) ∧ L.length - q ≤ c ∧ (q < L.length → A = some ⟨gb, q, none⟩)
  | none => KB w gc
def stOf (L : List UInt8) (p : Option Nat) : Option (List UInt8) := p.map fun q => L.drop q
def posB (n : Int) (L : List UInt8) : Option Nat → Option Nat
  | none => none
  | some q => if n < 0 ∨ ((L.length - q : Nat) : Int) < n then none else some (q + n.toNat)
theorem posB_st (n : Int) (L : List UInt8) (p : Option Nat) : (cutB n (stOf L p)).2 = stOf L (posB n L p) := by
  cases p with
  | none => rfl
  | some q =>
    show (cutB n (some (L.drop q))).2 = _
    unfold cutB posB stOf
    simp only [List.length_drop]
    split
    · rfl
    · simp
theorem PB.rd {w : World} {gb q m n : Nat} {L : List UInt8} (h : PB w gb L) (hg : gb < n) : Rd w n (some ⟨gb, q, none⟩) ((L.drop q).take m) := fun h0 => by
  rw [List.length_take, List.length_drop] at h0
  obtain ⟨cur, hb, hl, ht⟩ := h (by omega)
  refine ⟨gb, q, rfl, hg, fun j hj => ?_⟩
  rw [List.length_take, List.length_drop] at hj
  rw [bk_cell hb]
  have e : (cur.toList.take L.length)[q + j]? = (L.map B)[q + j]? := by rw [ht]
  rw [List.getElem?_take_of_lt (by omega), List.getElem?_map, List.getElem?_eq_getElem (show q + j < L.length by omega)] at e
  rw [← Array.getElem?_toList]
  simpa using e
theorem PB.grown {w w' : World} {gb g : Nat} {L : List UInt8} (h : PB w gb L) (hg : w.grownBy w' (some g)) (hne : gb ≠ g) : PB w' gb L := fun h0 => by
  obtain ⟨cur, hb, h1, h2⟩ := h h0
  exact ⟨cur, (hg.block gb (bk_lt hb) (fun e => hne (by injection e))).trans hb, h1, h2⟩
def PTook (gc gb : Nat) (L : List UInt8) (p : Option Nat) (n : Int) (w : World) (e : Ending) (w' : World) : Prop :=
  ∃ A, e = .returned (.slice A (cutB n (stOf L p)).1.length (cutB n (stOf L p)).1.length) ∧ (0 < (cutB n (stOf L p)).1.length → ∃ q, p = some q ∧ A = some ⟨gb, q, none⟩ ∧ posB n L p = some (q + (cutB n (stOf L p)).1.length) ∧ q + (cutB n (stOf L p)).1.length ≤ L.length ∧ (cutB n (stOf L p)).1 = (L.drop q).take (cutB n (stOf L p)).1.length) ∧
    PK w' gc gb L (posB n L p) ∧ w.grownBy w' (some gc)
theorem Chg.grown {g : Nat} {o : Obj} {w w' : World} (h : Chg g o w w') : w.grownBy w' (some g) := h.only.grown
theorem PK.next {w w' : World} {gc gb q m N c : Nat} {L : List UInt8} {A : Option Addr} (hq : q ≤ L.length) (hN : N = L.length - q) (hc : N ≤ c) (hm : m ≤ N) (hA : q < L.length → A = some ⟨gb, q, none⟩) (h : Chg gc (cut (adv A c m) (N - m) (c - m) true) w w') : PK w' gc gb L (some (q + m)) := by
  refine ⟨by omega, adv A c m, c - m, ?_, by omega, fun hlt => ?_⟩
  · rw [show L.length - (q + m) = N - m by omega]; exact h.new
  · have := hA (by omega)
    subst this
    unfold adv
    rw [if_neg (by omega)]
    show some (Addr.add _ m) = _
    unfold Addr.add
    split
    · rename_i h0; rw [h0]; rfl
    · rfl
theorem pbytes_any (gc gb : Nat) (L : List UInt8) (p : Option Nat) (n : Int) (w : World) (h : PK w gc gb L p) :
    Calls Try.prog 120 #[.pointer (some ⟨gc, 0, none⟩), .int .i64 n] w (PTook gc gb L p n w) := by
  cases p with
  | none =>
    obtain ⟨A, N, c, hb⟩ := h
    refine (bytes_bad gc N c A false n w hb (.inl rfl)).mono ?_
    rintro e w' ⟨rfl, hch⟩
    exact ⟨none, rfl, fun h0 => absurd h0 (by simp [stOf, cutB]), ⟨_, _, _, hch.new⟩, hch.grown⟩
  | some q =>
    obtain ⟨hq, A, c, hb, hc, hA⟩ := h
    by_cases hbad : n < 0 ∨ ((L.length - q : Nat) : Int) < n
    · refine (bytes_bad gc _ c A true n w hb (.inr hbad)).mono ?_
      rintro e w' ⟨rfl, hch⟩
      have e1 : cutB n (stOf L (some q)) = ([], none) := cutB_bad (by rw [List.length_drop]; exact hbad)
      have e2 : posB n L (some q) = none := by simp only [posB, if_pos hbad]
      unfold PTook
      rw [e1, e2]
      exact ⟨none, rfl, fun h0 => absurd h0 (by simp), ⟨_, _, _, hch.new⟩, hch.grown⟩
    · obtain ⟨m, rfl⟩ := Int.eq_ofNat_of_zero_le (show 0 ≤ n by omega)
      have hm : m ≤ L.length - q := by omega
      refine (bytes_good gc (L.length - q) c A m w hb hm hc).mono ?_
      rintro e w' ⟨rfl, hch⟩
      have e1 : cutB (m : Int) (stOf L (some q)) = ((L.drop q).take m, some ((L.drop q).drop m)) := cutB_good (by rw [List.length_drop]; exact hm)
      have e2 : posB (m : Int) L (some q) = some (q + m) := by simp only [posB, if_neg hbad]; simp
      have e3 : ((L.drop q).take m).length = m := by rw [List.length_take, List.length_drop]; omega
      unfold PTook
      rw [show ((m : Nat) : Int) = (m : Int) from rfl, e1, e2]
      simp only [e3]
      exact ⟨A, rfl, fun h0 => ⟨q, rfl, hA (by omega), rfl, by omega, rfl⟩, PK.next hq rfl hc hm hA hch, hch.grown⟩
theorem prest_any (gc gb : Nat) (L : List UInt8) (p : Option Nat) (w : World) (h : PK w gc gb L p) :
    Calls Try.prog 125 #[.pointer (some ⟨gc, 0, none⟩)] w (PTook gc gb L p ((stOf L p).getD []).length w) := by
  cases p with
  | none =>
    obtain ⟨A, N, c, hb⟩ := h
    refine (rest_bad gc N c A w hb).mono ?_
    rintro e w' ⟨rfl, rfl⟩
    exact ⟨none, rfl, fun h0 => absurd h0 (by simp [stOf, cutB]), ⟨A, N, c, hb⟩, World.grownBy.refl _ _⟩
  | some q =>
    obtain ⟨hq, A, c, hb, hc, hA⟩ := h
    refine (rest_good gc (L.length - q) c A w hb hc).mono ?_
    rintro e w' ⟨rfl, hch⟩
    have e0 : ((stOf L (some q)).getD []).length = L.length - q := by simp [stOf]
    have e1 : cutB ((L.length - q : Nat) : Int) (stOf L (some q)) = ((L.drop q).take (L.length - q), some ((L.drop q).drop (L.length - q))) := cutB_good (by rw [List.length_drop]; exact Nat.le_refl _)
    have e2 : posB ((L.length - q : Nat) : Int) L (some q) = some (q + (L.length - q)) := by simp only [posB]; rw [if_neg (by omega)]; simp
    have e3 : ((L.drop q).take (L.length - q)).length = L.length - q := by rw [List.length_take, List.length_drop]; omega
    unfold PTook
    rw [e0, e1, e2]
    simp only [e3]
    exact ⟨A, rfl, fun h0 => ⟨q, rfl, hA (by omega), rfl, by omega, rfl⟩, PK.next hq rfl hc (Nat.le_refl _) hA (by rw [Nat.sub_self]; exact hch), hch.grown⟩
def PNum (gc gb : Nat) (L : List UInt8) (p : Option Nat) (n : Int) (w : World) (e : Ending) (w' : World) : Prop :=
  e = .returned (.int .u64 (val (cutB (ask n) (stOf L p)).1)) ∧ PK w' gc gb L (posB (ask n) L p) ∧ w.grownBy w' (some gc)
theorem pnum_any (gc gb : Nat) (L : List UInt8) (p : Option Nat) (n : Int) (w : World) (h : PK w gc gb L p) (hB : PB w gb L) (hg : gb < gc) :
    Calls Try.prog 127 #[.pointer (some ⟨gc, 0, none⟩), .int .i64 n] w (PNum gc gb L p n w) := by
  cases p with
  | none =>
    obtain ⟨A, N, c, hb⟩ := h
    refine (num_take gc N c A false n w hb (.inl rfl)).mono ?_
    rintro e w' ⟨rfl, hch⟩
    exact ⟨rfl, ⟨_, _, _, hch.new⟩, hch.grown⟩
  | some q =>
    obtain ⟨hq, A, c, hb, hc, hA⟩ := h
    by_cases hbad : n < 1 ∨ 8 < n ∨ ((L.length - q : Nat) : Int) < n
    · refine (num_take gc _ c A true n w hb (.inr hbad)).mono ?_
      rintro e w' ⟨rfl, hch⟩
      have hb2 : ask n < 0 ∨ ((L.length - q : Nat) : Int) < ask n := by unfold ask; split <;> omega
      have e1 : cutB (ask n) (stOf L (some q)) = ([], none) := cutB_bad (by rw [List.length_drop]; exact hb2)
      have e2 : posB (ask n) L (some q) = none := by simp only [posB, if_pos hb2]
      unfold PNum
      rw [e1, e2]
      exact ⟨rfl, ⟨_, _, _, hch.new⟩, hch.grown⟩
    · obtain ⟨m, rfl⟩ := Int.eq_ofNat_of_zero_le (show 0 ≤ n by omega)
      have hm : m ≤ L.length - q := by omega
      have hask : ask (m : Int) = m := by unfold ask; rw [if_neg (by omega)]
      have hA' := hA (by omega)
      subst hA'
      refine (num_good gc (L.length - q) c _ ((L.drop q).take m) m w hb (hB.rd hg) (by rw [List.length_take, List.length_drop]; omega) (by omega) (by omega) hm hc).mono ?_
      rintro e w' ⟨rfl, hch⟩
      have e1 : cutB (m : Int) (stOf L (some q)) = ((L.drop q).take m, some ((L.drop q).drop m)) := cutB_good (by rw [List.length_drop]; exact hm)
      have e2 : posB (m : Int) L (some q) = some (q + m) := by simp only [posB]; rw [if_neg (by omega)]; simp
      unfold PNum
      rw [show ((m : Nat) : Int) = (m : Int) from rfl, hask, e1, e2]
      exact ⟨rfl, PK.next hq rfl hc hm hA hch, hch.grown⟩
theorem PK.obj {w : World} {gc gb : Nat} {L : List UInt8} {p : Option Nat} (h : PK w gc gb L p) : ∃ cs, Go.Proofs.Ytjimmfbjhkoekaa.bk w gc = some (.cells cs 131 (0, 0)) := by
  cases p with
  | none => obtain ⟨A, N, c, hb⟩ := h; exact ⟨_, hb⟩
  | some q => obtain ⟨_, A, c, hb, _⟩ := h; exact ⟨_, hb⟩
theorem PK.keep {w w' : World} {gc gb : Nat} {L : List UInt8} {p : Option Nat} (h : PK w gc gb L p) (hk : Go.Proofs.Ytjimmfbjhkoekaa.bk w' gc = Go.Proofs.Ytjimmfbjhkoekaa.bk w gc) : PK w' gc gb L p := by
  cases p with
  | none => obtain ⟨A, N, c, hb⟩ := h; exact ⟨A, N, c, hk.trans hb⟩
  | some q => obtain ⟨h1, A, c, hb, h2⟩ := h; exact ⟨h1, A, c, hk.trans hb, h2⟩
theorem PB.keep {w w' : World} {gb : Nat} {L : List UInt8} (h : PB w gb L) (hk : gb < w.heap.size → Go.Proofs.Ytjimmfbjhkoekaa.bk w' gb = Go.Proofs.Ytjimmfbjhkoekaa.bk w gb) : PB w' gb L := fun h0 => by
  obtain ⟨cur, hb, h1, h2⟩ := h h0
  exact ⟨cur, (hk (bk_lt hb)).trans hb, h1, h2⟩
/-- A cutter of a slice that was just made. -/
theorem of_PK (A : Option Addr) (l : List UInt8) (c : Nat) (w : World) (h : Rd w w.heap.size A l) (hA : A = none → l = [] ∧ c = 0) (hl : l.length < 2 ^ 46) (d : Nat) (hd : d < w.heap.size) :
    Calls Try.prog 44 #[.slice A l.length c] w fun e w' => ∃ g gb, e = .returned (.pointer (some ⟨g, 0, none⟩)) ∧ w.heap.size ≤ g ∧ d ≤ gb ∧ gb < g ∧ (0 < l.length → w.heap.size ≤ gb) ∧ PK w' g gb l (some 0) ∧ PB w' gb l ∧ Below w.heap.size w w' := by
  refine (of_cut A l c w h hA hl).mono ?_
  rintro e w' ⟨g, A', c', rfl, hg, hb, ho, hr, hlc, hbel⟩
  rcases Nat.eq_zero_or_pos l.length with h0 | h0
  · have : l = [] := List.eq_nil_of_length_eq_zero h0
    subst this
    exact ⟨g, d, rfl, hg, Nat.le_refl _, by omega, fun h => absurd h (by simp), ⟨Nat.le_refl _, A', c', hb, by simp, fun h => absurd h (by simp)⟩, fun h => absurd h (by simp), hbel⟩
  · obtain ⟨_, ⟨_, e0⟩ | ⟨gb, cap, cur, e1, hgb, hbk, hle, _, hcs, ht⟩⟩ := ho
    · omega
    · cases e1
      obtain ⟨b, o, e2, hlt, _⟩ := hr h0
      cases e2
      exact ⟨g, gb, rfl, hg, by omega, hlt, fun _ => hgb, ⟨by omega, _, c', hb, hlc, fun _ => rfl⟩, fun _ => ⟨cur, hbk, by omega, by simpa using ht⟩, hbel⟩
theorem bytes_at (gc gb : Nat) (L : List UInt8) (q m : Nat) (w : World) (h : PK w gc gb L (some q)) (hm : q + m ≤ L.length) (h0 : 0 < m) :
    Calls Try.prog 120 #[.pointer (some ⟨gc, 0, none⟩), .int .i64 m] w fun e w' => e = .returned (.slice (some ⟨gb, q, none⟩) m m) ∧ PK w' gc gb L (some (q + m)) ∧ w.grownBy w' (some gc) := by
  refine (pbytes_any gc gb L (some q) m w h).mono ?_
  have e1 : cutB (m : Int) (stOf L (some q)) = ((L.drop q).take m, some ((L.drop q).drop m)) := cutB_good (by rw [List.length_drop]; omega)
  have e2 : posB (m : Int) L (some q) = some (q + m) := by simp only [posB]; rw [if_neg (by omega)]; simp
  have e3 : ((L.drop q).take m).length = m := by rw [List.length_take, List.length_drop]; omega
  rintro e w' ⟨A, he, h1, h2, h3⟩
  rw [e1] at he h1
  rw [e2] at h1 h2
  simp only [e3] at he h1
  obtain ⟨q', hq, rfl, _⟩ := h1 h0
  cases hq
  exact ⟨he, h2, h3⟩
theorem num_at (gc gb : Nat) (L : List UInt8) (q m : Nat) (w : World) (h : PK w gc gb L (some q)) (hB : PB w gb L) (hg : gb < gc) (hm : q + m ≤ L.length) (h1 : 1 ≤ m) (h8 : m ≤ 8) :
    Calls Try.prog 127 #[.pointer (some ⟨gc, 0, none⟩), .int .i64 m] w fun e w' => e = .returned (.int .u64 (val ((L.drop q).take m))) ∧ PK w' gc gb L (some (q + m)) ∧ w.grownBy w' (some gc) := by
  refine (pnum_any gc gb L (some q) m w h hB hg).mono ?_
  have e0 : ask (m : Int) = m := by unfold ask; rw [if_neg (by omega)]
  have e1 : cutB (m : Int) (stOf L (some q)) = ((L.drop q).take m, some ((L.drop q).drop m)) := cutB_good (by rw [List.length_drop]; omega)
  have e2 : posB (m : Int) L (some q) = some (q + m) := by simp only [posB]; rw [if_neg (by omega)]; simp
  rintro e w' ⟨he, h2, h3⟩
  rw [e0] at he h2
  rw [e1] at he
  rw [e2] at h2
  exact ⟨he, h2, h3⟩
theorem rest_at (gc gb : Nat) (L : List UInt8) (q : Nat) (w : World) (h : PK w gc gb L (some q)) :
    Calls Try.prog 125 #[.pointer (some ⟨gc, 0, none⟩)] w fun e w' => ∃ A, e = .returned (.slice A (L.length - q) (L.length - q)) ∧ (q < L.length → A = some ⟨gb, q, none⟩) ∧ PK w' gc gb L (some L.length) ∧ w.grownBy w' (some gc) := by
  have hq := h.1
  have e0 : ((stOf L (some q)).getD []).length = L.length - q := by simp [stOf]
  have C := prest_any gc gb L (some q) w h
  rw [e0] at C
  have e1 : cutB ((L.length - q : Nat) : Int) (stOf L (some q)) = ((L.drop q).take (L.length - q), some ((L.drop q).drop (L.length - q))) := cutB_good (by rw [List.length_drop]; exact Nat.le_refl _)
  have e2 : posB ((L.length - q : Nat) : Int) L (some q) = some L.length := by simp only [posB]; rw [if_neg (by omega)]; simp; omega
  have e3 : ((L.drop q).take (L.length - q)).length = L.length - q := by rw [List.length_take, List.length_drop]; omega
  refine C.mono ?_
  rintro e w' ⟨A, he, h1, h2, h3⟩
  rw [e1] at he h1
  rw [e2] at h1 h2
  simp only [e3] at he h1
  refine ⟨A, he, fun hlt => ?_, h2, h3⟩
  obtain ⟨q', hq', hA, _⟩ := h1 (by omega)
  cases hq'
  exact hA
end Go.Proofs.Ytjimmfbjhkoekaa
/- Lists in a book: worlds in which given cells alone are others; a strip of bytes: fill, fillRoom, kept. -/
namespace Go.Proofs.Ytjimmfbjhkoekaa
open Go.RowKit
set_option maxRecDepth 100000
/-- Of what there was the cells of S alone may hold something else. -/
structure Wrt (S : Nat → Nat → Prop) (w w' : World) : Prop where
  os : w'.os = w.os
  tape : w'.tape = w.tape
  output : w'.output = w.output
  size : w.heap.size ≤ w'.heap.size
  blk : ∀ b cur t fr, bk w b = some (.cells cur t fr) → ∃ cur', bk w' b = some (.cells cur' t fr) ∧ cur'.size = cur.size ∧ ∀ j, ¬ S b j → cur'[j]? = cur[j]?
  oth : ∀ b, b < w.heap.size → (∀ j, ¬ S b j) → bk w' b = bk w b
section
variable {S S' : Nat → Nat → Prop} {w w' w'' : World}
theorem Wrt.refl (S : Nat → Nat → Prop) (w : World) : Wrt S w w := ⟨rfl, rfl, rfl, Nat.le_refl _, fun _ cur _ _ h => ⟨cur, h, rfl, fun _ _ => rfl⟩, fun _ _ _ => rfl⟩
theorem Wrt.mono (h : Wrt S w w') (hs : ∀ b j, S b j → S' b j) : Wrt S' w w' :=
  ⟨h.os, h.tape, h.output, h.size, fun b cur t fr hb => by
    obtain ⟨c, h1, h2, h3⟩ := h.blk b cur t fr hb
    exact ⟨c, h1, h2, fun j hj => h3 j fun hs' => hj (hs _ _ hs')⟩, fun b hb hj => h.oth b hb fun j hs' => hj j (hs _ _ hs')⟩
theorem Wrt.trans (h : Wrt S w w') (k : Wrt S w' w'') : Wrt S w w'' :=
  ⟨k.os.trans h.os, k.tape.trans h.tape, k.output.trans h.output, Nat.le_trans h.size k.size, fun b cur t fr hb => by
    obtain ⟨c, h1, h2, h3⟩ := h.blk b cur t fr hb
    obtain ⟨c', k1, k2, k3⟩ := k.blk b c t fr h1
    exact ⟨c', k1, k2.trans h2, fun j hj => (k3 j hj).trans (h3 j hj)⟩,
    fun b hb hj => (k.oth b (Nat.lt_of_lt_of_le hb h.size) hj).trans (h.oth b hb hj)⟩
theorem Wrt.of_below (h : Below w.heap.size w w') : Wrt S w w' :=
  ⟨h.os, h.tape, h.output, h.size, fun b cur _ _ hb => ⟨cur, (h.block b (bk_lt hb)).trans hb, rfl, fun _ _ => rfl⟩, fun b hb _ => h.block b hb⟩
theorem Wrt.alloc (h : Wrt S w w') (o : Obj) : Wrt S w (w'.alloc o) := h.trans (Wrt.of_below ((Below.refl _ _).alloc (Nat.le_refl _) o))
theorem Wrt.set {b i : Nat} (h : Wrt S w w') (hs : S b i) (v : Value) : Wrt S w (w'.setCell ⟨b, i, none⟩ v) :=
  h.trans ⟨rfl, rfl, rfl, by simp [World.setCell], fun k cur t fr hk => by
    by_cases e : k = b
    · subst e
      refine ⟨cur.setIfInBounds i v, by rw [bk_setCell_same, hk]; rfl, by simp, fun j hj => ?_⟩
      rw [Array.getElem?_setIfInBounds_ne]
      rintro rfl
      exact hj hs
    · exact ⟨cur, (bk_setCell_other _ _ _ _ _ e).trans hk, rfl, fun _ _ => rfl⟩,
    fun k hk hj => bk_setCell_other _ _ _ _ _ (by rintro rfl; exact hj i hs)⟩
/-- A cell that the call made. -/
theorem Wrt.set_new {b i : Nat} (h : Wrt S w w') (hb : w.heap.size ≤ b) (v : Value) : Wrt S w (w'.setCell ⟨b, i, none⟩ v) :=
  ⟨h.os, h.tape, h.output, by simpa [World.setCell] using h.size, fun k cur t fr hk => by
    obtain ⟨c, h1, h2, h3⟩ := h.blk k cur t fr hk
    exact ⟨c, (bk_setCell_other _ _ _ _ _ (by have := bk_lt hk; omega)).trans h1, h2, h3⟩,
    fun k hk hj => (bk_setCell_other _ _ _ _ _ (by omega)).trans (h.oth k hk hj)⟩
theorem Wrt.below {n : Nat} (h : Wrt S w w') (hn : n ≤ w.heap.size) (hs : ∀ b j, S b j → n ≤ b) : Below n w w' :=
  ⟨h.os, h.tape, h.output, h.size, fun k hk => h.oth k (by omega) fun j hj => by have := hs _ _ hj; omega⟩
end
/-- The cells of a list and of its room: c of them, of which n are the list's. -/
def rg (A : Option Addr) (lo hi : Nat) (b j : Nat) : Prop := ∃ o, A = some ⟨b, o, none⟩ ∧ o + lo ≤ j ∧ j < o + hi
/-- They lie in a block that is known. -/
def Room (w : World) (A : Option Addr) (c : Nat) (t : TypeId) : Prop := 0 < c → ∃ b o cur, A = some ⟨b, o, none⟩ ∧ bk w b = some (.cells cur t (0, 0)) ∧ o + c ≤ cur.size
theorem Room.wrt {S : Nat → Nat → Prop} {w w' : World} {A : Option Addr} {c : Nat} {t : TypeId} (h : Room w A c t) (hw : Wrt S w w') : Room w' A c t := fun hc => by
  obtain ⟨b, o, cur, rfl, hb, hl⟩ := h hc
  obtain ⟨cur', h1, h2, _⟩ := hw.blk _ _ _ _ hb
  exact ⟨b, o, cur', rfl, h1, by omega⟩
/-- What some of the cells hold. -/
def Has (w : World) (A : Option Addr) (lo hi : Nat) (v : Value) : Prop := ∀ j, lo ≤ j → j < hi → ∃ b o, A = some ⟨b, o, none⟩ ∧ w.cell? ⟨b, o + j, none⟩ = some v
/-- A strip's value. -/
abbrev strip (A : Option Addr) (n c : Nat) (i x : UInt8) : Value := .agg #[.slice A n c, B i, B x]
theorem fill_any (A : Option Addr) (n c : Nat) (i x : UInt8) (w : World) (h : Room w A c 5) (hn : n ≤ c) (hc : c ≤ 9223372036854775807) :
    Calls Try.prog 108 #[strip A n c i x] w fun e w' => e = .returned (.tuple #[]) ∧ Wrt (rg A 0 n) w w' ∧ Has w' A 0 n (B i) := by
  have H := Lib.hid h
  clear h
  go_enter Try.func108, Try.ntmps108
  go_wp2
  go_loopw [2] (fun i' wr => ∃ k : Nat, k ≤ n ∧ i' = .int .i64 k ∧ Wrt (rg A 0 n) w wr ∧ w.heap.size + 1 ≤ wr.heap.size ∧ bk wr w.heap.size = some (.cells #[.slice A n c, B i, B x] 76 (0, 0)) ∧ Has wr A 0 k (B i)) (fun i _ => n - (intOf i).toNat)
  case atStart => exact ⟨0, by omega, rfl, (Wrt.refl _ _).alloc _, by simp, bk_alloc_at _ _ _ rfl, fun j _ h => absurd h (by omega)⟩
  case round =>
    obtain ⟨k, hk, rfl, hW, hsz, hbox, hhas⟩ := hrel
    have c0 := bk_cell hbox 0
    have c1 := bk_cell hbox 1
    simp at c0 c1
    have HB := Lib.hid hbox
    clear hbox
    by_cases hlt : k < n
    · have d1 : decide ((k : Int) < (n : Int)) = true := by simp; omega
      obtain ⟨b, o, cur, rfl, hb, hle⟩ := (H.out.wrt hW) (by omega)
      have hlt2 := bk_lt hb
      have hbl : b < w.heap.size := by
        obtain ⟨b', o', cur', e, hb', _⟩ := H.out (by omega)
        cases e
        exact bk_lt hb'
      have hu := bk_cell hb (o + k)
      rw [Array.getElem?_eq_getElem (by omega)] at hu
      have hfz := bk_frozen hb (o + k)
      have HH := Lib.hid hhas
      have HC := Lib.hid hb
      clear hb hhas
      go_wp2
      go_roundw
      case rel =>
        refine ⟨k + 1, by omega, by go_num, hW.set ⟨o, rfl, by omega, by omega⟩ _, by simpa [World.setCell] using hsz, (bk_setCell_other _ _ _ _ _ (by omega)).trans HB.out, fun j h0 h1 => ?_⟩
        refine ⟨b, o, rfl, ?_⟩
        have hnew : bk (wr.setCell ⟨b, o + k, none⟩ (B i)) b = some (.cells (cur.setIfInBounds (o + k) (B i)) 5 (0, 0)) := by rw [bk_setCell_same, HC.out]; rfl
        by_cases e : j = k
        · subst e
          rw [bk_cell hnew, Array.getElem?_setIfInBounds_self_of_lt (by omega)]
        · obtain ⟨b', o', e', hcell⟩ := HH.out j (by omega) (by omega)
          cases e'
          rw [bk_cell hnew, Array.getElem?_setIfInBounds_ne (by omega), ← hcell, bk_cell HC.out]
      case measure => simp [intOf]; omega
    · have d1 : decide ((k : Int) < (n : Int)) = false := by simp; omega
      obtain rfl : k = n := by omega
      clear hlt
      go_wp2
      go_end0
      exact ⟨rfl, hW, hhas⟩
theorem fillRoom_any (A : Option Addr) (n c : Nat) (i x : UInt8) (w : World) (h : Room w A c 5) (hn : n ≤ c) (hc : c ≤ 9223372036854775807) :
    Calls Try.prog 109 #[strip A n c i x] w fun e w' => e = .returned (.tuple #[]) ∧ Wrt (rg A n c) w w' ∧ Has w' A n c (B x) := by
  have H := Lib.hid h
  clear h
  have s1 : decide ((n : Int) ≤ (c : Int)) = true := by simp; omega
  by_cases hnc : c = n
  · subst hnc
    go_enter Try.func109, Try.ntmps109
    go_wp2
    go_loopw [3] (fun i' wr => i' = .int .i64 0 ∧ w.alloc (.cells #[.slice A c c, B i, B x] 76) = wr) (fun i _ => 0)
    case atStart => exact ⟨rfl, rfl⟩
    case round =>
      obtain ⟨rfl, rfl⟩ := hrel
      go_wp2
      go_end0
      exact ⟨rfl, (Wrt.refl _ _).alloc _, fun j _ _ => by omega⟩
  · have hlt : n < c := by omega
    obtain ⟨b, o, cur0, rfl, hb0, hle0⟩ := H.out (by omega)
    have hbl := bk_lt hb0
    clear hb0 hle0
    go_enter Try.func109, Try.ntmps109
    go_wp2
    have hcn : ((c : Int) - (n : Int)).toNat = c - n := by omega
    go_loopw [3] (fun i' wr => ∃ k : Nat, k ≤ c - n ∧ i' = .int .i64 k ∧ Wrt (rg (some ⟨b, o, none⟩) n c) w wr ∧ w.heap.size + 1 ≤ wr.heap.size ∧ bk wr w.heap.size = some (.cells #[.slice (some ⟨b, o, none⟩) n c, B i, B x] 76 (0, 0)) ∧ Has wr (some ⟨b, o, none⟩) n (n + k) (B x)) (fun i _ => c - n - (intOf i).toNat)
    case atStart => exact ⟨0, by omega, rfl, (Wrt.refl _ _).alloc _, by simp, bk_alloc_at _ _ _ rfl, fun j _ h => absurd h (by omega)⟩
    case round =>
      obtain ⟨k, hk, rfl, hW, hsz, hbox, hhas⟩ := hrel
      have c1 := bk_cell hbox 2
      simp at c1
      have HB := Lib.hid hbox
      clear hbox
      by_cases hlt2 : k < c - n
      · have d1 : decide ((k : Int) < (c : Int) - (n : Int)) = true := by simp; omega
        have d2 : decide (k < c - n) = true := by simp; omega
        have d3 : (k : Int) < ((c - n : Nat) : Int) := by omega
        obtain ⟨b', o', cur, e, hb, hle⟩ := (H.out.wrt hW) (by omega)
        cases e
        have hlt3 := bk_lt hb
        have hu := bk_cell hb (o + n + k)
        rw [Array.getElem?_eq_getElem (by omega)] at hu
        have hfz := bk_frozen hb (o + n + k)
        have HH := Lib.hid hhas
        have HC := Lib.hid hb
        clear hb hhas
        go_wp2
        go_roundw
        case rel =>
          refine ⟨k + 1, by omega, by go_num, hW.set ⟨o, rfl, by omega, by omega⟩ _, by simpa [World.setCell] using hsz, (bk_setCell_other _ _ _ _ _ (by omega)).trans HB.out, fun j h0 h1 => ?_⟩
          refine ⟨b, o, rfl, ?_⟩
          have hnew : bk (wr.setCell ⟨b, o + n + k, none⟩ (B x)) b = some (.cells (cur.setIfInBounds (o + n + k) (B x)) 5 (0, 0)) := by rw [bk_setCell_same, HC.out]; rfl
          by_cases e : j = n + k
          · subst e
            rw [bk_cell hnew, show o + (n + k) = o + n + k by omega, Array.getElem?_setIfInBounds_self_of_lt (by omega)]
          · obtain ⟨b', o', e', hcell⟩ := HH.out j (by omega) (by omega)
            cases e'
            rw [bk_cell hnew, Array.getElem?_setIfInBounds_ne (by omega), ← hcell, bk_cell HC.out]
        case measure => simp [intOf]; omega
      · have d1 : decide ((k : Int) < (c : Int) - (n : Int)) = false := by simp; omega
        have d2 : decide (k < c - n) = false := by simp; omega
        obtain rfl : k = c - n := by omega
        rw [show n + (c - n) = c by omega] at hhas
        clear hlt2
        go_wp2
        go_end0
        exact ⟨rfl, hW, hhas⟩
theorem kept_any (A : Option Addr) (n c : Nat) (i x : UInt8) (w : World) (h1 : Has w A 0 n (B i)) (h2 : Has w A n c (B x)) (hl : 0 < c → ∃ b o, A = some ⟨b, o, none⟩ ∧ b < w.heap.size) (hn : n ≤ c) (hc : c ≤ 9223372036854775807) :
    Calls Try.prog 110 #[strip A n c i x] w fun e w' => e = .returned (.bool true) ∧ Below w.heap.size w w' := by
  have H1 := Lib.hid h1; have H2 := Lib.hid h2; have HL := Lib.hid hl
  clear h1 h2 hl
  have s1 : decide ((n : Int) ≤ (c : Int)) = true := by simp; omega
  go_enter Try.func110, Try.ntmps110
  go_wp2
  go_loopw [3] (fun i' wr => ∃ k : Nat, k ≤ n ∧ i' = .int .i64 k ∧ Below w.heap.size w wr ∧ w.heap.size + 1 ≤ wr.heap.size ∧ bk wr w.heap.size = some (.cells #[.slice A n c, B i, B x] 76 (0, 0))) (fun i _ => n - (intOf i).toNat)
  case atStart => exact ⟨0, by omega, rfl, (Below.refl _ _).alloc (Nat.le_refl _) _, by simp, bk_alloc_at _ _ _ rfl⟩
  case round =>
    obtain ⟨k, hk, rfl, hW, hsz, hbox⟩ := hrel
    have c0 := bk_cell hbox 0
    have c1 := bk_cell hbox 1
    simp at c0 c1
    by_cases hlt : k < n
    · have d1 : decide ((k : Int) < (n : Int)) = true := by simp; omega
      obtain ⟨b, o, rfl, hcell⟩ := H1.out k (by omega) hlt
      obtain ⟨b', o', e, hbl⟩ := HL.out (by omega)
      cases e
      have hu : wr.cell? ⟨b, o + k, none⟩ = some (B i) := (hW.cell (p := ⟨b, o + k, none⟩) hbl).trans hcell
      have HB := Lib.hid hbox
      clear hbox hcell
      go_wp2
      refine wp_region_later (wr.heap.size) (by kernel_rfl) (by kernel_rfl) ?_
      repeat (go_big_quiet_step (fail))
      (first | refine wpQuiet_nil ?_ | (go_big_quiet_want; (try go_big_quiet_op); trace_state; fail))
      intro w1 hw'
      have q1 := later_elim hw'
      clear hw'
      go_wp2
      go_roundw
      case rel => exact ⟨k + 1, by omega, by go_num, hW.trans (q1.mono (by omega)), Nat.le_trans hsz q1.size, bk_keep q1 (by omega) HB.out⟩
      case measure => simp [intOf]; omega
    · have d1 : decide ((k : Int) < (n : Int)) = false := by simp; omega
      obtain rfl : k = n := by omega
      clear hlt
      have c2 := bk_cell hbox 2
      simp at c2
      have HB := Lib.hid hbox
      clear hbox
      by_cases hnc : c = k
      · subst hnc
        go_wp2
        go_loopw [5] (fun i' w' => i' = .int .i64 0 ∧ wr = w') (fun i _ => 0)
        case atStart => exact ⟨rfl, rfl⟩
        case round =>
          obtain ⟨rfl, rfl⟩ := hrel
          go_wp2
          go_ret
          exact ⟨rfl, hW⟩
      · have hlt : k < c := by omega
        obtain ⟨b, o, rfl, hbl⟩ := HL.out (by omega)
        have hcn : ((c : Int) - (k : Int)).toNat = c - k := by omega
        go_wp2
        go_loopw [5] (fun i' wq => ∃ m : Nat, m ≤ c - k ∧ i' = .int .i64 m ∧ Below w.heap.size w wq ∧ w.heap.size + 1 ≤ wq.heap.size ∧ bk wq w.heap.size = some (.cells #[.slice (some ⟨b, o, none⟩) k c, B i, B x] 76 (0, 0))) (fun i _ => c - k - (intOf i).toNat)
        case atStart => exact ⟨0, by omega, rfl, hW, hsz, HB.out⟩
        case round =>
          clear c0 c1 c2 HB hsz hW
          obtain ⟨m, hm, rfl, hW, hsz, hbox⟩ := hrel
          have c2 := bk_cell hbox 2
          simp at c2
          by_cases hlt2 : m < c - k
          · have d1 : decide ((m : Int) < (c : Int) - (k : Int)) = true := by simp; omega
            have d2 : decide (m < c - k) = true := by simp; omega
            have d3 : (m : Int) < ((c - k : Nat) : Int) := by omega
            obtain ⟨b', o', e, hcell⟩ := H2.out (k + m) (by omega) (by omega)
            cases e
            rw [show o + (k + m) = o + k + m by omega] at hcell
            have hu := (hW.cell (p := ⟨b, o + k + m, none⟩) hbl).trans hcell
            have HB := Lib.hid hbox
            clear hbox hcell
            go_wp2
            refine wp_region_later (wr.heap.size) (by kernel_rfl) (by kernel_rfl) ?_
            repeat (go_big_quiet_step (fail))
            (first | refine wpQuiet_nil ?_ | (go_big_quiet_want; (try go_big_quiet_op); trace_state; fail))
            intro w1 hw'
            have q1 := later_elim hw'
            clear hw'
            go_wp2
            go_roundw
            case rel => exact ⟨m + 1, by omega, by go_num, hW.trans (q1.mono (by omega)), Nat.le_trans hsz q1.size, bk_keep q1 (by omega) HB.out⟩
            case measure => simp [intOf]; omega
          · have d1 : decide ((m : Int) < (c : Int) - (k : Int)) = false := by simp; omega
            have d2 : decide (m < c - k) = false := by simp; omega
            clear hlt2 hbox
            go_wp2
            go_ret
            exact ⟨rfl, hW⟩
end Go.Proofs.Ytjimmfbjhkoekaa
/- The book of lists: one list more. -/
namespace Go.Proofs.Ytjimmfbjhkoekaa
open Go.RowKit
set_option maxRecDepth 100000
/-- A book that holds the lists vs. -/
def BK (w : World) (bb _base : Nat) (vs : List Value) : Prop := ∃ hv, bk w bb = some (.cells #[hv] 44 (0, 0)) ∧ w.ownsRow (bb + 1) 78 1 hv vs.length vs
/-- Only a book is another one. -/
structure BFr (bb : Nat) (w w' : World) : Prop where
  os : w'.os = w.os
  tape : w'.tape = w.tape
  output : w'.output = w.output
  size : w.heap.size ≤ w'.heap.size
  keep : ∀ k o, bk w k = some o → k ≠ bb → (∀ cur, o ≠ .cells cur 78 (0, 0)) → bk w' k = some o
  low : ∀ k, k < bb → bk w' k = bk w k
theorem BFr.trans {bb : Nat} {a b c : World} (h : BFr bb a b) (k : BFr bb b c) : BFr bb a c :=
  ⟨k.os.trans h.os, k.tape.trans h.tape, k.output.trans h.output, Nat.le_trans h.size k.size, fun j o hj hn ho => k.keep j o (h.keep j o hj hn ho) hn ho, fun j hj => (k.low j hj).trans (h.low j hj)⟩
theorem BFr.room {bb : Nat} {w w' : World} {A : Option Addr} {c : Nat} {t : TypeId} (h : BFr bb w w') (hr : Room w A c t) (hb : ∀ b o, A = some ⟨b, o, none⟩ → b ≠ bb) (ht : t ≠ 78) : Room w' A c t := fun hc => by
  obtain ⟨b, o, cur, rfl, h1, h2⟩ := hr hc
  exact ⟨b, o, cur, rfl, h.keep _ _ h1 (hb b o rfl) (fun cur' e => by cases e; exact ht rfl), h2⟩
theorem u8_mod (z : Int) : ∃ x : UInt8, Value.int .u8 (z % 256) = B x := by
  refine ⟨UInt8.ofNat (z % 256).toNat, ?_⟩
  rw [B]
  congr 1
  simp only [UInt8.toNat_ofNat']
  omega
theorem infoLeaf : (Try.prog.info? 78).map (fun i => (i.zero, i.size, i.bytes)) = some (some .nilIface, 1, 16) := by kernel_rfl
theorem ownsRow_header {w : World} {base : Nat} {e : TypeId} {size : Nat} {v : Value} {n : Nat} {xs : List Value} (h : w.ownsRow base e size v n xs) : ∃ A c, v = .slice A n c := by
  obtain ⟨_, ⟨rfl, rfl⟩ | ⟨g, cap, cur, rfl, _⟩⟩ := h
  · exact ⟨none, 0, rfl⟩
  · exact ⟨_, cap, rfl⟩
/-- append of one value, whatever it is, out of a literal slice of one. -/
theorem append_one {P : Program} {w : World} {ops : Array Oper} {rest : List Oper} {o : Oper} {a : Act} {Q : Exit → Act → World → Prop} (hgd : o.guard = none) (s x : Operand) (t : TypeId)
    (ho : o.op = .call { callee := .builtin .append, args := #[s, x], argTypes := #[t, t] }) (base : Nat) (e : TypeId) (i : TypeInfo) (z : Value) (bytes : Nat) (ht : P.underlying t = some (.slice e)) (hi : P.info? e = some i) (hz : i.zero = some z)
    (hsize : i.size = 1) (hby : i.bytes = bytes) (hzs : z.cells.size = 1) (hbs : bytes ≤ 1024) (v : Value) (n : Nat) (xs : List Value) (hs : a.eval s = v) (hown : w.ownsRow base e 1 v n xs) (hn : n < 2 ^ 36) (hbase : base ≤ w.heap.size)
    (g : Nat) (u : Value) (t' : TypeId) (fr : Nat × Nat) (hx : a.eval x = .slice (some ⟨g, 0, none⟩) 1 1) (hg : bk w g = some (.cells #[u] t' fr)) (hu : u.oneCell' = true)
    (h : ∀ v' w', w'.ownsRow base e 1 v' (n + 1) (xs ++ [u]) → w.grownBy w' v.ownBlock → wpList P ops Q rest (a.put o.dst v') w') : wpList P ops Q (o :: rest) a w :=
  wpList_append_own w hgd s x t ho base e i z 1 bytes ht hi hz hsize hby hzs (by omega) v n xs hs hown ⟨g, 0, none⟩ 1 1 [u] hx rfl
    (by intro j u' hj; match j, hj with | 0, hj => (simp at hj; subst hj; simpa [Addr.add] using bk_cell hg 0)) (by intro u' hu'; simp at hu'; subst hu'; exact hu) (by unfold maxLen; omega)
    (by have : (n + 1) * bytes ≤ (n + 1) * 1024 := Nat.mul_le_mul_left _ hbs; omega) hbase fun v' w' h1 h2 _ => h v' w' h1 h2
theorem bookNext_any (bb base : Nat) (vs : List Value) (w : World) (h : BK w bb base vs) (hl : vs.length < 2 ^ 30) :
    Calls Try.prog 42 #[.pointer (some ⟨bb, 0, none⟩)] w fun e w' => e = .returned (.int .i64 (1 + (vs.length : Int))) ∧ w = w' := by
  obtain ⟨hv, hb, ho⟩ := h
  obtain ⟨A, c, rfl⟩ := ownsRow_header ho
  have c0 := bk_cell hb 0
  simp at c0
  clear hb ho
  go_enter Try.func42, Try.ntmps42
  go_wp2
  go_ret
  exact ⟨rfl, rfl⟩
theorem bookBytes_any (bb base : Nat) (vs : List Value) (A : Option Addr) (n c : Nat) (w : World) (h : BK w bb base vs) (hl : vs.length < 2 ^ 30) (hbb : base ≤ bb) (hbase : base ≤ w.heap.size) :
    Calls Try.prog 16 #[.pointer (some ⟨bb, 0, none⟩), .slice A n c] w fun e w' => ∃ i x, e = .returned (.tuple #[]) ∧ BK w' bb base (vs ++ [.iface 76 (strip A n c i x)]) ∧ BFr bb w w' ∧ Below base w w' := by
  obtain ⟨i0, hi, hz0, hz1, hz2⟩ := info_parts infoLeaf
  have C := Lib.hid (bookNext_any bb base vs w h hl)
  obtain ⟨hv, hb, ho⟩ := h
  have c0 := bk_cell hb 0
  simp at c0
  have hbl := bk_lt hb
  have hf0 := bk_frozen hb 0
  have hne : hv.ownBlock ≠ some bb := fun e => by
    obtain ⟨_, ⟨rfl, _⟩ | ⟨g, cap, cur, rfl, _, hg, _⟩⟩ := ho
    · cases e
    · have : g = bb := by simpa [Value.ownBlock] using e
      subst this
      have hg' : bk w g = _ := hg
      rw [hb] at hg'
      cases hg'
  have HO := Lib.hid ho; have HB := Lib.hid hb; have HN := Lib.hid hne
  clear ho hb hne
  obtain ⟨N, hN⟩ : ∃ N, N = vs.length := ⟨_, rfl⟩
  have HNN := Lib.hid hN
  clear hN
  go_enter Try.func16, Try.ntmps16
  go_wp2_with fail
  refine C.out.mono ?_
  rintro e w1 ⟨rfl, rfl⟩
  clear C
  go_wp2_with (at_builtin; refine append_one rfl _ _ 42 rfl (bb + 1) 78 i0 .nilIface 16 Try.underlying42 hi hz0 hz1 hz2 rfl (by omega) _ _ _ rfl (HO.out.alloc _) (by omega) (by simp; omega) w.heap.size _ _ _ rfl (bk_alloc_at _ _ _ rfl) rfl ?_)
  intro v' w1 hown' hgrow
  have hbb1 := hgrow.block bb (by simp; omega) (fun e => HN.out e.symm)
  have hc1 : w1.cell? ⟨bb, 0, none⟩ = some hv := by
    rw [show w1.cell? ⟨bb, 0, none⟩ = _ from World.cell?_of_block (a := ⟨bb, 0, none⟩) hbb1, World.cell?_alloc_lt _ _ _ hbl]; exact c0
  have hb1 : bk w1 bb = some (.cells #[hv] 44 (0, 0)) := hbb1.trans ((heap_alloc_old w _ hbl).trans HB.out)
  have hf1 := bk_frozen hb1 0
  obtain ⟨i, ei⟩ := u8_mod (1 + (vs.length : Int))
  obtain ⟨x, ex⟩ := u8_mod (255 - (1 + (vs.length : Int)))
  rw [ei, ex] at hown'
  obtain ⟨A', c', rfl⟩ := ownsRow_header hown'
  obtain ⟨v', hv'⟩ : ∃ v', v' = Value.slice A' (vs.length + 1) c' := ⟨_, rfl⟩
  rw [← hv'] at hown'
  have hne' : v'.ownBlock ≠ some bb := fun e => by
    obtain ⟨_, ⟨rfl, _⟩ | ⟨g, cap, cur, rfl, _, hg, _⟩⟩ := hown'
    · cases e
    · have : g = bb := by simpa [Value.ownBlock] using e
      subst this
      have hg' : bk w1 g = _ := hg
      rw [hb1] at hg'
      cases hg'
  have hfin : BK (w1.setCell ⟨bb, 0, none⟩ v') bb base (vs ++ [.iface 76 (strip A n c i x)]) := by
    refine ⟨v', by rw [bk_setCell_same, hb1]; rfl, ?_⟩
    rw [List.length_append]
    exact ownsRow_setCell_other hown' hne' _
  have hfr : BFr bb w (w1.setCell ⟨bb, 0, none⟩ v') := by
    refine ⟨hgrow.os, hgrow.tape, hgrow.output, (by have := hgrow.size; simp [World.setCell] at this ⊢; omega), fun k o hk hn ho => ?_, fun k hk => ?_⟩
    rotate_left
    · rw [bk_setCell_other _ _ _ _ _ (by omega)]
      refine (hgrow.block k (by simp; omega) (fun e => ?_)).trans (heap_alloc_old w _ (by omega))
      have := (HO.out.lt k e.symm).1
      omega
    have hkl := bk_lt hk
    rw [bk_setCell_other _ _ _ _ _ hn]
    refine (hgrow.block k (by simp; omega) (fun e => ?_)).trans ((heap_alloc_old w _ hkl).trans hk)
    obtain ⟨_, ⟨rfl, _⟩ | ⟨g, cap, cur, rfl, _, hg, _⟩⟩ := HO.out
    · cases e
    · have : k = g := by simpa [Value.ownBlock] using e
      subst this
      have hg' : bk w k = _ := hg
      rw [hk] at hg'
      cases hg'
      exact ho _ rfl
  have hbel : Below base w (w1.setCell ⟨bb, 0, none⟩ v') :=
    (((Below.refl base w).alloc hbase _).grown hgrow (by have := hbase; simp only [World.size_alloc]; omega) (fun g hg => by have := (HO.out.lt g hg).1; omega)).setCell hbb _
  rw [hv'] at hfin hfr hbel
  have HF := Lib.hid (And.intro hfin (And.intro hfr hbel))
  clear hfin hfr hbel hown' hgrow hbb1 hb1 ei ex hne' hv'
  go_wp2_with fail
  go_end0
  exact ⟨i, x, rfl, HF.out.1, HF.out.2.1, HF.out.2.2⟩
end Go.Proofs.Ytjimmfbjhkoekaa
/- The book of lists: has each its own memory. -/
namespace Go.Proofs.Ytjimmfbjhkoekaa
open Go.RowKit
set_option maxRecDepth 100000
theorem wpList_invoke {P : Program} {w : World} {ops : Array Oper} {rest : List Oper} {o : Oper} {a : Act} {Q : Exit → Act → World → Prop} (hgd : o.guard = none) (recv : Operand) (name : String) (at' : Array TypeId)
    (ho : o.op = .call { callee := .invoke recv name, args := #[], argTypes := at' }) (T : TypeId) (v v' : Value) (f : FuncId) (r : Value) (R : World → Prop) (hr : a.eval recv = .iface T v)
    (hm : (method (P.types.size + Made.depth) T v name).run P w = .ok (f, v') w) (hf : (callFunc f #[v']).run P w = .ok (.enter f #[v']) w) (hc : Calls P f #[v'] w fun e w' => e = .returned r ∧ R w')
    (h : ∀ w', R w' → wpList P ops Q rest (a.put o.dst r) w') : wpList P ops Q (o :: rest) a w :=
  wpList_plain hgd fun K hK => by
    unfold Oper.wp execOp
    have hm' : (method (P.types.size + Made.depth) T v name).run P w = .ok (f, v') w := hm
    simp only [ho, resolve, hr, invoke, callMethod, Sem.run_bind, Sem.run_pure, Result.andThen_ok]
    have hp : (program).run P w = .ok P w := rfl
    simp only [Array.map_empty, Array.append_empty, show (#[Value.iface T v])[0]? = some (Value.iface T v) from rfl, show (#[Value.iface T v]).extract 1 (#[Value.iface T v]).size = #[] from rfl, Sem.run_bind, hp, Result.andThen_ok, hm', hf]
    rw [Oper.upon_enter]
    refine hc.mono ?_
    rintro e w' ⟨rfl, hR⟩
    exact hK _ _ (h w' hR)
theorem m_fill (A : Option Addr) (n c : Nat) (i x : UInt8) (w : World) : (method (Try.prog.types.size + Made.depth) 76 (strip A n c i x) "sojourner/sojournerlaw01.fill").run Try.prog w = .ok (108, strip A n c i x) w := by kernel_rfl
theorem m_fillRoom (A : Option Addr) (n c : Nat) (i x : UInt8) (w : World) : (method (Try.prog.types.size + Made.depth) 76 (strip A n c i x) "sojourner/sojournerlaw01.fillRoom").run Try.prog w = .ok (109, strip A n c i x) w := by kernel_rfl
theorem m_kept (A : Option Addr) (n c : Nat) (i x : UInt8) (w : World) : (method (Try.prog.types.size + Made.depth) 76 (strip A n c i x) "sojourner/sojournerlaw01.kept").run Try.prog w = .ok (110, strip A n c i x) w := by kernel_rfl
theorem e_fill (v : Array Value) (w : World) : (callFunc 108 v).run Try.prog w = .ok (.enter 108 v) w := by kernel_rfl
theorem e_fillRoom (v : Array Value) (w : World) : (callFunc 109 v).run Try.prog w = .ok (.enter 109 v) w := by kernel_rfl
theorem e_kept (v : Array Value) (w : World) : (callFunc 110 v).run Try.prog w = .ok (.enter 110 v) w := by kernel_rfl
/-- A list of a book. -/
structure Lf where
  A : Option Addr
  n : Nat
  c : Nat
  i : UInt8
  x : UInt8
abbrev Lf.val (l : Lf) : Value := .iface 76 (strip l.A l.n l.c l.i l.x)
/-- It is there, and lies behind base. -/
structure LfOK (base : Nat) (w : World) (l : Lf) : Prop where
  room : Room w l.A l.c 5
  le : l.n ≤ l.c
  small : l.c ≤ 9223372036854775807
  base : ∀ b j, rg l.A 0 l.c b j → base ≤ b
/-- No two of them share anything. -/
def Dis (L : List Lf) : Prop := ∀ (i j : Nat) (a b : Lf), i ≠ j → L[i]? = some a → L[j]? = some b → ∀ k m, rg a.A 0 a.c k m → rg b.A 0 b.c k m → False
def rgs (L : List Lf) (b j : Nat) : Prop := ∃ l ∈ L, rg l.A 0 l.c b j
theorem rg_mono {A : Option Addr} {lo hi lo' hi' b j : Nat} (h : rg A lo hi b j) (h1 : lo' ≤ lo) (h2 : hi ≤ hi') : rg A lo' hi' b j := by
  obtain ⟨o, e, h3, h4⟩ := h
  exact ⟨o, e, by omega, by omega⟩
theorem Has.keep {S : Nat → Nat → Prop} {w w' : World} {A : Option Addr} {lo hi : Nat} {v : Value} (h : Has w A lo hi v) (hw : Wrt S w w') (hs : ∀ b j, rg A lo hi b j → ¬ S b j) : Has w' A lo hi v := fun j h1 h2 => by
  obtain ⟨b, o, e, hc⟩ := h j h1 h2
  refine ⟨b, o, e, ?_⟩
  unfold World.cell? at hc
  split at hc
  · rename_i cur t fr hb
    obtain ⟨cur', h3, h4, h5⟩ := hw.blk b cur t fr hb
    rw [bk_cell h3, h5 (o + j) (hs _ _ ⟨o, e, by omega, by omega⟩)]
    simpa using hc
  · cases hc
theorem rgs_type {base b j : Nat} {w : World} {L : List Lf} (hL : ∀ l ∈ L, LfOK base w l) (h : rgs L b j) : ∃ cur, bk w b = some (.cells cur 5 (0, 0)) := by
  obtain ⟨l, hl, o, e, h1, h2⟩ := h
  obtain ⟨b', o', cur, e', hb, _⟩ := (hL l hl).room (by omega)
  rw [e] at e'
  cases e'
  exact ⟨cur, hb⟩
theorem Wrt.other {base k : Nat} {w w' : World} {L : List Lf} {cur : Array Value} {t : TypeId} {fr : Nat × Nat} (h : Wrt (rgs L) w w') (hL : ∀ l ∈ L, LfOK base w l) (hk : bk w k = some (.cells cur t fr)) (ht : t ≠ 5) : bk w' k = some (.cells cur t fr) :=
  (h.oth k (bk_lt hk) fun j hj => by
    obtain ⟨cur', hb⟩ := rgs_type hL hj
    rw [hk] at hb
    cases hb
    exact ht rfl).trans hk
theorem LfOK.wrt {S : Nat → Nat → Prop} {base : Nat} {w w' : World} {l : Lf} (h : LfOK base w l) (hw : Wrt S w w') : LfOK base w' l := ⟨h.room.wrt hw, h.le, h.small, h.base⟩
theorem BK.cellsAt {w : World} {bb base : Nat} {vs : List Value} (h : BK w bb base vs) : ∃ A c, bk w bb = some (.cells #[.slice A vs.length c] 44 (0, 0)) ∧ (0 < vs.length → ∃ g cur, A = some ⟨g, 0, none⟩ ∧ bk w g = some (.cells cur 78 (0, 0)) ∧ ∀ (j : Nat) (v : Value), vs[j]? = some v → cur[j]? = some v) := by
  obtain ⟨hv, hb, _, ⟨rfl, h0⟩ | ⟨g, cap, cur, rfl, _, hg, _, _, _, ht⟩⟩ := h
  · exact ⟨none, 0, by rw [hb, h0], fun hh => by omega⟩
  · refine ⟨_, cap, hb, fun _ => ⟨g, cur, rfl, hg, fun j v hj => ?_⟩⟩
    have hl : j < vs.length := (List.getElem?_eq_some_iff.1 hj).1
    rw [← ht, List.getElem?_take_of_lt (by omega)] at hj
    rw [← Array.getElem?_toList]
    exact hj
set_option maxHeartbeats 2000000 in
theorem apart_any (bb base : Nat) (L : List Lf) (w : World) (h : BK w bb base (L.map Lf.val)) (_hbb : base ≤ bb) (hbase : base ≤ w.heap.size) (hL : ∀ l ∈ L, LfOK base w l) (hd : Dis L) (hN : L.length < 2 ^ 40) :
    Calls Try.prog 17 #[.pointer (some ⟨bb, 0, none⟩)] w fun e w' => e = .returned (.bool true) ∧ Below base w w' := by
  obtain ⟨A, cp, hb, hg⟩ := h.cellsAt
  rw [List.length_map] at hb hg
  obtain ⟨N, hNL⟩ : ∃ N, N = L.length := ⟨_, rfl⟩
  rw [← hNL] at hb hg hN
  have HB := Lib.hid hb; have HG := Lib.hid hg; have HL := Lib.hid hL; have HD := Lib.hid hd; have HNL := Lib.hid hNL
  have c0 := bk_cell hb 0
  simp at c0
  clear hb hg hL hd h hNL
  by_cases hbig : 120 < N
  · have d1 : decide (120 < (N : Int)) = true := by simp; omega
    have d2 : decide (120 < N) = true := by simp; omega
    go_enter Try.func17, Try.ntmps17
    go_wp2
    go_ret
    exact ⟨rfl, Below.refl _ _⟩
  · have d1 : decide (120 < (N : Int)) = false := by simp; omega
    have d2 : decide (120 < N) = false := by simp; omega
    have hN2 : N ≤ 120 := by omega
    clear hbig
    go_enter Try.func17, Try.ntmps17
    go_wp2
    go_loopw [3] (fun i wr => ∃ k : Nat, k ≤ N ∧ i = .int .i64 k ∧ Wrt (rgs L) w wr ∧ Hid (∀ (m : Nat) (l : Lf), L[m]? = some l → m < k → Has wr l.A 0 l.n (B l.i))) (fun i _ => N - (intOf i).toNat)
    case atStart => exact ⟨0, by omega, rfl, Wrt.refl _ _, Lib.hid fun m l _ h => absurd h (by omega)⟩
    case round =>
      obtain ⟨k, hk, rfl, hW, hdone⟩ := hrel
      have c1 := bk_cell (hW.other HL.out HB.out (by decide)) 0
      simp at c1
      by_cases hlt : k < N
      · have d3 : decide ((k : Int) < (N : Int)) = true := by simp; omega
        obtain ⟨g, cur, rfl, hg, hcells⟩ := HG.out (by omega)
        obtain ⟨l, hl⟩ : ∃ l, L[k]? = some l := ⟨L[k]'(by rw [← HNL.out]; exact hlt), List.getElem?_eq_getElem _⟩
        have hlm : l ∈ L := List.mem_of_getElem? hl
        have c2 := bk_cell (hW.other HL.out hg (by decide)) k
        rw [hcells k l.val (by rw [List.getElem?_map, hl]; rfl)] at c2
        have C := Lib.hid (fill_any l.A l.n l.c l.i l.x wr ((HL.out l hlm).wrt hW).room (HL.out l hlm).le (HL.out l hlm).small)
        have HLK := Lib.hid hl
        clear hg hcells hl
        go_wp2_with (refine wpList_invoke rfl _ _ _ rfl 76 _ _ 108 _ _ rfl (m_fill _ _ _ _ _ _) (e_fill _ _) C.out ?_)
        intro w1 hR1 hR2
        have HR := Lib.hid (And.intro hR1 hR2)
        clear hR1 hR2 C
        go_wp2_with fail
        go_roundw
        case rel =>
          refine ⟨k + 1, by omega, by go_num, hW.trans (HR.out.1.mono fun b j hs => ⟨l, hlm, rg_mono hs (Nat.le_refl _) (HL.out l hlm).le⟩), Lib.hid fun m l' hm hk' => ?_⟩
          by_cases e : m = k
          · subst e
            obtain rfl : l = l' := Option.some.inj (HLK.out.symm.trans hm)
            exact HR.out.2
          · exact (hdone.out m l' hm (by omega)).keep HR.out.1 fun b j h1 h2 => HD.out m k l' l e hm HLK.out b j (rg_mono h1 (Nat.le_refl _) (HL.out l' (List.mem_of_getElem? hm)).le) (rg_mono h2 (Nat.le_refl _) (HL.out l hlm).le)
        case measure => simp [intOf]; omega
      · have d3 : decide ((k : Int) < (N : Int)) = false := by simp; omega
        obtain rfl : k = N := by omega
        have HW1 := Lib.hid hW
        have HD1 := Lib.hid (fun (m : Nat) (l : Lf) (hm : L[m]? = some l) => hdone.out m l hm (by rw [HNL.out]; exact (List.getElem?_eq_some_iff.1 hm).1))
        clear hlt hW hdone
        go_wp2_with fail
        go_loopw [4] (fun i w2 => ∃ j : Nat, j ≤ k ∧ i = .int .i64 j ∧ Wrt (rgs L) w w2 ∧ Hid (∀ (m : Nat) (l : Lf), L[m]? = some l → Has w2 l.A 0 l.n (B l.i) ∧ (m < j → Has w2 l.A l.n l.c (B l.x)))) (fun i _ => k - (intOf i).toNat)
        case atStart => exact ⟨0, by omega, rfl, HW1.out, Lib.hid fun m l hm => ⟨HD1.out m l hm, fun h => absurd h (by omega)⟩⟩
        case round =>
          clear c1 HW1 HD1
          obtain ⟨j, hj, rfl, hW, hdone⟩ := hrel
          have c1 := bk_cell (hW.other HL.out HB.out (by decide)) 0
          simp at c1
          by_cases hlt : j < k
          · have d3 : decide ((j : Int) < (k : Int)) = true := by simp; omega
            obtain ⟨g, cur, rfl, hg, hcells⟩ := HG.out (by omega)
            obtain ⟨l, hl⟩ : ∃ l, L[j]? = some l := ⟨L[j]'(by rw [← HNL.out]; exact hlt), List.getElem?_eq_getElem _⟩
            have hlm : l ∈ L := List.mem_of_getElem? hl
            have c2 := bk_cell (hW.other HL.out hg (by decide)) j
            rw [hcells j l.val (by rw [List.getElem?_map, hl]; rfl)] at c2
            have C := Lib.hid (fillRoom_any l.A l.n l.c l.i l.x wr ((HL.out l hlm).wrt hW).room (HL.out l hlm).le (HL.out l hlm).small)
            have HLK := Lib.hid hl
            clear hg hcells hl
            go_wp2_with (refine wpList_invoke rfl _ _ _ rfl 76 _ _ 109 _ _ rfl (m_fillRoom _ _ _ _ _ _) (e_fillRoom _ _) C.out ?_)
            intro w1 hR1 hR2
            have HR := Lib.hid (And.intro hR1 hR2)
            clear hR1 hR2 C
            go_wp2_with fail
            go_roundw
            case rel =>
              have hle := (HL.out l hlm).le
              refine ⟨j + 1, by omega, by go_num, hW.trans (HR.out.1.mono fun b j hs => ⟨l, hlm, rg_mono hs (by omega) (Nat.le_refl _)⟩), Lib.hid fun m l' hm => ⟨?_, fun hk' => ?_⟩⟩
              · refine (hdone.out m l' hm).1.keep HR.out.1 fun b q h1 h2 => ?_
                by_cases e : m = j
                · subst e
                  obtain rfl : l = l' := Option.some.inj (HLK.out.symm.trans hm)
                  obtain ⟨o, e1, e2⟩ := h1
                  obtain ⟨o', e3, e4⟩ := h2
                  rw [e1] at e3
                  cases e3
                  omega
                · exact HD.out m j l' l e hm HLK.out b q (rg_mono h1 (Nat.le_refl _) (HL.out l' (List.mem_of_getElem? hm)).le) (rg_mono h2 (by omega) (Nat.le_refl _))
              · by_cases e : m = j
                · subst e
                  obtain rfl : l = l' := Option.some.inj (HLK.out.symm.trans hm)
                  exact HR.out.2
                · exact ((hdone.out m l' hm).2 (by omega)).keep HR.out.1 fun b q h1 h2 => HD.out m j l' l e hm HLK.out b q (rg_mono h1 (by omega) (Nat.le_refl _)) (rg_mono h2 (by omega) (Nat.le_refl _))
            case measure => simp [intOf]; omega
          · have d3 : decide ((j : Int) < (k : Int)) = false := by simp; omega
            obtain rfl : j = k := by omega
            have HW2 := Lib.hid hW
            have HD2 := Lib.hid (fun (m : Nat) (l : Lf) (hm : L[m]? = some l) => And.intro (hdone.out m l hm).1 ((hdone.out m l hm).2 (by rw [HNL.out]; exact (List.getElem?_eq_some_iff.1 hm).1)))
            clear hlt hW hdone
            go_wp2_with fail
            obtain ⟨wo, rfl⟩ : ∃ wo : World, wo = wr := ⟨_, rfl⟩
            go_loopw [5] (fun i w3 => ∃ q : Nat, q ≤ j ∧ i = .int .i64 q ∧ Below wo.heap.size wo w3) (fun i _ => j - (intOf i).toNat)
            case atStart => exact ⟨0, by omega, rfl, Below.refl _ _⟩
            case round =>
              obtain ⟨q, hq, rfl, hB3⟩ := hrel
              clear c1
              have hWr : Wrt (rgs L) w wr := HW2.out.trans (Wrt.of_below hB3)
              have c1 := bk_cell (hWr.other HL.out HB.out (by decide)) 0
              simp at c1
              have HWR := Lib.hid hWr
              clear hWr
              by_cases hlt : q < j
              · have d3 : decide ((q : Int) < (j : Int)) = true := by simp; omega
                obtain ⟨g, cur, rfl, hg, hcells⟩ := HG.out (by omega)
                obtain ⟨l, hl⟩ : ∃ l, L[q]? = some l := ⟨L[q]'(by rw [← HNL.out]; exact hlt), List.getElem?_eq_getElem _⟩
                have hlm : l ∈ L := List.mem_of_getElem? hl
                have c2 := bk_cell (HWR.out.other HL.out hg (by decide)) q
                rw [hcells q l.val (by rw [List.getElem?_map, hl]; rfl)] at c2
                have hroom := ((HL.out l hlm).wrt HW2.out).room
                have hkeep : ∀ {lo hi : Nat} {v : Value}, Has wo l.A lo hi v → Has wr l.A lo hi v := fun hh => hh.keep (S := fun _ _ => False) (Wrt.of_below hB3) fun _ _ _ hf => hf
                have C := Lib.hid (kept_any l.A l.n l.c l.i l.x wr (hkeep (HD2.out q l hl).1) (hkeep (HD2.out q l hl).2) (fun hc => by
                  obtain ⟨b, o, cur', e, hb, _⟩ := hroom hc
                  exact ⟨b, o, e, Nat.lt_of_lt_of_le (bk_lt hb) hB3.size⟩) (HL.out l hlm).le (HL.out l hlm).small)
                have HLK := Lib.hid hl
                clear hg hcells hl hroom hkeep
                go_wp2_with (refine wpList_invoke rfl _ _ _ rfl 76 _ _ 110 _ _ rfl (m_kept _ _ _ _ _ _) (e_kept _ _) C.out ?_)
                intro w1 hR
                clear C
                go_wp2_with fail
                go_roundw
                case rel => exact ⟨q + 1, by omega, by go_num, hB3.trans (hR.mono hB3.size)⟩
                case measure => simp [intOf]; omega
              · have d3 : decide ((q : Int) < (j : Int)) = false := by simp; omega
                have d4 : decide (q < j) = false := by simp; omega
                clear hlt
                go_wp2_with fail
                go_ret
                exact ⟨rfl, HWR.out.below hbase fun b m hs => by
                  obtain ⟨l, hl, hr⟩ := hs
                  exact (HL.out l hl).base b m hr⟩
end Go.Proofs.Ytjimmfbjhkoekaa
/- Books: more of them; OctetsPut, walked. -/
namespace Go.Proofs.Ytjimmfbjhkoekaa
open Go.RowKit
set_option maxRecDepth 100000
theorem Dis.nil : Dis [] := fun i _ a _ _ h _ => by simp at h
theorem Dis.snoc {L : List Lf} {l : Lf} (h : Dis L) (hl : ∀ l' ∈ L, ∀ k m, rg l'.A 0 l'.c k m → rg l.A 0 l.c k m → False) : Dis (L ++ [l]) := fun i j a b hij ha hb k m h1 h2 => by
  rw [List.getElem?_append] at ha hb
  split at ha
  · split at hb
    · exact h i j a b hij ha hb k m h1 h2
    · rename_i hj
      have hj0 : j - L.length = 0 := by
        have := (List.getElem?_eq_some_iff.1 hb).1
        simp at this; omega
      rw [hj0] at hb
      cases hb
      exact hl a (List.mem_of_getElem? ha) k m h1 h2
  · rename_i hi
    have hi0 : i - L.length = 0 := by
      have := (List.getElem?_eq_some_iff.1 ha).1
      simp at this; omega
    rw [hi0] at ha
    cases ha
    split at hb
    · exact hl b (List.mem_of_getElem? hb) k m h2 h1
    · rename_i hj
      have hj0 : j - L.length = 0 := by
        have := (List.getElem?_eq_some_iff.1 hb).1
        simp at this; omega
      omega
theorem Room.below {w w' : World} {A : Option Addr} {c : Nat} {t : TypeId} (h : Room w A c t) (hb : Below w.heap.size w w') : Room w' A c t := h.wrt (S := fun _ _ => False) (Wrt.of_below hb)
theorem LfOK.below {base : Nat} {w w' : World} {l : Lf} (h : LfOK base w l) (hb : Below w.heap.size w w') : LfOK base w' l := ⟨h.room.below hb, h.le, h.small, h.base⟩
theorem BFr.room' {bb : Nat} {w w' : World} {A : Option Addr} {c : Nat} (h : BFr bb w w') (hr : Room w A c 5) (hb : ∀ b o cur, A = some ⟨b, o, none⟩ → bk w b = some (.cells cur 5 (0, 0)) → b ≠ bb) : Room w' A c 5 := fun hc => by
  obtain ⟨b, o, cur, rfl, h1, h2⟩ := hr hc
  exact ⟨b, o, cur, rfl, h.keep _ _ h1 (hb b o cur rfl h1) (fun cur' e => by cases e), h2⟩
theorem LfOK.bfr {base bb : Nat} {w w' : World} {l : Lf} {o : Obj} (h : LfOK base w l) (hf : BFr bb w w') (hb : bk w bb = some o) (ho : ∀ cur, o ≠ .cells cur 5 (0, 0)) : LfOK base w' l :=
  ⟨hf.room' h.room fun b o' cur e hb' => (by rintro rfl; rw [hb] at hb'; cases hb'; exact ho _ rfl), h.le, h.small, h.base⟩
/-- A book with its lists, all there. -/
structure Bk (w : World) (bb base : Nat) (L : List Lf) : Prop where
  book : BK w bb base (L.map Lf.val)
  ok : ∀ l ∈ L, LfOK base w l
  dis : Dis L
theorem BK.objAt {w : World} {bb base : Nat} {vs : List Value} (h : BK w bb base vs) : ∃ hv, bk w bb = some (.cells #[hv] 44 (0, 0)) := by
  obtain ⟨hv, hb, _⟩ := h
  exact ⟨hv, hb⟩
theorem BK.below {w w' : World} {bb base : Nat} {vs : List Value} (h : BK w bb base vs) (hb : Below w.heap.size w w') : BK w' bb base vs := by
  obtain ⟨hv, h1, h2⟩ := h
  refine ⟨hv, bk_keep hb (bk_lt h1) h1, ?_⟩
  exact h2.kept (row := none) ⟨hb.os, hb.tape, hb.output, hb.size, fun k hk _ => hb.block k hk⟩ (by
    rcases hx : hv.ownBlock with _ | g
    · exact .inl rfl
    · exact .inr (by simp))
theorem Bk.below {w w' : World} {bb base : Nat} {L : List Lf} (h : Bk w bb base L) (hb : Below w.heap.size w w') : Bk w' bb base L := ⟨h.book.below hb, fun l hl => (h.ok l hl).below hb, h.dis⟩
theorem Bk.lt {w : World} {bb base : Nat} {L : List Lf} (h : Bk w bb base L) : bb < w.heap.size := by
  obtain ⟨hv, hb⟩ := h.book.objAt
  exact bk_lt hb
theorem Bk.new {w : World} {bb base : Nat} (hb : bk w bb = some (.cells #[.slice none 0 0] 44 (0, 0))) : Bk w bb base [] :=
  ⟨⟨_, hb, World.ownsRow_nil _ _ _ _⟩, fun _ h => (by cases h), Dis.nil⟩
/-- One list more: a room of bytes that no other list of the book has. -/
theorem bytes_Bk (bb base : Nat) (L : List Lf) (A : Option Addr) (n c : Nat) (w : World) (h : Bk w bb base L) (hl : L.length < 2 ^ 30) (hbb : base ≤ bb) (hbase : base ≤ w.heap.size)
    (hr : Room w A c 5) (hn : n ≤ c) (hc : c ≤ 9223372036854775807) (hA : ∀ b j, rg A 0 c b j → base ≤ b) (hd : ∀ l' ∈ L, ∀ k m, rg l'.A 0 l'.c k m → rg A 0 c k m → False) :
    Calls Try.prog 16 #[.pointer (some ⟨bb, 0, none⟩), .slice A n c] w fun e w' => ∃ i x, e = .returned (.tuple #[]) ∧ Bk w' bb base (L ++ [⟨A, n, c, i, x⟩]) ∧ BFr bb w w' ∧ Below base w w' := by
  refine (bookBytes_any bb base (L.map Lf.val) A n c w h.book (by simpa using hl) hbb hbase).mono ?_
  rintro e w' ⟨i, x, rfl, h1, h2, h3⟩
  obtain ⟨hv, hb⟩ := h.book.objAt
  refine ⟨i, x, rfl, ⟨by simpa using h1, fun l hl => ?_, h.dis.snoc hd⟩, h2, h3⟩
  rw [List.mem_append] at hl
  rcases hl with hl | hl
  · exact (h.ok l hl).bfr h2 hb (fun _ e => by cases e)
  · have : l = ⟨A, n, c, i, x⟩ := by simpa using hl
    subst this
    exact LfOK.bfr (l := ⟨A, n, c, i, x⟩) ⟨hr, hn, hc, hA⟩ h2 hb (fun _ e => by cases e)
theorem apart_Bk (bb base : Nat) (L : List Lf) (w : World) (h : Bk w bb base L) (hbb : base ≤ bb) (hbase : base ≤ w.heap.size) (hN : L.length < 2 ^ 40) :
    Calls Try.prog 17 #[.pointer (some ⟨bb, 0, none⟩)] w fun e w' => e = .returned (.bool true) ∧ Below base w w' :=
  apart_any bb base L w h.book hbb hbase h.ok h.dis hN
theorem BFr.keepBytes {bb b : Nat} {w w' : World} {cur : Array Value} (h : BFr bb w w') {L : List Lf} {base : Nat} (hB : Bk w bb base L) (hb : bk w b = some (.cells cur 5 (0, 0))) : bk w' b = some (.cells cur 5 (0, 0)) := by
  obtain ⟨hv, hh⟩ := hB.book.objAt
  exact h.keep b _ hb (by rintro rfl; rw [hh] at hb; cases hb) (fun _ e => by cases e)
/-- What is appended has a room of its own. -/
theorem Room.of_own {w : World} {base n c : Nat} {A : Option Addr} {xs : List Value} (h : w.ownsRow base 5 1 (.slice A n c) n xs) : Room w A c 5 ∧ n ≤ c ∧ c ≤ 9223372036854775807 ∧ ∀ b j, rg A 0 c b j → base ≤ b ∧ b < w.heap.size := by
  obtain ⟨_, ⟨h1, h0⟩ | ⟨g, cap, cur, h1, hg, hb, hle, hm, hs, _⟩⟩ := h
  · cases h1
    exact ⟨fun h => absurd h (by omega), by omega, by omega, fun b j ⟨o, e, _⟩ => by cases e⟩
  · cases h1
    unfold maxLen at hm
    exact ⟨fun _ => ⟨g, 0, cur, rfl, hb, by omega⟩, hle, by omega, fun b j ⟨o, e, _⟩ => by cases e; exact ⟨hg, bk_lt hb⟩⟩
end Go.Proofs.Ytjimmfbjhkoekaa
/- Bytes that a call hands back: read, with a room of their own. -/

namespace Go.Proofs.Ytjimmfbjhkoekaa
open Go.RowKit
structure Gots (d : List UInt8) (n : Nat) (A : Option Addr) (w : World) : Prop where
  rd : Rd w w.heap.size A d
  room : Room w A d.length 5
  lo : ∀ b j, rg A 0 d.length b j → n ≤ b
  nn : A = none → d = [] ∧ d.length = 0
theorem Gots.nil {n : Nat} {w : World} : Gots [] n none w :=
  ⟨Rd.nil, fun h => absurd h (by simp), fun _ _ ⟨_, e, _⟩ => (by cases e), fun _ => ⟨rfl, rfl⟩⟩
theorem Gots.below {d : List UInt8} {n : Nat} {A : Option Addr} {w w' : World} (h : Gots d n A w) (hb : Below w.heap.size w w') : Gots d n A w' :=
  ⟨(h.rd.below hb (Nat.le_refl _)).mono hb.size, h.room.below hb, h.lo, h.nn⟩
theorem Gots.of_PB {w : World} {gb q m n : Nat} {L : List UInt8} {A : Option Addr} (h : PB w gb L) (hgb : gb < w.heap.size) (hn : n ≤ gb) (hA : 0 < ((L.drop q).take m).length → A = some ⟨gb, q, none⟩) : Gots ((L.drop q).take m) n A w := by
  refine ⟨fun h0 => ?_, fun h0 => ?_, ?_, ?_⟩
  · rw [hA h0]; exact h.rd hgb h0
  · rw [List.length_take, List.length_drop] at h0
    obtain ⟨cur, hc, hl, _⟩ := h (by omega)
    exact ⟨gb, q, cur, hA (by rw [List.length_take, List.length_drop]; omega), hc, by rw [List.length_take, List.length_drop]; omega⟩
  · rintro b j ⟨o, e, _, h0⟩
    rw [hA (by omega)] at e
    cases e
    exact hn
  · rintro rfl
    rcases Nat.eq_zero_or_pos ((L.drop q).take m).length with h0 | h0
    · exact ⟨List.eq_nil_of_length_eq_zero h0, h0⟩
    · cases hA h0
/-- A row and a value are returned. -/
theorem ret_two {P : Program} {fn : Func} {R : Ending → World → Prop} {a : Act} {w : World} {p u : Tmp} {ty : TypeId} {g : Nat} {cs : Array Value} {d : TypeDesc} {y : Value}
    (h : fn.results = #[.cell p ty, .tmp u]) (hd' : a.defers = []) (hp : a.tmps.getD p undef = .pointer (some ⟨g, 0, none⟩)) (hy : a.tmps.getD u undef = y) (hg : (bk w g).bind rowOf = some cs)
    (hu : P.underlying ty = some d) (hd : d.isRow = true) (hi : (P.info? ty).map (·.size) = some cs.size) (hR : R (.returned (.tuple #[.agg cs, y])) w) : bodyPost P fn R .ret a w := by
  cases hb : bk w g with
  | none => rw [hb] at hg; simp at hg
  | some o =>
    rw [hb] at hg
    cases o with
    | cells c t fr =>
      simp [rowOf] at hg
      subst hg
      refine bodyPost_ret ?_ hd' hR
      rw [results_cell_tmp h, hp, hy]
      simp [asAddr, Result.andThen, run_loadVar_row w g t ty c fr d hb hu (by cases d <;> simp_all) hi]
    | _ => simp [rowOf] at hg
end Go.Proofs.Ytjimmfbjhkoekaa

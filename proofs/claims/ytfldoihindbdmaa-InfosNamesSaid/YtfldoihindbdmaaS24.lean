/- The program's cutter, by where it stands. -/
import Derived.Test.YtfldoihindbdmaaS23P
namespace Go.Proofs.Ytfldoihindbdmaa
open Go.RowKit
set_option maxRecDepth 100000
/-- The bytes that are cut lie in block gb. -/
def PB (w : World) (gb : Nat) (L : List UInt8) : Prop := 0 < L.length → ∃ cur, bk w gb = some (.cells cur 5 (0, 0)) ∧ L.length ≤ cur.size ∧ cur.toList.take L.length = L.map B
/-- A cutter of them stands behind q of them, or is spoilt. -/
def PK (w : World) (gc gb : Nat) (L : List UInt8) : Option Nat → Prop
  | some q => q ≤ L.length ∧ ∃ A c, bk w gc = some (cut A (L.length - q) c true) ∧ L.length - q ≤ c ∧ (q < L.length → A = some ⟨gb, q, none⟩)
  | none => KB w gc
def stOf (L : List UInt8) (p : Option Nat) : Option (List UInt8) := p.map fun q => L.drop q
def posB (n : Int) (L : List UInt8) : Option Nat → Option Nat
  | none => none
  | some q => if n < 0 ∨ ((L.length - q : Nat) : Int) < n then none else some (q + n.toNat)
theorem posB_st (n : Int) (L : List UInt8) (p : Option Nat) : (cutB n (stOf L p)).2 = stOf L (posB n L p) := by
  cases p with
  | none => rfl
  | some q =>
    show (cutB n (some (L.drop q))).2 = _
    unfold cutB posB stOf
    simp only [List.length_drop]
    split
    · rfl
    · simp
theorem PB.rd {w : World} {gb q m n : Nat} {L : List UInt8} (h : PB w gb L) (hg : gb < n) : Rd w n (some ⟨gb, q, none⟩) ((L.drop q).take m) := fun h0 => by
  rw [List.length_take, List.length_drop] at h0
  obtain ⟨cur, hb, hl, ht⟩ := h (by omega)
  refine ⟨gb, q, rfl, hg, fun j hj => ?_⟩
  rw [List.length_take, List.length_drop] at hj
  rw [bk_cell hb]
  have e : (cur.toList.take L.length)[q + j]? = (L.map B)[q + j]? := by rw [ht]
  rw [List.getElem?_take_of_lt (by omega), List.getElem?_map, List.getElem?_eq_getElem (show q + j < L.length by omega)] at e
  rw [← Array.getElem?_toList]
  simpa using e
theorem PB.grown {w w' : World} {gb g : Nat} {L : List UInt8} (h : PB w gb L) (hg : w.grownBy w' (some g)) (hne : gb ≠ g) : PB w' gb L := fun h0 => by
  obtain ⟨cur, hb, h1, h2⟩ := h h0
  exact ⟨cur, (hg.block gb (bk_lt hb) (fun e => hne (by injection e))).trans hb, h1, h2⟩
def PTook (gc gb : Nat) (L : List UInt8) (p : Option Nat) (n : Int) (w : World) (e : Ending) (w' : World) : Prop :=
  ∃ A, e = .returned (.slice A (cutB n (stOf L p)).1.length (cutB n (stOf L p)).1.length) ∧ (0 < (cutB n (stOf L p)).1.length → ∃ q, p = some q ∧ A = some ⟨gb, q, none⟩ ∧ posB n L p = some (q + (cutB n (stOf L p)).1.length) ∧ q + (cutB n (stOf L p)).1.length ≤ L.length ∧ (cutB n (stOf L p)).1 = (L.drop q).take (cutB n (stOf L p)).1.length) ∧
    PK w' gc gb L (posB n L p) ∧ w.grownBy w' (some gc)
theorem Chg.grown {g : Nat} {o : Obj} {w w' : World} (h : Chg g o w w') : w.grownBy w' (some g) := h.only.grown
theorem PK.next {w w' : World} {gc gb q m N c : Nat} {L : List UInt8} {A : Option Addr} (hq : q ≤ L.length) (hN : N = L.length - q) (hc : N ≤ c) (hm : m ≤ N) (hA : q < L.length → A = some ⟨gb, q, none⟩) (h : Chg gc (cut (adv A c m) (N - m) (c - m) true) w w') : PK w' gc gb L (some (q + m)) := by
  refine ⟨by omega, adv A c m, c - m, ?_, by omega, fun hlt => ?_⟩
  · rw [show L.length - (q + m) = N - m by omega]; exact h.new
  · have := hA (by omega)
    subst this
    unfold adv
    rw [if_neg (by omega)]
    show some (Addr.add _ m) = _
    unfold Addr.add
    split
    · rename_i h0; rw [h0]; rfl
    · rfl
theorem pbytes_any (gc gb : Nat) (L : List UInt8) (p : Option Nat) (n : Int) (w : World) (h : PK w gc gb L p) :
    Calls Try.prog 57 #[.pointer (some ⟨gc, 0, none⟩), .int .i64 n] w (PTook gc gb L p n w) := by
  cases p with
  | none =>
    obtain ⟨A, N, c, hb⟩ := h
    refine (bytes_bad gc N c A false n w hb (.inl rfl)).mono ?_
    rintro e w' ⟨rfl, hch⟩
    exact ⟨none, rfl, fun h0 => absurd h0 (by simp [stOf, cutB]), ⟨_, _, _, hch.new⟩, hch.grown⟩
  | some q =>
    obtain ⟨hq, A, c, hb, hc, hA⟩ := h
    by_cases hbad : n < 0 ∨ ((L.length - q : Nat) : Int) < n
    · refine (bytes_bad gc _ c A true n w hb (.inr hbad)).mono ?_
      rintro e w' ⟨rfl, hch⟩
      have e1 : cutB n (stOf L (some q)) = ([], none) := cutB_bad (by rw [List.length_drop]; exact hbad)
      have e2 : posB n L (some q) = none := by simp only [posB, if_pos hbad]
      unfold PTook
      rw [e1, e2]
      exact ⟨none, rfl, fun h0 => absurd h0 (by simp), ⟨_, _, _, hch.new⟩, hch.grown⟩
    · obtain ⟨m, rfl⟩ := Int.eq_ofNat_of_zero_le (show 0 ≤ n by omega)
      have hm : m ≤ L.length - q := by omega
      refine (bytes_good gc (L.length - q) c A m w hb hm hc).mono ?_
      rintro e w' ⟨rfl, hch⟩
      have e1 : cutB (m : Int) (stOf L (some q)) = ((L.drop q).take m, some ((L.drop q).drop m)) := cutB_good (by rw [List.length_drop]; exact hm)
      have e2 : posB (m : Int) L (some q) = some (q + m) := by simp only [posB, if_neg hbad]; simp
      have e3 : ((L.drop q).take m).length = m := by rw [List.length_take, List.length_drop]; omega
      unfold PTook
      rw [show ((m : Nat) : Int) = (m : Int) from rfl, e1, e2]
      simp only [e3]
      exact ⟨A, rfl, fun h0 => ⟨q, rfl, hA (by omega), rfl, by omega, rfl⟩, PK.next hq rfl hc hm hA hch, hch.grown⟩

def PNum (gc gb : Nat) (L : List UInt8) (p : Option Nat) (n : Int) (w : World) (e : Ending) (w' : World) : Prop :=
  e = .returned (.int .u64 (val (cutB (ask n) (stOf L p)).1)) ∧ PK w' gc gb L (posB (ask n) L p) ∧ w.grownBy w' (some gc)
theorem pnum_any (gc gb : Nat) (L : List UInt8) (p : Option Nat) (n : Int) (w : World) (h : PK w gc gb L p) (hB : PB w gb L) (hg : gb < gc) :
    Calls Try.prog 56 #[.pointer (some ⟨gc, 0, none⟩), .int .i64 n] w (PNum gc gb L p n w) := by
  cases p with
  | none =>
    obtain ⟨A, N, c, hb⟩ := h
    refine (num_take gc N c A false n w hb (.inl rfl)).mono ?_
    rintro e w' ⟨rfl, hch⟩
    exact ⟨rfl, ⟨_, _, _, hch.new⟩, hch.grown⟩
  | some q =>
    obtain ⟨hq, A, c, hb, hc, hA⟩ := h
    by_cases hbad : n < 1 ∨ 8 < n ∨ ((L.length - q : Nat) : Int) < n
    · refine (num_take gc _ c A true n w hb (.inr hbad)).mono ?_
      rintro e w' ⟨rfl, hch⟩
      have hb2 : ask n < 0 ∨ ((L.length - q : Nat) : Int) < ask n := by unfold ask; split <;> omega
      have e1 : cutB (ask n) (stOf L (some q)) = ([], none) := cutB_bad (by rw [List.length_drop]; exact hb2)
      have e2 : posB (ask n) L (some q) = none := by simp only [posB, if_pos hb2]
      unfold PNum
      rw [e1, e2]
      exact ⟨rfl, ⟨_, _, _, hch.new⟩, hch.grown⟩
    · obtain ⟨m, rfl⟩ := Int.eq_ofNat_of_zero_le (show 0 ≤ n by omega)
      have hm : m ≤ L.length - q := by omega
      have hask : ask (m : Int) = m := by unfold ask; rw [if_neg (by omega)]
      have hA' := hA (by omega)
      subst hA'
      refine (num_good gc (L.length - q) c _ ((L.drop q).take m) m w hb (hB.rd hg) (by rw [List.length_take, List.length_drop]; omega) (by omega) (by omega) hm hc).mono ?_
      rintro e w' ⟨rfl, hch⟩
      have e1 : cutB (m : Int) (stOf L (some q)) = ((L.drop q).take m, some ((L.drop q).drop m)) := cutB_good (by rw [List.length_drop]; exact hm)
      have e2 : posB (m : Int) L (some q) = some (q + m) := by simp only [posB]; rw [if_neg (by omega)]; simp
      unfold PNum
      rw [show ((m : Nat) : Int) = (m : Int) from rfl, hask, e1, e2]
      exact ⟨rfl, PK.next hq rfl hc hm hA hch, hch.grown⟩
theorem PK.obj {w : World} {gc gb : Nat} {L : List UInt8} {p : Option Nat} (h : PK w gc gb L p) : ∃ cs, Go.Proofs.Ytfldoihindbdmaa.bk w gc = some (.cells cs 136 (0, 0)) := by
  cases p with
  | none => obtain ⟨A, N, c, hb⟩ := h; exact ⟨_, hb⟩
  | some q => obtain ⟨_, A, c, hb, _⟩ := h; exact ⟨_, hb⟩
theorem PK.keep {w w' : World} {gc gb : Nat} {L : List UInt8} {p : Option Nat} (h : PK w gc gb L p) (hk : Go.Proofs.Ytfldoihindbdmaa.bk w' gc = Go.Proofs.Ytfldoihindbdmaa.bk w gc) : PK w' gc gb L p := by
  cases p with
  | none => obtain ⟨A, N, c, hb⟩ := h; exact ⟨A, N, c, hk.trans hb⟩
  | some q => obtain ⟨h1, A, c, hb, h2⟩ := h; exact ⟨h1, A, c, hk.trans hb, h2⟩
theorem PB.keep {w w' : World} {gb : Nat} {L : List UInt8} (h : PB w gb L) (hk : gb < w.heap.size → Go.Proofs.Ytfldoihindbdmaa.bk w' gb = Go.Proofs.Ytfldoihindbdmaa.bk w gb) : PB w' gb L := fun h0 => by
  obtain ⟨cur, hb, h1, h2⟩ := h h0
  exact ⟨cur, (hk (bk_lt hb)).trans hb, h1, h2⟩
/-- A cutter of a slice that was just made. -/
theorem of_PK (A : Option Addr) (l : List UInt8) (c : Nat) (w : World) (h : Rd w w.heap.size A l) (hA : A = none → l = [] ∧ c = 0) (hl : l.length < 2 ^ 46) (d : Nat) (hd : d < w.heap.size) :
    Calls Try.prog 53 #[.slice A l.length c] w fun e w' => ∃ g gb, e = .returned (.pointer (some ⟨g, 0, none⟩)) ∧ w.heap.size ≤ g ∧ d ≤ gb ∧ gb < g ∧ (0 < l.length → w.heap.size ≤ gb) ∧ PK w' g gb l (some 0) ∧ PB w' gb l ∧ Below w.heap.size w w' := by
  refine (of_cut A l c w h hA hl).mono ?_
  rintro e w' ⟨g, A', c', rfl, hg, hb, ho, hr, hlc, hbel⟩
  rcases Nat.eq_zero_or_pos l.length with h0 | h0
  · have : l = [] := List.eq_nil_of_length_eq_zero h0
    subst this
    exact ⟨g, d, rfl, hg, Nat.le_refl _, by omega, fun h => absurd h (by simp), ⟨Nat.le_refl _, A', c', hb, by simp, fun h => absurd h (by simp)⟩, fun h => absurd h (by simp), hbel⟩
  · obtain ⟨_, ⟨_, e0⟩ | ⟨gb, cap, cur, e1, hgb, hbk, hle, _, hcs, ht⟩⟩ := ho
    · omega
    · cases e1
      obtain ⟨b, o, e2, hlt, _⟩ := hr h0
      cases e2
      exact ⟨g, gb, rfl, hg, by omega, hlt, fun _ => hgb, ⟨by omega, _, c', hb, hlc, fun _ => rfl⟩, fun _ => ⟨cur, hbk, by omega, by simpa using ht⟩, hbel⟩
theorem bytes_at (gc gb : Nat) (L : List UInt8) (q m : Nat) (w : World) (h : PK w gc gb L (some q)) (hm : q + m ≤ L.length) (h0 : 0 < m) :
    Calls Try.prog 57 #[.pointer (some ⟨gc, 0, none⟩), .int .i64 m] w fun e w' => e = .returned (.slice (some ⟨gb, q, none⟩) m m) ∧ PK w' gc gb L (some (q + m)) ∧ w.grownBy w' (some gc) := by
  refine (pbytes_any gc gb L (some q) m w h).mono ?_
  have e1 : cutB (m : Int) (stOf L (some q)) = ((L.drop q).take m, some ((L.drop q).drop m)) := cutB_good (by rw [List.length_drop]; omega)
  have e2 : posB (m : Int) L (some q) = some (q + m) := by simp only [posB]; rw [if_neg (by omega)]; simp
  have e3 : ((L.drop q).take m).length = m := by rw [List.length_take, List.length_drop]; omega
  rintro e w' ⟨A, he, h1, h2, h3⟩
  rw [e1] at he h1
  rw [e2] at h1 h2
  simp only [e3] at he h1
  obtain ⟨q', hq, rfl, _⟩ := h1 h0
  cases hq
  exact ⟨he, h2, h3⟩
theorem num_at (gc gb : Nat) (L : List UInt8) (q m : Nat) (w : World) (h : PK w gc gb L (some q)) (hB : PB w gb L) (hg : gb < gc) (hm : q + m ≤ L.length) (h1 : 1 ≤ m) (h8 : m ≤ 8) :
    Calls Try.prog 56 #[.pointer (some ⟨gc, 0, none⟩), .int .i64 m] w fun e w' => e = .returned (.int .u64 (val ((L.drop q).take m))) ∧ PK w' gc gb L (some (q + m)) ∧ w.grownBy w' (some gc) := by
  refine (pnum_any gc gb L (some q) m w h hB hg).mono ?_
  have e0 : ask (m : Int) = m := by unfold ask; rw [if_neg (by omega)]
  have e1 : cutB (m : Int) (stOf L (some q)) = ((L.drop q).take m, some ((L.drop q).drop m)) := cutB_good (by rw [List.length_drop]; omega)
  have e2 : posB (m : Int) L (some q) = some (q + m) := by simp only [posB]; rw [if_neg (by omega)]; simp
  rintro e w' ⟨he, h2, h3⟩
  rw [e0] at he h2
  rw [e1] at he
  rw [e2] at h2
  exact ⟨he, h2, h3⟩

end Go.Proofs.Ytfldoihindbdmaa

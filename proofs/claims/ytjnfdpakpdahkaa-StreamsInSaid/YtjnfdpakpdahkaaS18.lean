/- Books: more of them; OctetsPut, walked. -/
import Derived.Test.YtjnfdpakpdahkaaS16
namespace Go.Proofs.Ytjnfdpakpdahkaa
open Go.RowKit
set_option maxRecDepth 100000
theorem Dis.nil : Dis [] := fun i _ a _ _ h _ => by simp at h
theorem Dis.snoc {L : List Lf} {l : Lf} (h : Dis L) (hl : ∀ l' ∈ L, ∀ k m, rg l'.A 0 l'.c k m → rg l.A 0 l.c k m → False) : Dis (L ++ [l]) := fun i j a b hij ha hb k m h1 h2 => by
  rw [List.getElem?_append] at ha hb
  split at ha
  · split at hb
    · exact h i j a b hij ha hb k m h1 h2
    · rename_i hj
      have hj0 : j - L.length = 0 := by
        have := (List.getElem?_eq_some_iff.1 hb).1
        simp at this; omega
      rw [hj0] at hb
      cases hb
      exact hl a (List.mem_of_getElem? ha) k m h1 h2
  · rename_i hi
    have hi0 : i - L.length = 0 := by
      have := (List.getElem?_eq_some_iff.1 ha).1
      simp at this; omega
    rw [hi0] at ha
    cases ha
    split at hb
    · exact hl b (List.mem_of_getElem? hb) k m h2 h1
    · rename_i hj
      have hj0 : j - L.length = 0 := by
        have := (List.getElem?_eq_some_iff.1 hb).1
        simp at this; omega
      omega
theorem Room.below {w w' : World} {A : Option Addr} {c : Nat} {t : TypeId} (h : Room w A c t) (hb : Below w.heap.size w w') : Room w' A c t := h.wrt (S := fun _ _ => False) (Wrt.of_below hb)
theorem LfOK.below {base : Nat} {w w' : World} {l : Lf} (h : LfOK base w l) (hb : Below w.heap.size w w') : LfOK base w' l := ⟨h.room.below hb, h.le, h.small, h.base⟩
theorem BFr.room' {bb : Nat} {w w' : World} {A : Option Addr} {c : Nat} (h : BFr bb w w') (hr : Room w A c 5) (hb : ∀ b o cur, A = some ⟨b, o, none⟩ → bk w b = some (.cells cur 5 (0, 0)) → b ≠ bb) : Room w' A c 5 := fun hc => by
  obtain ⟨b, o, cur, rfl, h1, h2⟩ := hr hc
  exact ⟨b, o, cur, rfl, h.keep _ _ h1 (hb b o cur rfl h1) (fun cur' e => by cases e), h2⟩
theorem LfOK.bfr {base bb : Nat} {w w' : World} {l : Lf} {o : Obj} (h : LfOK base w l) (hf : BFr bb w w') (hb : bk w bb = some o) (ho : ∀ cur, o ≠ .cells cur 5 (0, 0)) : LfOK base w' l :=
  ⟨hf.room' h.room fun b o' cur e hb' => (by rintro rfl; rw [hb] at hb'; cases hb'; exact ho _ rfl), h.le, h.small, h.base⟩
/-- A book with its lists, all there. -/
structure Bk (w : World) (bb base : Nat) (L : List Lf) : Prop where
  book : BK w bb base (L.map Lf.val)
  ok : ∀ l ∈ L, LfOK base w l
  dis : Dis L
theorem BK.objAt {w : World} {bb base : Nat} {vs : List Value} (h : BK w bb base vs) : ∃ hv, bk w bb = some (.cells #[hv] 50 (0, 0)) := by
  obtain ⟨hv, hb, _⟩ := h
  exact ⟨hv, hb⟩
theorem BK.below {w w' : World} {bb base : Nat} {vs : List Value} (h : BK w bb base vs) (hb : Below w.heap.size w w') : BK w' bb base vs := by
  obtain ⟨hv, h1, h2⟩ := h
  refine ⟨hv, bk_keep hb (bk_lt h1) h1, ?_⟩
  exact h2.kept (row := none) ⟨hb.os, hb.tape, hb.output, hb.size, fun k hk _ => hb.block k hk⟩ (by
    rcases hx : hv.ownBlock with _ | g
    · exact .inl rfl
    · exact .inr (by simp))
theorem Bk.below {w w' : World} {bb base : Nat} {L : List Lf} (h : Bk w bb base L) (hb : Below w.heap.size w w') : Bk w' bb base L := ⟨h.book.below hb, fun l hl => (h.ok l hl).below hb, h.dis⟩
theorem Bk.lt {w : World} {bb base : Nat} {L : List Lf} (h : Bk w bb base L) : bb < w.heap.size := by
  obtain ⟨hv, hb⟩ := h.book.objAt
  exact bk_lt hb
theorem Bk.new {w : World} {bb base : Nat} (hb : bk w bb = some (.cells #[.slice none 0 0] 50 (0, 0))) : Bk w bb base [] :=
  ⟨⟨_, hb, World.ownsRow_nil _ _ _ _⟩, fun _ h => (by cases h), Dis.nil⟩
/-- One list more: a room of bytes that no other list of the book has. -/
theorem bytes_Bk (bb base : Nat) (L : List Lf) (A : Option Addr) (n c : Nat) (w : World) (h : Bk w bb base L) (hl : L.length < 2 ^ 30) (hbb : base ≤ bb) (hbase : base ≤ w.heap.size)
    (hr : Room w A c 5) (hn : n ≤ c) (hc : c ≤ 9223372036854775807) (hA : ∀ b j, rg A 0 c b j → base ≤ b) (hd : ∀ l' ∈ L, ∀ k m, rg l'.A 0 l'.c k m → rg A 0 c k m → False) :
    Calls Try.prog 25 #[.pointer (some ⟨bb, 0, none⟩), .slice A n c] w fun e w' => ∃ i x, e = .returned (.tuple #[]) ∧ Bk w' bb base (L ++ [⟨A, n, c, i, x⟩]) ∧ BFr bb w w' ∧ Below base w w' := by
  refine (bookBytes_any bb base (L.map Lf.val) A n c w h.book (by simpa using hl) hbb hbase).mono ?_
  rintro e w' ⟨i, x, rfl, h1, h2, h3⟩
  obtain ⟨hv, hb⟩ := h.book.objAt
  refine ⟨i, x, rfl, ⟨by simpa using h1, fun l hl => ?_, h.dis.snoc hd⟩, h2, h3⟩
  rw [List.mem_append] at hl
  rcases hl with hl | hl
  · exact (h.ok l hl).bfr h2 hb (fun _ e => by cases e)
  · have : l = ⟨A, n, c, i, x⟩ := by simpa using hl
    subst this
    exact LfOK.bfr (l := ⟨A, n, c, i, x⟩) ⟨hr, hn, hc, hA⟩ h2 hb (fun _ e => by cases e)
theorem apart_Bk (bb base : Nat) (L : List Lf) (w : World) (h : Bk w bb base L) (hbb : base ≤ bb) (hbase : base ≤ w.heap.size) (hN : L.length < 2 ^ 40) :
    Calls Try.prog 26 #[.pointer (some ⟨bb, 0, none⟩)] w fun e w' => e = .returned (.bool true) ∧ Below base w w' :=
  apart_any bb base L w h.book hbb hbase h.ok h.dis hN
theorem BFr.keepBytes {bb b : Nat} {w w' : World} {cur : Array Value} (h : BFr bb w w') {L : List Lf} {base : Nat} (hB : Bk w bb base L) (hb : bk w b = some (.cells cur 5 (0, 0))) : bk w' b = some (.cells cur 5 (0, 0)) := by
  obtain ⟨hv, hh⟩ := hB.book.objAt
  exact h.keep b _ hb (by rintro rfl; rw [hh] at hb; cases hb) (fun _ e => by cases e)
/-- What is appended has a room of its own. -/
theorem Room.of_own {w : World} {base n c : Nat} {A : Option Addr} {xs : List Value} (h : w.ownsRow base 5 1 (.slice A n c) n xs) : Room w A c 5 ∧ n ≤ c ∧ c ≤ 9223372036854775807 ∧ ∀ b j, rg A 0 c b j → base ≤ b ∧ b < w.heap.size := by
  obtain ⟨_, ⟨h1, h0⟩ | ⟨g, cap, cur, h1, hg, hb, hle, hm, hs, _⟩⟩ := h
  · cases h1
    exact ⟨fun h => absurd h (by omega), by omega, by omega, fun b j ⟨o, e, _⟩ => by cases e⟩
  · cases h1
    unfold maxLen at hm
    exact ⟨fun _ => ⟨g, 0, cur, rfl, hb, by omega⟩, hle, by omega, fun b j ⟨o, e, _⟩ => by cases e; exact ⟨hg, bk_lt hb⟩⟩
end Go.Proofs.Ytjnfdpakpdahkaa

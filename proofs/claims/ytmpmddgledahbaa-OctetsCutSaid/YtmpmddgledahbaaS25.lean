/- One ask of both cutters. -/
import Derived.Test.YtmpmddgledahbaaS24
import Derived.Test.YtmpmddgledahbaaL6
import Derived.Deep.RegionHeld3
namespace Go.Proofs.Ytmpmddgledahbaa
open Go.RowKit
set_option maxRecDepth 100000
/-- All regions of a book's lists lie in block gb, ahead of where the cutter stands. -/
def Und (gb : Nat) (L : List UInt8) (p : Option Nat) (LL : List Lf) : Prop := ∀ l ∈ LL, ∀ k j, rg l.A 0 l.c k j → k = gb ∧ j < L.length ∧ ∀ q, p = some q → j < q
/-- What both cutters and the book are. -/
structure St (w : World) (base gc gb gm kb : Nat) (L : List UInt8) (p : Option Nat) (st : Option (List UInt8)) (LL : List Lf) : Prop where
  pk : PK w gc gb L p
  pb : PB w gb L
  rs : RS (gc + 1) w gm st
  bk : Bk w kb base LL
  und : Und gb L p LL
  o1 : base ≤ gb
  o2 : gb < gc
  o3 : gc < gm
  o4 : gm < kb
  sm : L.length < 2 ^ 36
  ss : ∀ l, st = some l → l.length < 2 ^ 36
structure KFr (X : Nat → Prop) (w w' : World) : Prop where
  os : w'.os = w.os
  tape : w'.tape = w.tape
  output : w'.output = w.output
  size : w.heap.size ≤ w'.heap.size
  keep : ∀ k o, Go.Proofs.Ytmpmddgledahbaa.bk w k = some o → ¬ X k → (∀ cur, o ≠ .cells cur 64 (0, 0)) → Go.Proofs.Ytmpmddgledahbaa.bk w' k = some o
theorem KFr.refl (X : Nat → Prop) (w : World) : KFr X w w := ⟨rfl, rfl, rfl, Nat.le_refl _, fun _ _ h _ _ => h⟩
theorem KFr.trans {X : Nat → Prop} {a b c : World} (h : KFr X a b) (k : KFr X b c) : KFr X a c :=
  ⟨k.os.trans h.os, k.tape.trans h.tape, k.output.trans h.output, Nat.le_trans h.size k.size, fun j o hj hn ho => k.keep j o (h.keep j o hj hn ho) hn ho⟩
theorem KFr.of_below {X : Nat → Prop} {w w' : World} (h : Below w.heap.size w w') : KFr X w w' := ⟨h.os, h.tape, h.output, h.size, fun k _ hk _ _ => (h.block k (bk_lt hk)).trans hk⟩
theorem KFr.of_grown {X : Nat → Prop} {g : Nat} {w w' : World} (h : w.grownBy w' (some g)) (hx : X g) : KFr X w w' :=
  ⟨h.os, h.tape, h.output, h.size, fun k _ hk hn _ => (h.block k (bk_lt hk) (fun e => hn (by injection e with e; subst e; exact hx))).trans hk⟩
theorem KFr.of_bfr {X : Nat → Prop} {g : Nat} {w w' : World} (h : BFr g w w') (hx : X g) : KFr X w w' :=
  ⟨h.os, h.tape, h.output, h.size, fun k o hk hn ho => h.keep k o hk (by rintro rfl; exact hn hx) ho⟩
/-- What of the book a step keeps that changes one block that is neither the book's nor bytes. -/
theorem Bk.grown {w w' : World} {kb base g : Nat} {LL : List Lf} {o : Obj} (h : Bk w kb base LL) (hg : w.grownBy w' (some g)) (ho : Go.Proofs.Ytmpmddgledahbaa.bk w g = some o) (h1 : ∀ cur, o ≠ .cells cur 5 (0, 0)) (h2 : ∀ cur, o ≠ .cells cur 64 (0, 0)) (h3 : g ≠ kb) : Bk w' kb base LL := by
  refine ⟨?_, fun l hl => ?_, h.dis⟩
  · obtain ⟨hv, hb, hown⟩ := h.book
    refine ⟨hv, (hg.block kb (bk_lt hb) (fun e => h3 (by injection e with e; exact e.symm))).trans hb, hown.kept hg (by
      rcases hx : hv.ownBlock with _ | k
      · exact .inl rfl
      · refine .inr fun e => ?_
        injection e with e
        subst e
        obtain ⟨c, fz, hh⟩ : ∃ c fz, Go.Proofs.Ytmpmddgledahbaa.bk w k = some (.cells c 64 fz) ∧ fz = (0, 0) := by
          obtain ⟨_, ⟨rfl, _⟩ | ⟨g', cap, cur, rfl, _, hg', _⟩⟩ := hown
          · cases hx
          · have : g' = k := by simpa [Value.ownBlock] using hx
            subst this
            exact ⟨cur, (0, 0), hg', rfl⟩
        obtain ⟨hh, rfl⟩ := hh
        rw [ho] at hh
        cases hh
        exact h2 _ rfl)⟩
  · have ok := h.ok l hl
    refine ⟨fun hc => ?_, ok.le, ok.small, ok.base⟩
    obtain ⟨b, o', cur, hA, hb, hle⟩ := ok.room hc
    refine ⟨b, o', cur, hA, (hg.block b (bk_lt hb) (fun e => ?_)).trans hb, hle⟩
    injection e with e
    subst e
    rw [ho] at hb
    cases hb
    exact h1 _ rfl
theorem PK.obj {w : World} {gc gb : Nat} {L : List UInt8} {p : Option Nat} (h : PK w gc gb L p) : ∃ cs, Go.Proofs.Ytmpmddgledahbaa.bk w gc = some (.cells cs 48 (0, 0)) := by
  cases p with
  | none => obtain ⟨A, N, c, hb⟩ := h; exact ⟨_, hb⟩
  | some q => obtain ⟨_, A, c, hb, _⟩ := h; exact ⟨_, hb⟩
theorem RS.obj {lo : Nat} {w : World} {g : Nat} {st : Option (List UInt8)} (h : RS lo w g st) : ∃ cs, Go.Proofs.Ytmpmddgledahbaa.bk w g = some (.cells cs 39 (0, 0)) := by
  cases st with
  | none => exact ⟨_, h⟩
  | some l => obtain ⟨A, c, hb, _⟩ := h; exact ⟨_, hb⟩
theorem RS.keep {lo : Nat} {w w' : World} {g : Nat} {st : Option (List UInt8)} (h : RS lo w g st) (hk : ∀ k, k < w.heap.size → (lo ≤ k ∧ k < g) ∨ k = g → Go.Proofs.Ytmpmddgledahbaa.bk w' k = Go.Proofs.Ytmpmddgledahbaa.bk w k) : RS lo w' g st := by
  cases st with
  | none => exact (hk g (bk_lt h) (.inr rfl)).trans h
  | some l =>
    obtain ⟨A, c, hb, hrd, hc, hlo⟩ := h
    refine ⟨A, c, (hk g (bk_lt hb) (.inr rfl)).trans hb, fun h0 => ?_, hc, hlo⟩
    obtain ⟨b, o, e, hlt, hcell⟩ := hrd h0
    refine ⟨b, o, e, hlt, fun j hj => ?_⟩
    have hl := hlo _ e
    have e2 : Go.Proofs.Ytmpmddgledahbaa.bk w' b = Go.Proofs.Ytmpmddgledahbaa.bk w b := hk b (by have := bk_lt hb; omega) (.inl ⟨hl, hlt⟩)
    have : w'.cell? ⟨b, o + j, none⟩ = w.cell? ⟨b, o + j, none⟩ := World.cell?_of_block (a := ⟨b, o + j, none⟩) e2
    rw [this]; exact hcell j hj
theorem PK.keep {w w' : World} {gc gb : Nat} {L : List UInt8} {p : Option Nat} (h : PK w gc gb L p) (hk : Go.Proofs.Ytmpmddgledahbaa.bk w' gc = Go.Proofs.Ytmpmddgledahbaa.bk w gc) : PK w' gc gb L p := by
  cases p with
  | none => obtain ⟨A, N, c, hb⟩ := h; exact ⟨A, N, c, hk.trans hb⟩
  | some q => obtain ⟨h1, A, c, hb, h2⟩ := h; exact ⟨h1, A, c, hk.trans hb, h2⟩
theorem PB.keep {w w' : World} {gb : Nat} {L : List UInt8} (h : PB w gb L) (hk : gb < w.heap.size → Go.Proofs.Ytmpmddgledahbaa.bk w' gb = Go.Proofs.Ytmpmddgledahbaa.bk w gb) : PB w' gb L := fun h0 => by
  obtain ⟨cur, hb, h1, h2⟩ := h h0
  exact ⟨cur, (hk (bk_lt hb)).trans hb, h1, h2⟩
section
variable {w w' : World} {base gc gb gm kb : Nat} {L : List UInt8} {p : Option Nat} {st : Option (List UInt8)} {LL : List Lf}
theorem St.below (h : St w base gc gb gm kb L p st LL) (hb : Below w.heap.size w w') : St w' base gc gb gm kb L p st LL := by
  obtain ⟨cs, hc⟩ := h.pk.obj
  exact ⟨h.pk.keep (hb.block gc (bk_lt hc)), h.pb.keep fun hl => hb.block gb hl, h.rs.keep fun k hk _ => hb.block k hk, h.bk.below hb, h.und, h.o1, h.o2, h.o3, h.o4, h.sm, h.ss⟩
/-- A step of the program's cutter. -/
theorem St.prog (h : St w base gc gb gm kb L p st LL) (hg : w.grownBy w' (some gc)) {p' : Option Nat} (hp : PK w' gc gb L p') (hu : ∀ q q', p = some q → p' = some q' → q ≤ q') (hn : p = none → p' = none) : St w' base gc gb gm kb L p' st LL := by
  obtain ⟨cs, hc⟩ := h.pk.obj
  have o1 := h.o1; have o2 := h.o2; have o3 := h.o3; have o4 := h.o4
  have hk : ∀ k, k < w.heap.size → k ≠ gc → Go.Proofs.Ytmpmddgledahbaa.bk w' k = Go.Proofs.Ytmpmddgledahbaa.bk w k := fun k hl hne => hg.block k hl (fun e => hne (by injection e))
  refine ⟨hp, h.pb.keep fun hl => hk gb hl (by omega), h.rs.keep fun k hl hh => hk k hl (by omega), h.bk.grown hg hc (fun _ e => by cases e) (fun _ e => by cases e) (by omega), fun l hl k j hr => ?_, o1, o2, o3, o4, h.sm, h.ss⟩
  obtain ⟨h1, h0, h2⟩ := h.und l hl k j hr
  refine ⟨h1, h0, fun q' hq' => ?_⟩
  cases hpp : p with
  | none => rw [hn hpp] at hq'; cases hq'
  | some q => exact Nat.lt_of_lt_of_le (h2 q hpp) (hu q q' hpp hq')
/-- A step of the document's cutter. -/
theorem St.doc (h : St w base gc gb gm kb L p st LL) (hg : w.grownBy w' (some gm)) {st' : Option (List UInt8)} (hs : RS (gc + 1) w' gm st') (hss : ∀ l, st' = some l → l.length < 2 ^ 36) : St w' base gc gb gm kb L p st' LL := by
  obtain ⟨cs, hc⟩ := h.pk.obj
  obtain ⟨cs', hc'⟩ := h.rs.obj
  have o1 := h.o1; have o2 := h.o2; have o3 := h.o3; have o4 := h.o4
  have hk : ∀ k, k < w.heap.size → k ≠ gm → Go.Proofs.Ytmpmddgledahbaa.bk w' k = Go.Proofs.Ytmpmddgledahbaa.bk w k := fun k hl hne => hg.block k hl (fun e => hne (by injection e))
  exact ⟨h.pk.keep (hk gc (bk_lt hc) (by omega)), h.pb.keep fun hl => hk gb hl (by omega), hs, h.bk.grown hg hc' (fun _ e => by cases e) (fun _ e => by cases e) (by omega), h.und, o1, o2, o3, o4, h.sm, hss⟩
/-- A step of the book. -/
theorem St.book (h : St w base gc gb gm kb L p st LL) (hf : BFr kb w w') {LL' : List Lf} (hB : Bk w' kb base LL') (hu : Und gb L p LL') : St w' base gc gb gm kb L p st LL' := by
  have o1 := h.o1; have o2 := h.o2; have o3 := h.o3; have o4 := h.o4
  exact ⟨h.pk.keep (hf.low gc (by omega)), h.pb.keep fun hl => hf.low gb (by omega), h.rs.keep fun k hl hh => hf.low k (by omega), hB, hu, o1, o2, o3, o4, h.sm, h.ss⟩
theorem posB_le {n : Int} {q q' : Nat} (h : posB n L (some q) = some q') : q ≤ q' := by
  unfold posB at h
  split at h
  · rename_i e; cases e
  · rename_i q0 e; injection e with e; subst e
    split at h
    · cases h
    · injection h with h; omega
theorem cutB_small {n : Int} (hs : ∀ l, st = some l → l.length < 2 ^ 36) : ∀ l, (cutB n st).2 = some l → l.length < 2 ^ 36 := fun l hl => by
  unfold cutB at hl
  split at hl
  · cases hl
  · rename_i l0
    have h1 := hs l0 rfl
    split at hl
    · cases hl
    · injection hl with hl; subst hl; rw [List.length_drop]; omega
end
def Xs (gc gm kb : Nat) (k : Nat) : Prop := k = gc ∨ k = gm ∨ k = kb
/-- What a step leaves. -/
structure Sd (w w' : World) (base gc gb gm kb : Nat) (L : List UInt8) (p : Option Nat) (st : Option (List UInt8)) (LL : List Lf) : Prop where
  st : St w' base gc gb gm kb L p st LL
  fr : KFr (Xs gc gm kb) w w'
  bel : Below base w w'
section
variable {w : World} {base gc gb gm kb : Nat} {L : List UInt8} {p : Option Nat} {st : Option (List UInt8)} {LL : List Lf}
theorem grown_below {w w' : World} {g n : Nat} (h : w.grownBy w' (some g)) (hn : n ≤ g) (hs : n ≤ w.heap.size) : Below n w w' := ⟨h.os, h.tape, h.output, h.size, fun k hk => h.block k (by omega) (fun e => by injection e with e; omega)⟩
theorem St.size (h : St w base gc gb gm kb L p st LL) : kb < w.heap.size := h.bk.lt
theorem pnum_St (n : Int) (h : St w base gc gb gm kb L p st LL) :
    Calls Try.prog 23 #[.pointer (some ⟨gc, 0, none⟩), .int .i64 n] w fun e w' => e = .returned (.int .u64 (val (cutB (ask n) (stOf L p)).1)) ∧ Sd w w' base gc gb gm kb L (posB (ask n) L p) st LL := by
  have o1 := h.o1; have o2 := h.o2; have o3 := h.o3; have o4 := h.o4; have o5 := h.size
  refine (pnum_any gc gb L p n w h.pk h.pb h.o2).mono ?_
  rintro e w' ⟨rfl, h1, h2⟩
  exact ⟨rfl, h.prog h2 h1 (fun q q' e e' => by subst e; exact posB_le e') (fun e => by subst e; rfl), KFr.of_grown h2 (.inl rfl), grown_below h2 (by omega) (by omega)⟩
theorem rnum_St (n : Int) (h : St w base gc gb gm kb L p st LL) :
    Calls Try.prog 27 #[.pointer (some ⟨gm, 0, none⟩), .int .i64 n] w fun e w' => e = .returned (.int .u64 (val (cutB (ask n) st).1)) ∧ Sd w w' base gc gb gm kb L p (cutB (ask n) st).2 LL := by
  have o1 := h.o1; have o2 := h.o2; have o3 := h.o3; have o4 := h.o4; have o5 := h.size
  refine (rnum_any (gc + 1) gm st n w h.rs h.ss).mono ?_
  rintro e w' ⟨rfl, h1, h2⟩
  exact ⟨rfl, h.doc h2 h1 (cutB_small h.ss), KFr.of_grown h2 (.inr (.inl rfl)), grown_below h2 (by omega) (by omega)⟩
/-- Bytes that the program gave: where they lie. -/
structure Gave (w' : World) (gb : Nat) (L : List UInt8) (p p' : Option Nat) (b : List UInt8) (A : Option Addr) : Prop where
  rd : Rd w' w'.heap.size A b
  room : Room w' A b.length 5
  at' : 0 < b.length → ∃ q, p = some q ∧ A = some ⟨gb, q, none⟩ ∧ p' = some (q + b.length)
theorem ptook_St {n : Int} (h : St w base gc gb gm kb L p st LL) {e : Ending} {w' : World} (ht : PTook gc gb L p n w e w') :
    ∃ A, e = .returned (.slice A (cutB n (stOf L p)).1.length (cutB n (stOf L p)).1.length) ∧ Gave w' gb L p (posB n L p) (cutB n (stOf L p)).1 A ∧ Sd w w' base gc gb gm kb L (posB n L p) st LL := by
  have o1 := h.o1; have o2 := h.o2; have o3 := h.o3; have o4 := h.o4; have o5 := h.size
  obtain ⟨A, rfl, h1, h2, h3⟩ := ht
  have hS := h.prog h3 h2 (fun q q' e e' => by subst e; exact posB_le e') (fun e => by subst e; rfl)
  have s := h3.size
  refine ⟨A, rfl, ⟨fun h0 => ?_, fun h0 => ?_, fun h0 => ?_⟩, hS, KFr.of_grown h3 (.inl rfl), grown_below h3 (by omega) (by omega)⟩
  · obtain ⟨q, rfl, rfl, _, hle, hb⟩ := h1 h0
    have hrd : Rd w' w'.heap.size (some ⟨gb, q, none⟩) ((L.drop q).take (cutB n (stOf L (some q))).1.length) := hS.pb.rd (by omega)
    rw [← hb] at hrd
    exact hrd h0
  · obtain ⟨q, rfl, rfl, _, hle, hb⟩ := h1 h0
    obtain ⟨cur, hbk, hcs, _⟩ := hS.pb (by omega)
    exact ⟨gb, q, cur, rfl, hbk, by omega⟩
  · obtain ⟨q, hp, hA, hp', _⟩ := h1 h0
    exact ⟨q, hp, hA, hp'⟩
theorem pbytes_St (n : Int) (h : St w base gc gb gm kb L p st LL) :
    Calls Try.prog 24 #[.pointer (some ⟨gc, 0, none⟩), .int .i64 n] w fun e w' => ∃ A, e = .returned (.slice A (cutB n (stOf L p)).1.length (cutB n (stOf L p)).1.length) ∧ Gave w' gb L p (posB n L p) (cutB n (stOf L p)).1 A ∧ Sd w w' base gc gb gm kb L (posB n L p) st LL :=
  (pbytes_any gc gb L p n w h.pk).mono fun _ _ ht => ptook_St h ht
theorem prest_St (h : St w base gc gb gm kb L p st LL) (m : Nat) (hm : m = ((stOf L p).getD []).length) :
    Calls Try.prog 17 #[.pointer (some ⟨gc, 0, none⟩)] w fun e w' => ∃ A, e = .returned (.slice A (cutB m (stOf L p)).1.length (cutB m (stOf L p)).1.length) ∧ Gave w' gb L p (posB m L p) (cutB m (stOf L p)).1 A ∧ Sd w w' base gc gb gm kb L (posB m L p) st LL := by
  subst hm
  exact (prest_any gc gb L p w h.pk).mono fun _ _ ht => ptook_St h ht
theorem rtook_St {n : Int} (h : St w base gc gb gm kb L p st LL) {e : Ending} {w' : World} (ht : RTook (gc + 1) gm st n w e w') :
    ∃ A c, e = .returned (.slice A (cutB n st).1.length c) ∧ Rd w' w'.heap.size A (cutB n st).1 ∧ Ub w' A ∧ Sd w w' base gc gb gm kb L p (cutB n st).2 LL := by
  have o1 := h.o1; have o2 := h.o2; have o3 := h.o3; have o4 := h.o4; have o5 := h.size
  obtain ⟨A, c, rfl, h1, hu, h2, h3⟩ := ht
  exact ⟨A, c, rfl, h1, hu, h.doc h3 h2 (cutB_small h.ss), KFr.of_grown h3 (.inr (.inl rfl)), grown_below h3 (by omega) (by omega)⟩
theorem rbytes_St (n : Int) (h : St w base gc gb gm kb L p st LL) :
    Calls Try.prog 28 #[.pointer (some ⟨gm, 0, none⟩), .int .i64 n] w fun e w' => ∃ A c, e = .returned (.slice A (cutB n st).1.length c) ∧ Rd w' w'.heap.size A (cutB n st).1 ∧ Ub w' A ∧ Sd w w' base gc gb gm kb L p (cutB n st).2 LL :=
  (rbytes_any (gc + 1) gm st n w h.rs h.ss).mono fun _ _ ht => rtook_St h ht
theorem rrest_St (h : St w base gc gb gm kb L p st LL) (m : Nat) (hm : m = (st.getD []).length) :
    Calls Try.prog 29 #[.pointer (some ⟨gm, 0, none⟩)] w fun e w' => ∃ A c, e = .returned (.slice A (cutB m st).1.length c) ∧ Rd w' w'.heap.size A (cutB m st).1 ∧ Ub w' A ∧ Sd w w' base gc gb gm kb L p (cutB m st).2 LL := by
  subst hm
  exact (rrest_any (gc + 1) gm st w h.rs h.ss).mono fun _ _ ht => rtook_St h ht
theorem book_St {p0 : Option Nat} {b : List UInt8} {A : Option Addr} (h : St w base gc gb gm kb L p st LL) (hu : Und gb L p0 LL) (hg : Gave w gb L p0 p b A) (hl : LL.length < 2 ^ 30) :
    Calls Try.prog 19 #[.pointer (some ⟨kb, 0, none⟩), .slice A b.length b.length] w fun e w' => ∃ LL', e = .returned (.tuple #[]) ∧ LL'.length = LL.length + 1 ∧ Sd w w' base gc gb gm kb L p st LL' := by
  have o1 := h.o1; have o2 := h.o2; have o3 := h.o3; have o4 := h.o4; have o5 := h.size
  have hat : ∀ k m, rg A 0 b.length k m → k = gb ∧ ∃ q, p0 = some q ∧ q ≤ m ∧ m < q + b.length ∧ p = some (q + b.length) := fun k m ⟨o, e, h1, h2⟩ => by
    obtain ⟨q, hq, hA, hp⟩ := hg.at' (by omega)
    rw [e] at hA
    cases hA
    exact ⟨rfl, o, hq, by omega, by omega, hp⟩
  have hbl : b.length < 2 ^ 60 := by
    rcases Nat.eq_zero_or_pos b.length with h0 | h0
    · omega
    · obtain ⟨q, hq, hA, hp⟩ := hg.at' h0
      subst hp
      have := h.pk.1
      have := h.sm
      omega
  refine (bytes_Bk kb base LL A b.length b.length w h.bk hl (by omega) (by omega) hg.room (Nat.le_refl _) hbl (fun k m hr => by have := (hat k m hr).1; omega) (fun l' hl' k m h1 h2 => by
    obtain ⟨_, q, hq, hqm, _⟩ := hat k m h2
    have := (hu l' hl' k m h1).2.2 q hq
    omega)).mono ?_
  rintro e w' ⟨i, x, rfl, h1, h2, h3⟩
  refine ⟨_, rfl, by simp, h.book h2 h1 (fun l hl' k m hr => ?_), KFr.of_bfr h2 (.inr (.inr rfl)), h3⟩
  rw [List.mem_append] at hl'
  rcases hl' with hl' | hl'
  · exact h.und l hl' k m hr
  · have : l = ⟨A, b.length, b.length, i, x⟩ := by simpa using hl'
    subst this
    obtain ⟨h4, q, hq, _, h5, h6⟩ := hat k m hr
    have hle : q + b.length ≤ L.length := by have := h.pk; rw [h6] at this; exact this.1
    exact ⟨h4, by omega, fun q' hq' => by rw [h6] at hq'; injection hq' with hq'; omega⟩
end
end Go.Proofs.Ytmpmddgledahbaa

/- Streams: an end of reading: how far the last byte is that came. -/
import Derived.Test.YtjnfdpakpdahkaaZ2
import Derived.Deep.DeepCutAuto
namespace Go.Proofs.Ytjnfdpakpdahkaa
open Go.RowKit
set_option maxRecDepth 100000
set_option maxHeartbeats 1000000
theorem law32 : Maps.Keyed Try.prog 22 := Maps.int_keyed Try.underlying22
theorem iover_any (n x g e : Nat) (v : Value) (s : Sn) (w : World) (h : InB w n x g e v s) :
    Calls Try.prog 16 #[.pointer (some ⟨x, 0, none⟩)] w fun r w' => r = .returned (.bool (s.over && s.ready.length == 0)) ∧ Below w.heap.size w w' := by
  have CE := Lib.hid (iended_any n x g e v s w h)
  have KX := Lib.hid h.box
  obtain ⟨A, c, rfl, _⟩ := Rd.of_own h.row rfl
  obtain ⟨ov, hov⟩ : ∃ ov, ov = s.over := ⟨_, rfl⟩
  rw [← hov] at CE ⊢
  clear h hov
  go_enter Try.func16, Try.ntmps16
  go_wp2_with fail
  refine (CE.out).mono ?_
  rintro e w2 ⟨rfl, b2⟩
  have k2 := bk_keep b2 (bk_lt KX.out) KX.out
  have c1 := bk_cell k2 1
  simp [inC] at c1
  have l2 := bk_lt k2
  clear CE k2
  cases ov
  · go_wp2_with fail
    go_ret
    exact ⟨rfl, b2⟩
  · go_wp2_with fail
    go_ret
    refine ⟨?_, b2⟩
    rw [Bool.true_and, show (s.ready.length == 0) = ((s.ready.length : Int) == 0) from Bool.eq_iff_iff.2 (by simp only [beq_iff_eq]; omega)]
    rfl
/-- What came is told: those that were met. -/
structure Cm (p : Nat) (f : List (Nat × UInt8)) (left : Lit → Bool) (last : Nat) (some' : Bool) : Prop where
  le : ∀ e ∈ f, left (kyOf p e.1) = false → e.1 ≤ last
  is : some' = true → ∃ e ∈ f, e.1 = last
  no : some' = false → last = 0 ∧ ∀ e ∈ f, left (kyOf p e.1) = true
  sub : ∀ kl, left kl = true → Maps.has (FarD p f) kl = true
theorem Cm.start {p : Nat} {f : List (Nat × UInt8)} (h : FarOk f) : Cm p f (Maps.has (FarD p f)) 0 false :=
  ⟨fun e he hl => by
    rw [farD_has h (h.small e he)] at hl
    have := List.any_eq_false.1 hl e he
    simp at this, fun h => (by cases h), fun _ => ⟨rfl, fun e he => by
    rw [farD_has h (h.small e he)]
    exact List.any_eq_true.2 ⟨e, he, by simp⟩⟩, fun _ h => h⟩
theorem Cm.step {p last d : Nat} {f : List (Nat × UInt8)} {left : Lit → Bool} {so : Bool} (h : FarOk f) (hc : Cm p f left last so) (hd : d < m32) (hl : left (kyOf p d) = true) :
    Cm p f (fun z => left z && !z.sameKey (kyOf p d)) (max last d) true := by
  obtain ⟨e0, he0, hk0⟩ := farD_key (hc.sub _ hl)
  have hd0 := kyOf_inj hd (h.small e0 he0) hk0
  refine ⟨fun e he hn => ?_, fun _ => ?_, fun h => (by cases h), fun kl hk => hc.sub kl (by simp at hk; exact hk.1)⟩
  · rw [kyOf_same (h.small e he) hd] at hn
    simp only [Bool.and_eq_false_iff, Bool.not_eq_false', beq_iff_eq] at hn
    rcases hn with hn | hn
    · have := hc.le e he hn; omega
    · omega
  · rcases Nat.le_total last d with hle | hle
    · exact ⟨e0, he0, by omega⟩
    · cases so
      · have := (hc.no rfl).1
        exact ⟨e0, he0, by omega⟩
      · obtain ⟨e, he, h1⟩ := hc.is rfl
        exact ⟨e, he, by omega⟩
theorem icame_any (n x g e : Nat) (v : Value) (s : Sn) (w : World) (h : InB w n x g e v s) :
    Calls Try.prog 51 #[.pointer (some ⟨x, 0, none⟩)] w fun r w' => ∃ last so, r = .returned (.tuple #[.int .u32 ((last : Nat) : Int), .bool so]) ∧ (so = false ↔ s.far = []) ∧ (∀ q ∈ s.far, q.1 ≤ last) ∧ (so = true → ∃ q ∈ s.far, q.1 = last) ∧ Below w.heap.size w w' := by
  have KX := Lib.hid h.box
  have hown := h.map
  have HF := Lib.hid h.ok.far
  have HP := Lib.hid h.ok.at32
  have c0 := bk_cell h.box 0
  have c2 := bk_cell h.box 2
  simp [inC] at c0 c2
  have lx := bk_lt h.box
  have lg := h.map.lt
  obtain ⟨f, hf⟩ : ∃ f, f = s.far := ⟨_, rfl⟩
  obtain ⟨p, hp⟩ : ∃ p, p = s.at' := ⟨_, rfl⟩
  rw [← hf] at hown HF ⊢
  rw [← hp] at hown c0 HP
  have HPE := Lib.hid hp
  clear h hf hp
  go_enter Try.func51, Try.ntmps51
  go_wp2_with (first
    | (at_range; refine wpList_range_own _ rfl _ 58 rfl 22 5 law32 Try.underlying58 MR g _ _ rfl hown ?_; intro w0 hrg0 hg0 hs0)
    | go_in)
  go_frame
  have B0 : Below w.heap.size w w0 := ⟨hg0.os, hg0.tape, hg0.output, hg0.size, fun i hi => hg0.block i hi (by simp)⟩
  go_loopw [2, 3] (fun lv sv wr => ∃ (left : Lit → Bool) (cnt last : Nat) (so : Bool), wr.ranges Try.prog 22 MR g w.heap.size f.length (FarD p f) left cnt ∧ lv = .int .u32 (last : Int) ∧ sv = .bool so ∧ Hid (Cm p f left last so ∧ last < m32) ∧ Below w.heap.size w wr)
    (fun _ _ wr => wr.rangeLeft g w.heap.size)
  case atStart => exact ⟨_, _, 0, false, hrg0, rfl, rfl, Lib.hid ⟨Cm.start HF.out, by decide⟩, B0⟩
  case round =>
    obtain ⟨left, cnt, last, so, hrg, rfl, rfl, HC, hB⟩ := hrel
    go_wp2_with (first
      | (at_next; refine wpList_next_ranges_ii _ rfl _ rfl 22 5 .u32 .u8 law32 Try.underlying22 Try.underlying5 g w.heap.size f.length _ _ _ rfl hrg ?_ ?_)
      | go_in)
    · intro hc0 hl0
      go_wp2
      go_ret2
      refine ⟨last, so, rfl, ⟨fun h => ?_, fun h => ?_⟩, fun q hq => HC.out.1.le q hq (hl0 _), HC.out.1.is, hB⟩
      · subst h
        refine List.eq_nil_iff_forall_not_mem.2 fun q hq => ?_
        have := (HC.out.1.no rfl).2 q hq
        rw [hl0] at this
        cases this
      · cases so
        · rfl
        · obtain ⟨q, hq, _⟩ := HC.out.1.is rfl
          rw [h] at hq
          cases hq
    · intro y c w1 cnt1 hwx hwc hlx hat hrg1 hlt hg1 hs1 hen
      have HY : Hid (∃ d, d < m32 ∧ (Lit.int .u32 y) = kyOf p d ∧ left (kyOf p d) = true) := by
        obtain ⟨q, hq, hk⟩ := farD_key (HC.out.1.sub _ hlx)
        exact Lib.hid ⟨q.1, HF.out.small q hq, hk, hk ▸ hlx⟩
      have B1 : Below w.heap.size w w1 := hB.trans ⟨hg1.os, hg1.tape, hg1.output, hg1.size, fun i hi => hg1.block i (by have := hB.size; omega) (by simp; omega)⟩
      have k1 := bk_keep B1 lx KX.out
      have d0 := bk_cell k1 0
      simp only [inC, ← HPE.out] at d0
      simp at d0
      have l1 := bk_lt k1
      clear k1 hat hwx hwc hlx hg1
      go_wp2_with fail
      obtain ⟨d, hd, hky, hld⟩ := HY.out
      have hm : (if (last : Int) < (y - (p : Int)) % 4294967296 then (y - (p : Int)) % 4294967296 else (last : Int)) = ((max last d : Nat) : Int) := by
        have e1 : y = ((p + d) % m32 : Nat) := by
          unfold kyOf at hky
          injection hky
        have e2 : (y - (p : Int)) % 4294967296 = (d : Int) := by
          have := HP.out
          subst e1
          unfold m32 at *
          omega
        rw [e2]
        split <;> omega
      rw [hm]
      refine ⟨⟨_, cnt1, max last d, true, hrg1, rfl, rfl, Lib.hid ⟨?_, ?_⟩, B1⟩, ?_⟩
      · rw [hky]
        exact HC.out.1.step HF.out hd hld
      · have := HC.out.2
        unfold m32 at *
        omega
      · rw [hrg1.left_eq, hrg.left_eq]
        exact hlt
end Go.Proofs.Ytjnfdpakpdahkaa

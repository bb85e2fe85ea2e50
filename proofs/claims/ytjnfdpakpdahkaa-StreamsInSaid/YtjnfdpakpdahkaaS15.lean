/- The book of lists: one list more. -/
import Derived.Test.YtjnfdpakpdahkaaS14
import Derived.OneCell
namespace Go.Proofs.Ytjnfdpakpdahkaa
open Go.RowKit
set_option maxRecDepth 100000
/-- A book that holds the lists vs. -/
def BK (w : World) (bb _base : Nat) (vs : List Value) : Prop := ∃ hv, bk w bb = some (.cells #[hv] 50 (0, 0)) ∧ w.ownsRow (bb + 1) 69 1 hv vs.length vs
/-- Only a book is another one. -/
structure BFr (bb : Nat) (w w' : World) : Prop where
  os : w'.os = w.os
  tape : w'.tape = w.tape
  output : w'.output = w.output
  size : w.heap.size ≤ w'.heap.size
  keep : ∀ k o, bk w k = some o → k ≠ bb → (∀ cur, o ≠ .cells cur 69 (0, 0)) → bk w' k = some o
  low : ∀ k, k < bb → bk w' k = bk w k
theorem BFr.trans {bb : Nat} {a b c : World} (h : BFr bb a b) (k : BFr bb b c) : BFr bb a c :=
  ⟨k.os.trans h.os, k.tape.trans h.tape, k.output.trans h.output, Nat.le_trans h.size k.size, fun j o hj hn ho => k.keep j o (h.keep j o hj hn ho) hn ho, fun j hj => (k.low j hj).trans (h.low j hj)⟩
theorem BFr.room {bb : Nat} {w w' : World} {A : Option Addr} {c : Nat} {t : TypeId} (h : BFr bb w w') (hr : Room w A c t) (hb : ∀ b o, A = some ⟨b, o, none⟩ → b ≠ bb) (ht : t ≠ 69) : Room w' A c t := fun hc => by
  obtain ⟨b, o, cur, rfl, h1, h2⟩ := hr hc
  exact ⟨b, o, cur, rfl, h.keep _ _ h1 (hb b o rfl) (fun cur' e => by cases e; exact ht rfl), h2⟩
theorem u8_mod (z : Int) : ∃ x : UInt8, Value.int .u8 (z % 256) = B x := by
  refine ⟨UInt8.ofNat (z % 256).toNat, ?_⟩
  rw [B]
  congr 1
  simp only [UInt8.toNat_ofNat']
  omega
theorem infoLeaf : (Try.prog.info? 69).map (fun i => (i.zero, i.size, i.bytes)) = some (some .nilIface, 1, 16) := by kernel_rfl
theorem ownsRow_header {w : World} {base : Nat} {e : TypeId} {size : Nat} {v : Value} {n : Nat} {xs : List Value} (h : w.ownsRow base e size v n xs) : ∃ A c, v = .slice A n c := by
  obtain ⟨_, ⟨rfl, rfl⟩ | ⟨g, cap, cur, rfl, _⟩⟩ := h
  · exact ⟨none, 0, rfl⟩
  · exact ⟨_, cap, rfl⟩
/-- append of one value, whatever it is, out of a literal slice of one. -/
theorem append_one {P : Program} {w : World} {ops : Array Oper} {rest : List Oper} {o : Oper} {a : Act} {Q : Exit → Act → World → Prop} (hgd : o.guard = none) (s x : Operand) (t : TypeId)
    (ho : o.op = .call { callee := .builtin .append, args := #[s, x], argTypes := #[t, t] }) (base : Nat) (e : TypeId) (i : TypeInfo) (z : Value) (bytes : Nat) (ht : P.underlying t = some (.slice e)) (hi : P.info? e = some i) (hz : i.zero = some z)
    (hsize : i.size = 1) (hby : i.bytes = bytes) (hzs : z.cells.size = 1) (hbs : bytes ≤ 1024) (v : Value) (n : Nat) (xs : List Value) (hs : a.eval s = v) (hown : w.ownsRow base e 1 v n xs) (hn : n < 2 ^ 36) (hbase : base ≤ w.heap.size)
    (g : Nat) (u : Value) (t' : TypeId) (fr : Nat × Nat) (hx : a.eval x = .slice (some ⟨g, 0, none⟩) 1 1) (hg : bk w g = some (.cells #[u] t' fr)) (hu : u.oneCell' = true)
    (h : ∀ v' w', w'.ownsRow base e 1 v' (n + 1) (xs ++ [u]) → w.grownBy w' v.ownBlock → wpList P ops Q rest (a.put o.dst v') w') : wpList P ops Q (o :: rest) a w :=
  wpList_append_own w hgd s x t ho base e i z 1 bytes ht hi hz hsize hby hzs (by omega) v n xs hs hown ⟨g, 0, none⟩ 1 1 [u] hx rfl
    (by intro j u' hj; match j, hj with | 0, hj => (simp at hj; subst hj; simpa [Addr.add] using bk_cell hg 0)) (by intro u' hu'; simp at hu'; subst hu'; exact hu) (by unfold maxLen; omega)
    (by have : (n + 1) * bytes ≤ (n + 1) * 1024 := Nat.mul_le_mul_left _ hbs; omega) hbase fun v' w' h1 h2 _ => h v' w' h1 h2
theorem next_any (bb base : Nat) (vs : List Value) (w : World) (h : BK w bb base vs) (hl : vs.length < 2 ^ 30) :
    Calls Try.prog 46 #[.pointer (some ⟨bb, 0, none⟩)] w fun e w' => e = .returned (.int .i64 (1 + (vs.length : Int))) ∧ w = w' := by
  obtain ⟨hv, hb, ho⟩ := h
  obtain ⟨A, c, rfl⟩ := ownsRow_header ho
  have c0 := bk_cell hb 0
  simp at c0
  clear hb ho
  go_enter Try.func46, Try.ntmps46
  go_wp2
  go_ret
  exact ⟨rfl, rfl⟩
theorem bookBytes_any (bb base : Nat) (vs : List Value) (A : Option Addr) (n c : Nat) (w : World) (h : BK w bb base vs) (hl : vs.length < 2 ^ 30) (hbb : base ≤ bb) (hbase : base ≤ w.heap.size) :
    Calls Try.prog 25 #[.pointer (some ⟨bb, 0, none⟩), .slice A n c] w fun e w' => ∃ i x, e = .returned (.tuple #[]) ∧ BK w' bb base (vs ++ [.iface 67 (strip A n c i x)]) ∧ BFr bb w w' ∧ Below base w w' := by
  obtain ⟨i0, hi, hz0, hz1, hz2⟩ := info_parts infoLeaf
  have C := Lib.hid (next_any bb base vs w h hl)
  obtain ⟨hv, hb, ho⟩ := h
  have c0 := bk_cell hb 0
  simp at c0
  have hbl := bk_lt hb
  have hf0 := bk_frozen hb 0
  have hne : hv.ownBlock ≠ some bb := fun e => by
    obtain ⟨_, ⟨rfl, _⟩ | ⟨g, cap, cur, rfl, _, hg, _⟩⟩ := ho
    · cases e
    · have : g = bb := by simpa [Value.ownBlock] using e
      subst this
      have hg' : bk w g = _ := hg
      rw [hb] at hg'
      cases hg'
  have HO := Lib.hid ho; have HB := Lib.hid hb; have HN := Lib.hid hne
  clear ho hb hne
  obtain ⟨N, hN⟩ : ∃ N, N = vs.length := ⟨_, rfl⟩
  have HNN := Lib.hid hN
  clear hN
  go_enter Try.func25, Try.ntmps25
  go_wp2_with fail
  refine C.out.mono ?_
  rintro e w1 ⟨rfl, rfl⟩
  clear C
  go_wp2_with (at_builtin; refine append_one rfl _ _ 48 rfl (bb + 1) 69 i0 .nilIface 16 Try.underlying48 hi hz0 hz1 hz2 rfl (by omega) _ _ _ rfl (HO.out.alloc _) (by omega) (by simp; omega) w.heap.size _ _ _ rfl (bk_alloc_at _ _ _ rfl) rfl ?_)
  intro v' w1 hown' hgrow
  have hbb1 := hgrow.block bb (by simp; omega) (fun e => HN.out e.symm)
  have hc1 : w1.cell? ⟨bb, 0, none⟩ = some hv := by
    rw [show w1.cell? ⟨bb, 0, none⟩ = _ from World.cell?_of_block (a := ⟨bb, 0, none⟩) hbb1, World.cell?_alloc_lt _ _ _ hbl]; exact c0
  have hb1 : bk w1 bb = some (.cells #[hv] 50 (0, 0)) := hbb1.trans ((heap_alloc_old w _ hbl).trans HB.out)
  have hf1 := bk_frozen hb1 0
  obtain ⟨i, ei⟩ := u8_mod (1 + (vs.length : Int))
  obtain ⟨x, ex⟩ := u8_mod (255 - (1 + (vs.length : Int)))
  rw [ei, ex] at hown'
  obtain ⟨A', c', rfl⟩ := ownsRow_header hown'
  obtain ⟨v', hv'⟩ : ∃ v', v' = Value.slice A' (vs.length + 1) c' := ⟨_, rfl⟩
  rw [← hv'] at hown'
  have hne' : v'.ownBlock ≠ some bb := fun e => by
    obtain ⟨_, ⟨rfl, _⟩ | ⟨g, cap, cur, rfl, _, hg, _⟩⟩ := hown'
    · cases e
    · have : g = bb := by simpa [Value.ownBlock] using e
      subst this
      have hg' : bk w1 g = _ := hg
      rw [hb1] at hg'
      cases hg'
  have hfin : BK (w1.setCell ⟨bb, 0, none⟩ v') bb base (vs ++ [.iface 67 (strip A n c i x)]) := by
    refine ⟨v', by rw [bk_setCell_same, hb1]; rfl, ?_⟩
    rw [List.length_append]
    exact ownsRow_setCell_other hown' hne' _
  have hfr : BFr bb w (w1.setCell ⟨bb, 0, none⟩ v') := by
    refine ⟨hgrow.os, hgrow.tape, hgrow.output, (by have := hgrow.size; simp [World.setCell] at this ⊢; omega), fun k o hk hn ho => ?_, fun k hk => ?_⟩
    rotate_left
    · rw [bk_setCell_other _ _ _ _ _ (by omega)]
      refine (hgrow.block k (by simp; omega) (fun e => ?_)).trans (heap_alloc_old w _ (by omega))
      have := (HO.out.lt k e.symm).1
      omega
    have hkl := bk_lt hk
    rw [bk_setCell_other _ _ _ _ _ hn]
    refine (hgrow.block k (by simp; omega) (fun e => ?_)).trans ((heap_alloc_old w _ hkl).trans hk)
    obtain ⟨_, ⟨rfl, _⟩ | ⟨g, cap, cur, rfl, _, hg, _⟩⟩ := HO.out
    · cases e
    · have : k = g := by simpa [Value.ownBlock] using e
      subst this
      have hg' : bk w k = _ := hg
      rw [hk] at hg'
      cases hg'
      exact ho _ rfl
  have hbel : Below base w (w1.setCell ⟨bb, 0, none⟩ v') :=
    (((Below.refl base w).alloc hbase _).grown hgrow (by have := hbase; simp only [World.size_alloc]; omega) (fun g hg => by have := (HO.out.lt g hg).1; omega)).setCell hbb _
  rw [hv'] at hfin hfr hbel
  have HF := Lib.hid (And.intro hfin (And.intro hfr hbel))
  clear hfin hfr hbel hown' hgrow hbb1 hb1 ei ex hne' hv'
  go_wp2_with fail
  go_end0
  exact ⟨i, x, rfl, HF.out.1, HF.out.2.1, HF.out.2.2⟩
end Go.Proofs.Ytjnfdpakpdahkaa

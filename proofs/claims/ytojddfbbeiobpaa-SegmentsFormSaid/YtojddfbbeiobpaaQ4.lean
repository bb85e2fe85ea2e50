/- Segments' options: what they tell. -/
import Derived.Test.YtojddfbbeiobpaaQ3
import Derived.WalkMore
import Derived.ControlIn
namespace Go.Proofs.Ytojddfbbeiobpaa
open Go.RowKit Go.Shelf
attribute [local go_sem] Oper.semAt_some
set_option maxRecDepth 100000
/-- The first Mss among options. -/
def og (L : List UInt8) (xs : List (Option Nat)) : Option Nat :=
  xs.findSome? fun x => x.bind fun i => if ob L i = 2 ∧ ob L (i + 1) = 4 then some (256 * ob L (i + 2) + ob L (i + 3)) else none
/-- What options tell; none: they may not be. -/
def omss (L : List UInt8) : Option Nat := if none ∈ osq L 0 then none else some ((og L (osq L 0)).getD 0)
theorem osq_mem {L : List UInt8} {i : Nat} : ∀ (f : Nat) (k : Nat), L.length - k ≤ f → some i ∈ osq L k → i < L.length ∧ obad L i = false
  | f, k, hf, h => by
    rw [osq] at h
    split at h
    · rename_i hk
      split at h
      · simp at h
      · split at h
        · cases f with
          | zero => omega
          | succ f => exact osq_mem f (k + 1) (by omega) h
        · split at h
          · simp at h
          · rename_i hb
            have hb' : obad L k = false := by simpa using hb
            rcases List.mem_cons.1 h with e | h
            · cases e; exact ⟨hk, hb'⟩
            · cases f with
              | zero => omega
              | succ f =>
                have : 2 ≤ ob L (k + 1) := by simp [obad] at hb'; omega
                exact osq_mem f (k + ob L (k + 1)) (by omega) h
    · simp at h
theorem og_snoc (L : List UInt8) (xs : List (Option Nat)) (i : Nat) : og L (xs ++ [some i]) = (og L xs).or (if ob L i = 2 ∧ ob L (i + 1) = 4 then some (256 * ob L (i + 2) + ob L (i + 3)) else none) := by
  simp [og, List.findSome?_append]
theorem sall_in (n : Nat) (a : Option Addr) (len cap : Nat) (w : World) :
    CallsIn Fence.wide n Try.prog 46 #[.slice a len cap] w fun e w' => e = .returned (.func (.func 50) #[] #[.pointer (some ⟨w.heap.size, 0, none⟩)]) ∧ w' = w.alloc (.cells #[.slice a len cap] 28) := by
  refine callsIn_of_wp Try.func46 rfl trivial ?_ rfl
  simp only [Try.ntmps46, List.size_toArray, List.length_cons, List.length_nil, Nat.reduceAdd, Nat.reduceSub, Array.replicate_succ, Array.replicate_zero, List.push_toArray, List.append_toArray, List.nil_append, List.cons_append]
  gi_wp2
  go_ret
  exact ⟨rfl, rfl⟩
/-- An option's cells. -/
def ocl (p o c : Nat) (L : List UInt8) : Option Nat → Array Value
  | none => #[.int .u8 0, .slice none 0 0, .bool true]
  | some i => #[.int .u8 (ob L i : Nat), .slice (if c = i + 2 then some ⟨p, o + i, none⟩ else some ⟨p, o + (i + 2), none⟩) (ob L (i + 1) - 2) (c - (i + 2)), .bool false]
/-- A box of one cell. -/
def Bx (W : World) (b : Nat) (v : Value) : Prop := W.cell? ⟨b, 0, none⟩ = some v ∧ W.frozen? ⟨b, 0, none⟩ = false
theorem Bx.of_bk {W : World} {b : Nat} {v : Value} {t : TypeId} (h : bk W b = some (.cells #[v] t (0, 0))) : Bx W b v := ⟨(bk_cell h 0).trans rfl, bk_frozen h 0⟩
theorem bx_own {β : Type} (b : Nat) (v : β → Value) : Own (fun (s : β) W => Bx W b (v s)) := fun _ _ _ _ hs hg hr => ⟨cell_kept hs.1 hg hr, (frozen_kept hs.1 hg hr).trans hs.2⟩
theorem Bx.set_other {W : World} {b b' : Nat} {v u : Value} (h : Bx W b v) (hne : b ≠ b') : Bx (W.setCell ⟨b', 0, none⟩ u) b v :=
  ⟨(World.cell?_setCell_other _ _ _ _ (by simp <;> omega)).trans h.1, by rw [World.frozen?_setCell]; exact h.2⟩
theorem Bx.set {W : World} {b : Nat} {v u : Value} (h : Bx W b v) : Bx (W.setCell ⟨b, 0, none⟩ u) b u :=
  ⟨World.cell?_setCell_same' _ _ _ (by rw [h.1]; rfl), by rw [World.frozen?_setCell]; exact h.2⟩
theorem KpB.put {n₀ Bs : Nat} {W : World} {l : Nat} {o o' : Obj} (h1 : n₀ ≤ l) (h2 : Bs ≠ l) (hl : W.heap[l]? = some o) : KpB n₀ Bs W (W.putObj l o') := by
  have hlt := (Array.getElem?_eq_some_iff.1 hl).1
  have e : (W.putObj l o').heap[Bs]? = W.heap[Bs]? := World.putObj_heap_other h2
  refine ⟨(Below.refl _ _).grown (grownBy_putObj' W l o') (by omega) (fun k e => by cases e; exact h1), ?_, ?_⟩
  · simp only [World.cell?, e]
  · simp only [World.frozen?, e]
theorem KpB.alloc {n₀ Bs : Nat} {W : World} (h1 : n₀ ≤ W.heap.size) (h2 : Bs < W.heap.size) (o : Obj) : KpB n₀ Bs W (W.alloc o) := by
  have e : (W.alloc o).heap[Bs]? = W.heap[Bs]? := Below.heap_alloc W o Bs h2
  exact ⟨(Below.refl _ _).alloc h1 _, by simp only [World.cell?, e], by simp only [World.frozen?, e]⟩
theorem Bx.alloc {W : World} {b : Nat} {v : Value} (h : Bx W b v) (o : Obj) : Bx (W.alloc o) b v := by
  have hg := World.grownBy_alloc W o none
  exact ⟨cell_kept h.1 hg (fun r e => by cases e), (frozen_kept h.1 hg (fun r e => by cases e)).trans h.2⟩
theorem Bx.below {W W' : World} {b m : Nat} {v : Value} (h : Bx W b v) (hb : Below m W W') (hlt : b < m) : Bx W' b v :=
  ⟨(hb.cell (p := ⟨b, 0, none⟩) hlt).trans h.1, (World.frozen?_of_block (hb.block b hlt)).trans h.2⟩
theorem KeepsOthers.of_below {W W' : World} (h : Below W.heap.size W W') : KeepsOthers W W' :=
  ⟨h.size, fun k _ hk _ => (h.block k (Array.getElem?_eq_some_iff.1 hk).1).trans hk⟩
theorem KpB.trans {n₀ Bs : Nat} {A B C : World} (h : KpB n₀ Bs A B) (k : KpB n₀ Bs B C) : KpB n₀ Bs A C := ⟨h.1.trans k.1, k.2.1.trans h.2.1, k.2.2.trans h.2.2⟩
theorem KpB.of_below {n₀ Bs : Nat} {W W' : World} (h : Below W.heap.size W W') (h1 : n₀ ≤ W.heap.size) (h2 : Bs < W.heap.size) : KpB n₀ Bs W W' :=
  ⟨h.mono h1, h.cell (p := ⟨Bs, 0, none⟩) h2, World.frozen?_of_block (h.block Bs h2)⟩
theorem KpB.set {n₀ Bs b : Nat} {W : World} (h1 : n₀ ≤ b) (h2 : b ≠ Bs) (v : Value) : KpB n₀ Bs W (W.setCell ⟨b, 0, none⟩ v) :=
  ⟨(Below.refl _ _).setCell (p := ⟨b, 0, none⟩) h1 v, World.cell?_setCell_other _ _ _ _ (by simp <;> omega), World.frozen?_setCell _ _ _ _⟩
theorem sall_seq (n : Nat) (hn : 1 ≤ n) (A : Option Addr) (L : List UInt8) (c p o n₀ Bs : Nat) (w : World) (hr : Rd w n₀ A L) (hA : 0 < L.length → A = some ⟨p, o, none⟩) (hl : L.length < 2 ^ 40) (hc : L.length ≤ c) (hc' : c < 2 ^ 62) (hnB : n₀ ≤ Bs)
    (hB : bk w Bs = some (.cells #[.slice A L.length c] 28 (0, 0))) :
    SeqAt Fence.wide n Try.prog 50 #[.pointer (some ⟨Bs, 0, none⟩)] (orow p o c L) (KpB n₀ Bs) (fun xs => xs = osq L 0) (fun pre => ∃ post, pre ++ post = osq L 0) (fun pre x => ∃ post, pre ++ x :: post = osq L 0) ⟨Bs, 0, none⟩ w := by
  intro l J Jx W hW hJ hJd hY h0
  have hlt := bk_lt hB
  have hb := bk_keep hW hlt hB
  exact sall1_in n hn l Bs n₀ c p o A L J Jx hnB hl hc hc' hJ hJd hY W ((bk_cell hb 0).trans rfl) (bk_frozen hb 0) hA (hr.below hW (by omega)) h0
set_option maxHeartbeats 2000000 in
theorem size_in (n : Nat) (hn : 4 ≤ n) (A : Option Addr) (L : List UInt8) (c p o : Nat) (w : World) (hr : Rd w w.heap.size A L) (hA : 0 < L.length → A = some ⟨p, o, none⟩) (hl : L.length < 2 ^ 40) (hc : L.length ≤ c) (hc' : c < 2 ^ 62) :
    CallsIn Fence.wide n Try.prog 33 #[.slice A L.length c] w fun e w' => e = .returned (.tuple #[.int .u16 ((omss L).getD 0 : Nat), .bool (omss L).isSome]) ∧ Below w.heap.size w w' := by
  have h1 : 1 ≤ n := by omega
  have hmo : Try.prog.follows .mixedOrders = true := by kernel_rfl
  refine callsIn_of_wp_marks Try.func33 rfl trivial ?_ rfl
  simp only [Try.ntmps33, List.size_toArray, List.length_cons, List.length_nil, Nat.reduceAdd, Nat.reduceSub, Array.replicate_succ, Array.replicate_zero, List.push_toArray, List.append_toArray, List.nil_append, List.cons_append]
  gi_wp2
  refine wpIn_wide.2 (wp_scope_straight ((wpIn_wide (n := n)).1 ?_))
  gi_wp2
  refine wpIn_label ?_
  gi_wp2_with (refine ⟨trivial, ?_⟩; gi_at_call 46; refine (sall_in (n - 1) _ _ _ _).mono ?_; rintro e w' ⟨rfl, rfl⟩)
  have K0 : bk ((((w.alloc (.cells #[.int .u16 0] 26)).alloc (.cells #[.bool true] 4)).alloc (.cells #[.bool false] 4)).alloc (.cells #[.slice A L.length c] 28)) w.heap.size = some (.cells #[.int .u16 0] 26 (0, 0)) := by
    rw [bk_alloc_past _ _ _ (by simp <;> omega), bk_alloc_past _ _ _ (by simp <;> omega), bk_alloc_past _ _ _ (by simp)]; exact bk_alloc_at _ _ _ rfl
  have K1 : bk ((((w.alloc (.cells #[.int .u16 0] 26)).alloc (.cells #[.bool true] 4)).alloc (.cells #[.bool false] 4)).alloc (.cells #[.slice A L.length c] 28)) (w.heap.size + 1) = some (.cells #[.bool true] 4 (0, 0)) := by
    rw [bk_alloc_past _ _ _ (by simp <;> omega), bk_alloc_past _ _ _ (by simp)]; exact bk_alloc_at _ _ _ (by simp)
  have K2 : bk ((((w.alloc (.cells #[.int .u16 0] 26)).alloc (.cells #[.bool true] 4)).alloc (.cells #[.bool false] 4)).alloc (.cells #[.slice A L.length c] 28)) (w.heap.size + 1 + 1) = some (.cells #[.bool false] 4 (0, 0)) := by
    rw [bk_alloc_past _ _ _ (by simp)]; exact bk_alloc_at _ _ _ (by simp)
  have K3 : bk ((((w.alloc (.cells #[.int .u16 0] 26)).alloc (.cells #[.bool true] 4)).alloc (.cells #[.bool false] 4)).alloc (.cells #[.slice A L.length c] 28)) (w.heap.size + 1 + 1 + 1) = some (.cells #[.slice A L.length c] 28 (0, 0)) := bk_alloc_at _ _ _ (by simp)
  have B0 : Below w.heap.size w ((((w.alloc (.cells #[.int .u16 0] 26)).alloc (.cells #[.bool true] 4)).alloc (.cells #[.bool false] 4)).alloc (.cells #[.slice A L.length c] 28)) := ((((Below.refl _ w).alloc (Nat.le_refl _) _).alloc (by simp) _).alloc (by simp <;> omega) _).alloc (by simp <;> omega) _
  generalize hw0 : (((w.alloc (.cells #[.int .u16 0] 26)).alloc (.cells #[.bool true] 4)).alloc (.cells #[.bool false] 4)).alloc (.cells #[.slice A L.length c] 28) = w0 at *
  have hsz : w0.heap.size = w.heap.size + 4 := by rw [← hw0]; simp
  clear hw0
  rw [show w.heap.size + 1 + 1 + 1 = w.heap.size + 3 by omega] at K3 ⊢
  rw [show w.heap.size + 1 + 1 = w.heap.size + 2 by omega] at K2 ⊢
  refine wp_rangeAt rfl h1 (gf := 50) (lb := #[.pointer (some ⟨w.heap.size + 3, 0, none⟩)]) rfl trivial (enters_of Try.func50 (by kernel_rfl) rfl)
    (sall_seq (n - 1) (by omega) A L c p o w.heap.size (w.heap.size + 3) w0 (hr.below B0 (Nat.le_refl _)) hA hl hc hc' (by omega) K3)
    (fun h k => h.trans k) (fun W l o o' hle hl _ => KpB.put (by omega) (by omega) hl) (fun x => by cases x <;> rfl)
    (fun pre W => none ∉ pre ∧ Bx W w.heap.size (.int .u16 ((og L pre).getD 0 : Nat)) ∧ Bx W (w.heap.size + 1) (.bool true) ∧ Bx W (w.heap.size + 2) (.bool (og L pre).isSome) ∧ Below w.heap.size w W ∧ w0.heap.size ≤ W.heap.size)
    (fun cd pre W => cd = .exit 0 ∧ none ∈ pre ∧ (∃ v, Bx W w.heap.size (.int .u16 v)) ∧ Bx W (w.heap.size + 1) (.bool false) ∧ Below w.heap.size w W)
    ?hI ?hX ?hIp ?h0
    (fun pre x a' W => none ∉ pre ∧ (∃ post, pre ++ x :: post = osq L 0) ∧ Bx W w.heap.size (.int .u16 ((og L pre).getD 0 : Nat)) ∧ Bx W (w.heap.size + 1) (.bool true) ∧ Bx W (w.heap.size + 2) (.bool (og L pre).isSome) ∧ (Below w.heap.size w W ∧ w0.heap.size ≤ W.heap.size) ∧
      ∃ Bo, w.heap.size + 4 ≤ Bo ∧ W.heap[Bo]? = some (.cells (ocl p o c L x) 85 (0, 0)) ∧ a' = { tmps := #[.slice A L.length c, undef, .pointer (some ⟨w.heap.size, 0, none⟩), .pointer (some ⟨w.heap.size + 1, 0, none⟩), .pointer (some ⟨w.heap.size + 2, 0, none⟩), .pointer (some ⟨Bo, 0, none⟩), .slice A L.length c, .func (.func 50) #[] #[.pointer (some ⟨w.heap.size + 3, 0, none⟩)], .agg (ocl p o c L x), undef, undef, undef, undef, undef, undef, undef, undef, undef, undef, undef, undef, undef, undef, undef, undef, undef, undef, undef, undef, undef, undef, undef, undef, undef], defers := [] })
    ?hA ?assign ?body ?done ?stop
  case hI =>
    exact OwnFrom.and (fun _ _ _ _ h _ _ => h) (OwnFrom.and ((bx_own _ _).from _) (OwnFrom.and ((bx_own _ _).from _) (OwnFrom.and ((bx_own _ _).from _) (OwnFrom.and (ownFrom_below (Nat.le_refl _) (by omega)) (fun _ _ _ _ h hg _ => Nat.le_trans h hg.size)))))
  case hX =>
    intro cd
    refine OwnFrom.and (fun _ _ _ _ h _ _ => h) (OwnFrom.and (fun _ _ _ _ h _ _ => h) (OwnFrom.and ?_ (OwnFrom.and ((bx_own _ _).from _) (ownFrom_below (Nat.le_refl _) (by omega)))))
    rintro s' A' B' row ⟨v, hv⟩ hg hr'
    exact ⟨v, (bx_own (β := Unit) _ (fun _ => .int .u16 v)).from w0.heap.size () A' B' row hv hg hr'⟩
  case hIp =>
    rintro s' A' v ⟨h1, h2, h3, h4, h5, h6⟩
    exact ⟨h1, h2.set_other (by omega), h3.set_other (by omega), h4.set_other (by omega), h5.setCell (p := ⟨w.heap.size + 3, 0, none⟩) (Nat.le_add_right _ _) _, by simp only [World.size_setCell]; exact h6⟩
  case h0 => exact ⟨by simp, Bx.of_bk K0, Bx.of_bk K1, Bx.of_bk K2, B0, Nat.le_refl _⟩
  case hA =>
    intro pre x a'
    refine OwnFrom.and (fun _ _ _ _ h _ _ => h) (OwnFrom.and (fun _ _ _ _ h _ _ => h) (OwnFrom.and ((bx_own (β := Unit) _ (fun _ => _)).from _) (OwnFrom.and ((bx_own (β := Unit) _ (fun _ => _)).from _) (OwnFrom.and ((bx_own (β := Unit) _ (fun _ => _)).from _) (OwnFrom.and (OwnFrom.and (ownFrom_below (Nat.le_refl _) (by omega)) (fun _ _ _ _ h hg _ => Nat.le_trans h hg.size)) ?_)))))
    rintro s' A' B' row ⟨Bo, hBo, hc1, ha⟩ hg hr'
    exact ⟨Bo, hBo, (grownBy_keeps_cells hg (fun r e => (hr' r e).2) hc1 rfl).trans hc1, ha⟩
  case assign =>
    rintro l pre x W ⟨g1, g2, g3, g4, g5, g6⟩ hok
    cases x with
    | none =>
      simp only [orow]
      gi_wp2
      exact ⟨KeepsOthers.alloc _ _, KpB.alloc (by omega) (by omega) _, g1, hok, g2.alloc _, g3.alloc _, g4.alloc _, ⟨g5.alloc (by omega) _, by simp; omega⟩, W.heap.size, by omega, World.alloc_heap_new _ _, rfl⟩
    | some i =>
      obtain ⟨ad, had⟩ : ∃ ad : Option Addr, ad = if c = i + 2 then some ⟨p, o + i, none⟩ else some ⟨p, o + (i + 2), none⟩ := ⟨_, rfl⟩
      simp only [orow, ocl, ← had]
      have HAD := Lib.hid had
      clear had
      gi_wp2
      exact ⟨KeepsOthers.alloc _ _, KpB.alloc (by omega) (by omega) _, g1, hok, g2.alloc _, g3.alloc _, g4.alloc _, ⟨g5.alloc (by omega) _, by simp; omega⟩, W.heap.size, by omega, World.alloc_heap_new _ _, rfl⟩
  case body =>
    rintro l pre x a' W ⟨g1, hok, ⟨c0, f0⟩, ⟨c1, f1⟩, ⟨c2, f2⟩, ⟨g5, g6⟩, Bo, hBo, hb, rfl⟩
    have hk : bk W Bo = some (.cells (ocl p o c L x) 85 (0, 0)) := hb
    clear hb
    cases x with
    | none =>
      have z2 := (bk_cell hk 2).trans (show _ = some (.bool true) from rfl)
      gi_wp2
      exact ⟨KeepsOthers.setCell _ _ _, rfl, List.mem_append_right _ (List.mem_singleton.2 rfl), ⟨_, (show Bx W w.heap.size _ from ⟨c0, f0⟩).set_other (by omega)⟩, (show Bx W (w.heap.size + 1) _ from ⟨c1, f1⟩).set, g5.setCell (p := ⟨w.heap.size + 1, 0, none⟩) (Nat.le_add_right _ _) _⟩
    | some i =>
      obtain ⟨ad, had⟩ : ∃ ad : Option Addr, ad = if c = i + 2 then some ⟨p, o + i, none⟩ else some ⟨p, o + (i + 2), none⟩ := ⟨_, rfl⟩
      have z0 := (bk_cell hk 0).trans (show _ = some (.int .u8 (ob L i : Nat)) from rfl)
      have z1 := (bk_cell hk 1).trans (show _ = some (.slice ad (ob L (i + 1) - 2) (c - (i + 2))) from by subst had; rfl)
      have z2 := (bk_cell hk 2).trans (show _ = some (.bool false) from rfl)
      have HAD := Lib.hid had
      clear had
      have hg1 : none ∉ pre ++ [some i] := by simp [g1]
      have hog := og_snoc L pre i
      by_cases hb0 : ob L i = 2
      · by_cases hb1 : ob L (i + 1) = 4
        · by_cases hb2 : (og L pre).isSome = true
          · have d1 : ((ob L i : Int) == 2) = true := by simp; omega
            have d2 : (((ob L (i + 1) - 2 : Nat) : Int) == 2) = true := by simp; omega
            rw [hb2] at c2
            have hog' : og L (pre ++ [some i]) = og L pre := by rw [hog]; obtain ⟨v, hv⟩ := Option.isSome_iff_exists.1 hb2; rw [hv]; rfl
            gi_wp2
            rw [← hb2] at c2
            exact ⟨KeepsOthers.refl _, ⟨Below.refl _ _, rfl, rfl⟩, hg1, by rw [hog']; exact ⟨c0, f0⟩, ⟨c1, f1⟩, by rw [hog']; exact ⟨c2, f2⟩, g5, g6⟩
          · have hbf : (og L pre).isSome = false := by simpa using hb2
            have d1 : ((ob L i : Int) == 2) = true := by simp; omega
            have d2 : (((ob L (i + 1) - 2 : Nat) : Int) == 2) = true := by simp; omega
            obtain ⟨post, hpost⟩ := hok
            obtain ⟨hi, hob⟩ := osq_mem (L := L) (i := i) L.length 0 (by omega) (by rw [← hpost]; simp)
            have hi4 : i + 4 ≤ L.length := by simp [obad] at hob; omega
            obtain ⟨D, hD⟩ : ∃ D, D = (L.drop (i + 2)).take 2 := ⟨_, rfl⟩
            have hDl : D.length = 2 := by rw [hD, List.length_take, List.length_drop]; omega
            have hRD : Rd W w.heap.size (some ⟨p, o + (i + 2), none⟩) D := by
              intro _
              obtain ⟨p', o', e, hlt, hcs⟩ := (hr.below g5 (Nat.le_refl _)) (by omega)
              rw [hA (by omega)] at e
              cases e
              refine ⟨p, o + (i + 2), rfl, hlt, fun j hj => ?_⟩
              rw [Nat.add_assoc, hcs (i + 2 + j) (by omega)]
              subst hD
              simp
            rw [hbf] at c2
            obtain rfl : ad = some ⟨p, o + (i + 2), none⟩ := by rw [HAD.out, if_neg (by omega)]
            rw [show ob L (i + 1) - 2 = D.length by omega] at z1 d2
            have hsz' := g5.size
            have CO := of_PK (some ⟨p, o + (i + 2), none⟩) D (c - (i + 2)) W (hRD.mono g5.size) (fun h => by cases h) (by omega) 0 (by omega)
            have HCO := Lib.hid CO
            have HD := Lib.hid hD
            have HDL := Lib.hid hDl
            clear CO hD hDl hRD
            gi_wp2
            refine ⟨trivial, fun h => (by simp [Fence.wide] at h), (CallsIn.inRound l (callsIn_wide.2 HCO.out)).mono ?_⟩
            rintro e w2 ⟨gc, gb, rfl, hgc, _, hgg, _, hPK, hPB, b2⟩
            have CN := num_at gc gb D 0 2 w2 hPK hPB hgg (by rw [HDL.out]; omega) (by omega) (by omega)
            have HCN := Lib.hid CN
            clear CN
            gi_wp2
            refine ⟨trivial, fun h => (by simp [Fence.wide] at h), (CallsIn.inRound l (callsIn_wide.2 HCN.out)).mono ?_⟩
            rintro e w3 ⟨rfl, _, hg3⟩
            have b3 : Below W.heap.size W w3 := b2.grown hg3 b2.size (fun k e => by cases e; exact hgc)
            have m0 := (show Bx W w.heap.size _ from ⟨c0, f0⟩).below b3 (by omega)
            have m1 := (show Bx W (w.heap.size + 1) _ from ⟨c1, f1⟩).below b3 (by omega)
            have m2 := (show Bx W (w.heap.size + 2) _ from ⟨c2, f2⟩).below b3 (by omega)
            have m00 := m0.1; have m01 := m0.2; have m20 := m2.1; have m21 := m2.2
            have hv : IntKind.u16.wrap (val (List.take 2 D) : Int) = ((256 * ob L (i + 2) + ob L (i + 3) : Nat) : Int) := by
              have e0 : D[0]? = L[i + 2]? := by rw [HD.out]; simp
              have e1 : D[1]? = L[i + 3]? := by rw [HD.out]; simp
              have hl2 := HDL.out
              match D, hl2 with
              | [a, b], _ =>
                have ha := a.toNat_lt
                have hb' := b.toNat_lt
                have o0 : ob L (i + 2) = a.toNat := by unfold ob; rw [← e0]; rfl
                have o1 : ob L (i + 3) = b.toNat := by unfold ob; rw [← e1]; rfl
                rw [o0, o1, show List.take 2 [a, b] = [a, b] from rfl, IntKind.wrap_u16]
                simp [val]
                omega
            have hog' : og L (pre ++ [some i]) = some (256 * ob L (i + 2) + ob L (i + 3)) := by
              rw [hog, if_pos ⟨hb0, hb1⟩, Option.not_isSome_iff_eq_none.1 hb2]; rfl
            have g5' := g5.trans (b3.mono hsz')
            have hs3 := b3.size
            have HV := Lib.hid hv
            clear hv
            gi_wp2
            refine ⟨((KeepsOthers.of_below b3).trans (KeepsOthers.setCell _ _ _)).trans (KeepsOthers.setCell _ _ _), ((KpB.of_below b3 hsz' (by omega)).trans (KpB.set (by omega) (by omega) _)).trans (KpB.set (by omega) (by omega) _), hg1, ?_, ?_, ?_, ?_, ?_⟩
            · rw [hog']; rw [HV.out]; exact m0.set.set_other (by omega)
            · exact (m1.set_other (by omega)).set_other (by omega)
            · rw [hog']; exact (m2.set_other (by omega)).set
            · exact (g5'.setCell (p := ⟨w.heap.size, 0, none⟩) (Nat.le_refl _) _).setCell (p := ⟨w.heap.size + 2, 0, none⟩) (Nat.le_add_right _ _) _
            · simp only [World.size_setCell]; omega
        · have d1 : ((ob L i : Int) == 2) = true := by simp; omega
          have d2 : (((ob L (i + 1) - 2 : Nat) : Int) == 2) = false := by simp; omega
          have hog' : og L (pre ++ [some i]) = og L pre := by rw [hog, if_neg (by omega)]; simp
          gi_wp2
          exact ⟨KeepsOthers.refl _, ⟨Below.refl _ _, rfl, rfl⟩, hg1, by rw [hog']; exact ⟨c0, f0⟩, ⟨c1, f1⟩, by rw [hog']; exact ⟨c2, f2⟩, g5, g6⟩
      · have d1 : ((ob L i : Int) == 2) = false := by simp; omega
        have hog' : og L (pre ++ [some i]) = og L pre := by rw [hog, if_neg (by omega)]; simp
        gi_wp2
        exact ⟨KeepsOthers.refl _, ⟨Below.refl _ _, rfl, rfl⟩, hg1, by rw [hog']; exact ⟨c0, f0⟩, ⟨c1, f1⟩, by rw [hog']; exact ⟨c2, f2⟩, g5, g6⟩
  case done =>
    rintro D xs W hD rfl ⟨g1, ⟨c0, f0⟩, ⟨c1, f1⟩, g4, g5, g6⟩ hK
    have e0 : omss L = some ((og L (osq L 0)).getD 0) := by unfold omss; rw [if_neg g1]
    have E0 := Lib.hid e0
    clear e0 g4
    gi_wp2
    rw [Exit.noGoto_ret]
    have k1 : Bx ((W.setCell ⟨w.heap.size, 0, none⟩ (.int .u16 ((og L (osq L 0)).getD 0 : Nat))).setCell ⟨w.heap.size + 1, 0, none⟩ (.bool true)) w.heap.size (.int .u16 ((og L (osq L 0)).getD 0 : Nat)) := (Bx.set (show Bx W w.heap.size _ from ⟨c0, f0⟩)).set_other (by omega)
    have k2 : Bx ((W.setCell ⟨w.heap.size, 0, none⟩ (.int .u16 ((og L (osq L 0)).getD 0 : Nat))).setCell ⟨w.heap.size + 1, 0, none⟩ (.bool true)) (w.heap.size + 1) (.bool true) := ((show Bx W (w.heap.size + 1) _ from ⟨c1, f1⟩).set_other (by omega)).set
    have hK2 := ((KeepsOthers.setCell W ⟨w.heap.size, 0, none⟩ (.int .u16 ((og L (osq L 0)).getD 0 : Nat))).trans (KeepsOthers.setCell _ ⟨w.heap.size + 1, 0, none⟩ (.bool true))).same D _ hK rfl
    have hB2 := (g5.setCell (p := ⟨w.heap.size, 0, none⟩) (Nat.le_refl _) (.int .u16 ((og L (osq L 0)).getD 0 : Nat))).setCell (p := ⟨w.heap.size + 1, 0, none⟩) (Nat.le_add_right _ _) (.bool true)
    generalize (W.setCell ⟨w.heap.size, 0, none⟩ (.int .u16 ((og L (osq L 0)).getD 0 : Nat))).setCell ⟨w.heap.size + 1, 0, none⟩ (.bool true) = W2 at *
    refine ⟨by simp, .inl ⟨_, _, rfl, run_takeDeferred hK2, ?_⟩⟩
    have k1' : Bx (W2.putObj D (.deferred none)) w.heap.size (.int .u16 ((og L (osq L 0)).getD 0 : Nat)) := bx_own (β := Unit) _ (fun _ => _) () _ _ _ k1 (grownBy_putObj' W2 D (.deferred none)) (fun r e => by cases e; exact ⟨_, hK2, rfl⟩)
    have k2' : Bx (W2.putObj D (.deferred none)) (w.heap.size + 1) (.bool true) := bx_own (β := Unit) _ (fun _ => _) () _ _ _ k2 (grownBy_putObj' W2 D (.deferred none)) (fun r e => by cases e; exact ⟨_, hK2, rfl⟩)
    have hB3 := hB2.grown (grownBy_putObj' W2 D (.deferred none)) hB2.size (fun k e => by cases e; omega)
    have c1' := k1'.1
    have c2' := k2'.1
    refine ⟨.tuple #[.int .u16 ((og L (osq L 0)).getD 0 : Nat), .bool true], ?_, ?_⟩
    · simp [results, go_sem, c1', c2']
    · exact ⟨by rw [E0.out]; rfl, hB3⟩
  case stop =>
    rintro D cd pre W hD hpre ⟨rfl, g1, ⟨v, c0, f0⟩, ⟨c1, f1⟩, g5⟩ hK
    have e0 : omss L = none := by
      obtain ⟨post, hp⟩ := hpre
      unfold omss
      rw [if_pos (by rw [← hp]; exact List.mem_append_left _ g1)]
    have E0 := Lib.hid e0
    clear e0
    gi_wp2
    rw [Exit.noGoto_ret]
    have k1 : Bx ((W.setCell ⟨w.heap.size, 0, none⟩ (.int .u16 0)).setCell ⟨w.heap.size + 1, 0, none⟩ (.bool false)) w.heap.size (.int .u16 0) := (Bx.set (show Bx W w.heap.size _ from ⟨c0, f0⟩)).set_other (by omega)
    have k2 : Bx ((W.setCell ⟨w.heap.size, 0, none⟩ (.int .u16 0)).setCell ⟨w.heap.size + 1, 0, none⟩ (.bool false)) (w.heap.size + 1) (.bool false) := ((show Bx W (w.heap.size + 1) _ from ⟨c1, f1⟩).set_other (by omega)).set
    have hK2 := ((KeepsOthers.setCell W ⟨w.heap.size, 0, none⟩ (.int .u16 0)).trans (KeepsOthers.setCell _ ⟨w.heap.size + 1, 0, none⟩ (.bool false))).same D _ hK rfl
    have hB2 := (g5.setCell (p := ⟨w.heap.size, 0, none⟩) (Nat.le_refl _) (.int .u16 0)).setCell (p := ⟨w.heap.size + 1, 0, none⟩) (Nat.le_add_right _ _) (.bool false)
    generalize (W.setCell ⟨w.heap.size, 0, none⟩ (.int .u16 0)).setCell ⟨w.heap.size + 1, 0, none⟩ (.bool false) = W2 at *
    refine ⟨by simp, .inl ⟨_, _, rfl, run_takeDeferred hK2, ?_⟩⟩
    have k1' : Bx (W2.putObj D (.deferred none)) w.heap.size (.int .u16 0) := bx_own (β := Unit) _ (fun _ => _) () _ _ _ k1 (grownBy_putObj' W2 D (.deferred none)) (fun r e => by cases e; exact ⟨_, hK2, rfl⟩)
    have k2' : Bx (W2.putObj D (.deferred none)) (w.heap.size + 1) (.bool false) := bx_own (β := Unit) _ (fun _ => _) () _ _ _ k2 (grownBy_putObj' W2 D (.deferred none)) (fun r e => by cases e; exact ⟨_, hK2, rfl⟩)
    have hB3 := hB2.grown (grownBy_putObj' W2 D (.deferred none)) hB2.size (fun k e => by cases e; omega)
    have c1' := k1'.1
    have c2' := k2'.1
    refine ⟨.tuple #[.int .u16 0, .bool false], ?_, ?_⟩
    · simp [results, go_sem, c1', c2']
    · exact ⟨by rw [E0.out]; rfl, hB3⟩
end Go.Proofs.Ytojddfbbeiobpaa

import Derived.Test.YtjimmfbjhkoekaaMgD
import Derived.Test.YtjimmfbjhkoekaaMhB
/- A book of lists of whatever kinds: each keeps what it is filled with. -/
namespace Go.Proofs.Ytjimmfbjhkoekaa
open Go.RowKit
set_option maxRecDepth 100000
/-- A list of a book, by what its methods do. -/
structure Leaf where
  T : TypeId
  v : Value
  f1 : FuncId
  f2 : FuncId
  f3 : FuncId
  m1 : ∀ w, (method (Try.prog.types.size + Made.depth) T v "sojourner/sojournerlaw01.fill").run Try.prog w = .ok (f1, v) w
  m2 : ∀ w, (method (Try.prog.types.size + Made.depth) T v "sojourner/sojournerlaw01.fillRoom").run Try.prog w = .ok (f2, v) w
  m3 : ∀ w, (method (Try.prog.types.size + Made.depth) T v "sojourner/sojournerlaw01.kept").run Try.prog w = .ok (f3, v) w
  e1 : ∀ w, (callFunc f1 #[v]).run Try.prog w = .ok (.enter f1 #[v]) w
  e2 : ∀ w, (callFunc f2 #[v]).run Try.prog w = .ok (.enter f2 #[v]) w
  e3 : ∀ w, (callFunc f3 #[v]).run Try.prog w = .ok (.enter f3 #[v]) w
  Rin : Nat → Nat → Prop
  Rout : Nat → Nat → Prop
  OK : World → Prop
  In : World → Prop
  Out : World → Prop
  okW : ∀ {S : Nat → Nat → Prop} {w w' : World}, OK w → Wrt S w w' → OK w'
  inK : ∀ {S : Nat → Nat → Prop} {w w' : World}, In w → Wrt S w w' → (∀ b j, Rin b j → ¬ S b j) → In w'
  outK : ∀ {S : Nat → Nat → Prop} {w w' : World}, Out w → Wrt S w w' → (∀ b j, Rout b j → ¬ S b j) → Out w'
  dis : ∀ b j, Rin b j → Rout b j → False
  fill : ∀ w, OK w → Calls Try.prog f1 #[v] w fun e w' => e = .returned (.tuple #[]) ∧ Wrt Rin w w' ∧ In w'
  room : ∀ w, OK w → Calls Try.prog f2 #[v] w fun e w' => e = .returned (.tuple #[]) ∧ Wrt Rout w w' ∧ Out w'
  kept : ∀ w, OK w → In w → Out w → Calls Try.prog f3 #[v] w fun e w' => e = .returned (.bool true) ∧ Below w.heap.size w w'
  ty : ∀ {w : World} {b j : Nat}, OK w → (Rin b j ∨ Rout b j) → ∃ cur t, bk w b = some (.cells cur t (0, 0)) ∧ t ≠ 44 ∧ t ≠ 78
def Leaf.R (l : Leaf) (b j : Nat) : Prop := l.Rin b j ∨ l.Rout b j
abbrev Leaf.val (l : Leaf) : Value := .iface l.T l.v
def DisL (L : List Leaf) : Prop := ∀ (i j : Nat) (a b : Leaf), i ≠ j → L[i]? = some a → L[j]? = some b → ∀ k m, a.R k m → b.R k m → False
def rgL (L : List Leaf) (b j : Nat) : Prop := ∃ l ∈ L, l.R b j
theorem Wrt.otherL {k : Nat} {w w' : World} {L : List Leaf} {cur : Array Value} {t : TypeId} {fr : Nat × Nat} (h : Wrt (rgL L) w w') (hL : ∀ l ∈ L, l.OK w) (hk : bk w k = some (.cells cur t fr)) (ht : t = 44 ∨ t = 78) : bk w' k = some (.cells cur t fr) :=
  (h.oth k (bk_lt hk) fun j hj => by
    obtain ⟨l, hl, hr⟩ := hj
    obtain ⟨cur', t', hb, h1, h2⟩ := l.ty (hL l hl) hr
    rw [hk] at hb
    cases hb
    rcases ht with e | e
    · exact h1 e
    · exact h2 e).trans hk
set_option maxHeartbeats 2000000 in
theorem apart_leaves (bb base : Nat) (L : List Leaf) (w : World) (h : BK w bb base (L.map Leaf.val)) (hL : ∀ l ∈ L, l.OK w) (hd : DisL L) (hN : L.length < 2 ^ 40) :
    Calls Try.prog 17 #[.pointer (some ⟨bb, 0, none⟩)] w fun e w' => e = .returned (.bool true) ∧ Wrt (rgL L) w w' := by
  obtain ⟨A, cp, hb, hg⟩ := h.cellsAt
  rw [List.length_map] at hb hg
  obtain ⟨N, hNL⟩ : ∃ N, N = L.length := ⟨_, rfl⟩
  rw [← hNL] at hb hg hN
  have HB := Lib.hid hb; have HG := Lib.hid hg; have HL := Lib.hid hL; have HD := Lib.hid hd; have HNL := Lib.hid hNL
  have c0 := bk_cell hb 0
  simp at c0
  clear hb hg hL hd h hNL
  by_cases hbig : 120 < N
  · have d1 : decide (120 < (N : Int)) = true := by simp; omega
    have d2 : decide (120 < N) = true := by simp; omega
    go_enter Try.func17, Try.ntmps17
    go_wp2
    go_ret
    exact ⟨rfl, Wrt.refl _ _⟩
  · have d1 : decide (120 < (N : Int)) = false := by simp; omega
    have d2 : decide (120 < N) = false := by simp; omega
    have hN2 : N ≤ 120 := by omega
    clear hbig
    go_enter Try.func17, Try.ntmps17
    go_wp2
    go_loopw [3] (fun i wr => ∃ k : Nat, k ≤ N ∧ i = .int .i64 k ∧ Wrt (rgL L) w wr ∧ Hid (∀ (m : Nat) (l : Leaf), L[m]? = some l → m < k → l.In wr)) (fun i _ => N - (intOf i).toNat)
    case atStart => exact ⟨0, by omega, rfl, Wrt.refl _ _, Lib.hid fun m l _ h => absurd h (by omega)⟩
    case round =>
      obtain ⟨k, hk, rfl, hW, hdone⟩ := hrel
      have c1 := bk_cell (hW.otherL HL.out HB.out (.inl rfl)) 0
      simp at c1
      by_cases hlt : k < N
      · have d3 : decide ((k : Int) < (N : Int)) = true := by simp; omega
        obtain ⟨g, cur, rfl, hg, hcells⟩ := HG.out (by omega)
        obtain ⟨l, hl⟩ : ∃ l, L[k]? = some l := ⟨L[k]'(by rw [← HNL.out]; exact hlt), List.getElem?_eq_getElem _⟩
        have hlm : l ∈ L := List.mem_of_getElem? hl
        have c2 := bk_cell (hW.otherL HL.out hg (.inr rfl)) k
        rw [hcells k l.val (by rw [List.getElem?_map, hl]; rfl)] at c2
        have C := Lib.hid (l.fill wr (l.okW (HL.out l hlm) hW))
        have HLK := Lib.hid hl
        clear hg hcells hl
        go_wp2_with (refine wpList_invoke rfl _ _ _ rfl l.T _ _ l.f1 _ _ rfl (l.m1 _) (l.e1 _) C.out ?_)
        intro w1 hR1 hR2
        have HR := Lib.hid (And.intro hR1 hR2)
        clear hR1 hR2 C
        go_wp2_with fail
        go_roundw
        case rel =>
          refine ⟨k + 1, by omega, by go_num, hW.trans (HR.out.1.mono fun b j hs => ⟨l, hlm, .inl hs⟩), Lib.hid fun m l' hm hk' => ?_⟩
          by_cases e : m = k
          · subst e
            obtain rfl : l = l' := Option.some.inj (HLK.out.symm.trans hm)
            exact HR.out.2
          · exact l'.inK (hdone.out m l' hm (by omega)) HR.out.1 fun b j h1 h2 => HD.out m k l' l e hm HLK.out b j (.inl h1) (.inl h2)
        case measure => simp [intOf]; omega
      · have d3 : decide ((k : Int) < (N : Int)) = false := by simp; omega
        obtain rfl : k = N := by omega
        have HW1 := Lib.hid hW
        have HD1 := Lib.hid (fun (m : Nat) (l : Leaf) (hm : L[m]? = some l) => hdone.out m l hm (by rw [HNL.out]; exact (List.getElem?_eq_some_iff.1 hm).1))
        clear hlt hW hdone
        go_wp2_with fail
        go_loopw [4] (fun i w2 => ∃ j : Nat, j ≤ k ∧ i = .int .i64 j ∧ Wrt (rgL L) w w2 ∧ Hid (∀ (m : Nat) (l : Leaf), L[m]? = some l → l.In w2 ∧ (m < j → l.Out w2))) (fun i _ => k - (intOf i).toNat)
        case atStart => exact ⟨0, by omega, rfl, HW1.out, Lib.hid fun m l hm => ⟨HD1.out m l hm, fun h => absurd h (by omega)⟩⟩
        case round =>
          clear c1 HW1 HD1
          obtain ⟨j, hj, rfl, hW, hdone⟩ := hrel
          have c1 := bk_cell (hW.otherL HL.out HB.out (.inl rfl)) 0
          simp at c1
          by_cases hlt : j < k
          · have d3 : decide ((j : Int) < (k : Int)) = true := by simp; omega
            obtain ⟨g, cur, rfl, hg, hcells⟩ := HG.out (by omega)
            obtain ⟨l, hl⟩ : ∃ l, L[j]? = some l := ⟨L[j]'(by rw [← HNL.out]; exact hlt), List.getElem?_eq_getElem _⟩
            have hlm : l ∈ L := List.mem_of_getElem? hl
            have c2 := bk_cell (hW.otherL HL.out hg (.inr rfl)) j
            rw [hcells j l.val (by rw [List.getElem?_map, hl]; rfl)] at c2
            have C := Lib.hid (l.room wr (l.okW (HL.out l hlm) hW))
            have HLK := Lib.hid hl
            clear hg hcells hl
            go_wp2_with (refine wpList_invoke rfl _ _ _ rfl l.T _ _ l.f2 _ _ rfl (l.m2 _) (l.e2 _) C.out ?_)
            intro w1 hR1 hR2
            have HR := Lib.hid (And.intro hR1 hR2)
            clear hR1 hR2 C
            go_wp2_with fail
            go_roundw
            case rel =>
              refine ⟨j + 1, by omega, by go_num, hW.trans (HR.out.1.mono fun b j hs => ⟨l, hlm, .inr hs⟩), Lib.hid fun m l' hm => ⟨?_, fun hk' => ?_⟩⟩
              · refine l'.inK (hdone.out m l' hm).1 HR.out.1 fun b q h1 h2 => ?_
                by_cases e : m = j
                · subst e
                  obtain rfl : l = l' := Option.some.inj (HLK.out.symm.trans hm)
                  exact l.dis b q h1 h2
                · exact HD.out m j l' l e hm HLK.out b q (.inl h1) (.inr h2)
              · by_cases e : m = j
                · subst e
                  obtain rfl : l = l' := Option.some.inj (HLK.out.symm.trans hm)
                  exact HR.out.2
                · exact l'.outK ((hdone.out m l' hm).2 (by omega)) HR.out.1 fun b q h1 h2 => HD.out m j l' l e hm HLK.out b q (.inr h1) (.inr h2)
            case measure => simp [intOf]; omega
          · have d3 : decide ((j : Int) < (k : Int)) = false := by simp; omega
            obtain rfl : j = k := by omega
            have HW2 := Lib.hid hW
            have HD2 := Lib.hid (fun (m : Nat) (l : Leaf) (hm : L[m]? = some l) => And.intro (hdone.out m l hm).1 ((hdone.out m l hm).2 (by rw [HNL.out]; exact (List.getElem?_eq_some_iff.1 hm).1)))
            clear hlt hW hdone
            go_wp2_with fail
            obtain ⟨wo, rfl⟩ : ∃ wo : World, wo = wr := ⟨_, rfl⟩
            go_loopw [5] (fun i w3 => ∃ q : Nat, q ≤ j ∧ i = .int .i64 q ∧ Below wo.heap.size wo w3) (fun i _ => j - (intOf i).toNat)
            case atStart => exact ⟨0, by omega, rfl, Below.refl _ _⟩
            case round =>
              obtain ⟨q, hq, rfl, hB3⟩ := hrel
              clear c1
              have hWr : Wrt (rgL L) w wr := HW2.out.trans (Wrt.of_below hB3)
              have c1 := bk_cell (hWr.otherL HL.out HB.out (.inl rfl)) 0
              simp at c1
              have HWR := Lib.hid hWr
              clear hWr
              by_cases hlt : q < j
              · have d3 : decide ((q : Int) < (j : Int)) = true := by simp; omega
                obtain ⟨g, cur, rfl, hg, hcells⟩ := HG.out (by omega)
                obtain ⟨l, hl⟩ : ∃ l, L[q]? = some l := ⟨L[q]'(by rw [← HNL.out]; exact hlt), List.getElem?_eq_getElem _⟩
                have hlm : l ∈ L := List.mem_of_getElem? hl
                have c2 := bk_cell (HWR.out.otherL HL.out hg (.inr rfl)) q
                rw [hcells q l.val (by rw [List.getElem?_map, hl]; rfl)] at c2
                have C := Lib.hid (l.kept wr (l.okW (HL.out l hlm) HWR.out) (l.inK (S := fun _ _ => False) (HD2.out q l hl).1 (Wrt.of_below hB3) fun _ _ _ hf => hf) (l.outK (S := fun _ _ => False) (HD2.out q l hl).2 (Wrt.of_below hB3) fun _ _ _ hf => hf))
                have HLK := Lib.hid hl
                clear hg hcells hl
                go_wp2_with (refine wpList_invoke rfl _ _ _ rfl l.T _ _ l.f3 _ _ rfl (l.m3 _) (l.e3 _) C.out ?_)
                intro w1 hR
                clear C
                go_wp2_with fail
                go_roundw
                case rel => exact ⟨q + 1, by omega, by go_num, hB3.trans (hR.mono hB3.size)⟩
                case measure => simp [intOf]; omega
              · have d3 : decide ((q : Int) < (j : Int)) = false := by simp; omega
                have d4 : decide (q < j) = false := by simp; omega
                clear hlt
                go_wp2_with fail
                go_ret
                exact ⟨rfl, HWR.out⟩
end Go.Proofs.Ytjimmfbjhkoekaa
/- A strip of addresses: fill. -/
namespace Go.Proofs.Ytjimmfbjhkoekaa
open Go.RowKit
set_option maxRecDepth 100000
@[go_sem ↓] theorem ldAddrS (dst : Option Tmp) (x : Operand) (t : TypeId) (pos : String) (af : Array Edge) (g : Option (Nat × Bool)) (a : Act) (w : World) (K : Act → World → Prop) (Q : Exit → Act → World → Prop) :
    Oper.wp Try.prog ⟨dst, .load 23 x, t, pos, af, g⟩ a w K Q = ldPtr (wpHid Try.prog ⟨dst, .load 23 x, t, pos, af, g⟩ a w K Q) 16 w (fun c => K (a.put dst (.agg c)) w) (a.eval x) :=
  wp_load_bk 23 16 _ Try.underlying23 rfl (by kernel_rfl) dst x t pos af g a w K Q
@[go_sem ↓] theorem stAddrS (dst : Option Tmp) (x y : Operand) (t : TypeId) (pos : String) (af : Array Edge) (g : Option (Nat × Bool)) (a : Act) (w : World) (K : Act → World → Prop) (Q : Exit → Act → World → Prop) :
    Oper.wp Try.prog ⟨dst, .store 23 x y, t, pos, af, g⟩ a w K Q = stAt (wpHid Try.prog ⟨dst, .store 23 x y, t, pos, af, g⟩ a w K Q) 16 w (fun w' => K (a.put dst undef) w') (a.eval x) (a.eval y) :=
  wp_store_any 23 16 (by kernel_rfl) dst x y t pos af g a w K Q
@[go_sem ↓] theorem qlAddrS (dst : Option Tmp) (x : Operand) (t : TypeId) (pos : String) (af : Array Edge) (g : Option (Nat × Bool)) (a : Act) (m : Nat) (W : World) (K : Act → Prop) :
    Oper.quiet Try.prog ⟨dst, .load 23 x, t, pos, af, g⟩ a (fun w' => ∃ x : Later m W, w' = x.w) K =
      ldLater (quietHid Try.prog ⟨dst, .load 23 x, t, pos, af, g⟩ a (fun w' => ∃ x : Later m W, w' = x.w) K) m 16 W (fun c => K (a.put dst (.agg c))) (a.eval x) :=
  quiet_load_bk 23 16 _ Try.underlying23 rfl (by kernel_rfl) dst x t pos af g a m W K
/-- A strip of addresses: its cells. -/
def stC (A : Option Addr) (n c : Nat) (i x : List UInt8) : Array Value := (.slice A n c :: (i.map B ++ x.map B)).toArray
abbrev stripA (A : Option Addr) (n c : Nat) (i x : List UInt8) : Value := .agg (stC A n c i x)
section
variable {A : Option Addr} {n c : Nat} {i x : List UInt8}
theorem stC_size (hi : i.length = 16) (hx : x.length = 16) : (stC A n c i x).size = 33 := by simp [stC, hi, hx]
theorem stC_0 : (stC A n c i x)[0]? = some (.slice A n c) := rfl
theorem stC_i (hi : i.length = 16) : xt (stC A n c i x) 1 16 = (i.map B).toArray := by
  simp [xt, stC, List.extract_eq_take_drop, hi]
theorem stC_x (hi : i.length = 16) (hx : x.length = 16) : xt (stC A n c i x) 17 16 = (x.map B).toArray := by
  simp [xt, stC, hi, hx, List.take_of_length_le]
theorem stC_ones : ones (stC A n c i x).toList = true := by unfold stC; simp only [ones_cons, ones_append, ones_map]; rfl
end
/-- A row into a block, wherever in it. -/
theorem stAny_spl (X : Prop) (n : Nat) (w : World) (b o : Nat) (K : World → Prop) (c c0 : Array Value) (t : TypeId) (h2 : o + n ≤ c0.size) (h : c.size = n) (h1 : ones c.toList = true) :
    stAny X n w b o c K (some (.cells c0 t (0, 0))) = K (w.setRow b (spl c0.toList o c.toList)) := by
  unfold stAny
  simp only []
  by_cases e : o = 0 ∧ c0.size = n
  · rw [if_pos ⟨e.1, e.2, h, h1⟩]
    congr 2
    unfold spl
    rw [e.1]
    simp [List.drop_eq_nil_of_le, h, e.2]
  · rw [if_neg (fun q => e ⟨q.1, q.2.1⟩), if_pos ⟨h2, h, h1⟩]
/-- Cells of some rows of a list of addresses. -/
def HasA (w : World) (A : Option Addr) (lo hi : Nat) (v : List UInt8) : Prop := ∀ k, lo ≤ k → k < hi → ∃ b o cur, A = some ⟨b, o, none⟩ ∧ bk w b = some (.cells cur 23 (0, 0)) ∧ o + k * 16 + 16 ≤ cur.size ∧ xt cur (o + k * 16) 16 = (v.map B).toArray
theorem Wrt.setRow {S : Nat → Nat → Prop} {w w' : World} {b o : Nat} {cur : Array Value} {t : TypeId} {v : List Value} (h : Wrt S w w') (hb : bk w' b = some (.cells cur t (0, 0))) (hs : ∀ j, o ≤ j → j < o + v.length → S b j) (h0 : 0 < v.length) (ho : o + v.length ≤ cur.size) : Wrt S w (w'.setRow b (spl cur.toList o v)) :=
  h.trans ⟨rfl, rfl, rfl, by simp [World.setRow], fun k c1 t1 fr hk => by
    by_cases e : k = b
    · subst e
      rw [hb] at hk
      cases hk
      refine ⟨_, by rw [bk_setRow_same, hb]; rfl, by simp [spl]; omega, fun j hj => ?_⟩
      have hj' : j < o ∨ o + v.length ≤ j := by
        rcases Nat.lt_or_ge j o with q | q
        · exact .inl q
        · rcases Nat.lt_or_ge j (o + v.length) with q2 | q2
          · exact absurd (hs j q q2) hj
          · exact .inr q2
      unfold spl
      rw [List.getElem?_toArray]
      rcases hj' with q | q
      · rw [List.getElem?_append_left (by simp; omega), List.getElem?_take_of_lt q, Array.getElem?_toList]
      · rw [List.getElem?_append_right (by simp; omega), List.getElem?_append_right (by simp; omega), List.getElem?_drop]
        simp only [List.length_take, Array.length_toList, Nat.min_eq_left (show o ≤ cur.size by omega), Array.getElem?_toList]
        congr 1; omega
    · exact ⟨c1, (bk_setRow_other _ _ _ _ e).trans hk, rfl, fun _ _ => rfl⟩,
    fun k _ hj => bk_setRow_other _ _ _ _ (by rintro rfl; exact hj o (hs o (Nat.le_refl _) (by omega)))⟩
theorem xt_spl_same (cur : Array Value) (o : Nat) (v : List Value) (ho : o + v.length ≤ cur.size) : xt (spl cur.toList o v) o v.length = v.toArray := by
  unfold xt spl
  simp [List.extract_eq_take_drop, Nat.min_eq_left (show o ≤ cur.size by omega)]
theorem xt_spl_other (cur : Array Value) (o : Nat) (v : List Value) (q m : Nat) (ho : o + v.length ≤ cur.size) (h : q + m ≤ o ∨ o + v.length ≤ q) : xt (spl cur.toList o v) q m = xt cur q m := by
  unfold xt
  apply Array.ext_getElem?
  intro j
  simp only [Array.getElem?_extract]
  have hs : (spl cur.toList o v).size = cur.size := by simp [spl]; omega
  rw [hs]
  split
  · rename_i hj
    unfold spl
    rw [List.getElem?_toArray]
    rcases h with h | h
    · rw [List.getElem?_append_left (by simp; omega), List.getElem?_take_of_lt (by omega), Array.getElem?_toList]
    · rw [List.getElem?_append_right (by simp; omega), List.getElem?_append_right (by simp; omega), List.getElem?_drop]
      simp only [List.length_take, Array.length_toList, Nat.min_eq_left (show o ≤ cur.size by omega), Array.getElem?_toList]
      congr 1; omega
  · rfl
theorem afill_any (A : Option Addr) (n c : Nat) (i x : List UInt8) (hi : i.length = 16) (hx : x.length = 16) (w : World) (h : Room w A (c * 16) 23) (hn : n ≤ c) (hc : c ≤ 9223372036854775807) :
    Calls Try.prog 130 #[stripA A n c i x] w fun e w' => e = .returned (.tuple #[]) ∧ Wrt (rg A 0 (n * 16)) w w' ∧ HasA w' A 0 n i := by
  have H := Lib.hid h
  clear h
  have z1 := stC_size (A := A) (n := n) (c := c) hi hx
  have z2 := stC_i (A := A) (n := n) (c := c) (x := x) hi
  have z3 : (List.map B i).toArray.size = 16 := by simp [hi]
  have HI := Lib.hid hi
  go_enter Try.func130, Try.ntmps130
  go_wp2
  go_loopw [2] (fun i' wr => ∃ k : Nat, k ≤ n ∧ i' = .int .i64 k ∧ Wrt (rg A 0 (n * 16)) w wr ∧ w.heap.size + 1 ≤ wr.heap.size ∧ bk wr w.heap.size = some (.cells (stC A n c i x) 129 (0, 0)) ∧ HasA wr A 0 k i) (fun i _ => n - (intOf i).toNat)
  case atStart => exact ⟨0, by omega, rfl, (Wrt.refl _ _).alloc _, by simp, bk_alloc_at _ _ _ rfl, fun j _ h => absurd h (by omega)⟩
  case round =>
    obtain ⟨k, hk, rfl, hW, hsz, hbox, hhas⟩ := hrel
    have c0 := (bk_cell hbox 0).trans stC_0
    by_cases hlt : k < n
    · have d1 : decide ((k : Int) < (n : Int)) = true := by simp; omega
      obtain ⟨b, o, cur, rfl, hb, hle⟩ := (H.out.wrt hW) (by omega)
      have hlt2 := bk_lt hb
      have hbl : b < w.heap.size := by
        obtain ⟨b', o', cur', e, hb', _⟩ := H.out (by omega)
        cases e
        exact bk_lt hb'
      have HH := Lib.hid hhas
      have r1 : o + k * 16 + 16 ≤ cur.size := by omega
      have st := fun X K => stAny_spl X 16 wr b (o + k * 16) K (List.map B i).toArray cur 23 r1 z3 (ones_map i)
      clear hhas
      go_wp2
      go_roundw
      case rel =>
        have hmk : k < c := by omega
        refine ⟨k + 1, by omega, by go_num, hW.setRow hb (fun j h1 h2 => ⟨o, rfl, by omega, by simp [HI.out] at h2; omega⟩) (by simp [HI.out]) (by simp [HI.out]; omega), by simpa [World.setRow] using hsz, (bk_setRow_other _ _ _ _ (by omega)).trans hbox, fun j h0 h1 => ?_⟩
        have hnew : bk (wr.setRow b (spl cur.toList (o + k * 16) (List.map B i))) b = some (.cells (spl cur.toList (o + k * 16) (List.map B i)) 23 (0, 0)) := by rw [bk_setRow_same, hb]; rfl
        have hsp : (spl cur.toList (o + k * 16) (List.map B i)).size = cur.size := by simp [spl, HI.out]; omega
        by_cases e : j = k
        · subst e
          refine ⟨b, o, _, rfl, hnew, by omega, ?_⟩
          have := xt_spl_same cur (o + j * 16) (List.map B i) (by simp [HI.out]; omega)
          rwa [show (List.map B i).length = 16 by simp [HI.out]] at this
        · obtain ⟨b', o', cur', e', hb', hl', hx'⟩ := HH.out j (by omega) (by omega)
          cases e'
          rw [hb] at hb'
          cases hb'
          exact ⟨b, o, _, rfl, hnew, by omega, (xt_spl_other _ _ _ _ _ (by simp [HI.out]; omega) (by simp [HI.out]; omega)).trans hx'⟩
      case measure => simp [intOf]; omega
    · have d1 : decide ((k : Int) < (n : Int)) = false := by simp; omega
      obtain rfl : k = n := by omega
      clear hlt
      go_wp2
      go_end0
      exact ⟨rfl, hW, hhas⟩
theorem afillRoom_any (A : Option Addr) (n c : Nat) (i x : List UInt8) (hi : i.length = 16) (hx : x.length = 16) (w : World) (h : Room w A (c * 16) 23) (hn : n ≤ c) (hc : c ≤ 9223372036854775807) :
    Calls Try.prog 131 #[stripA A n c i x] w fun e w' => e = .returned (.tuple #[]) ∧ Wrt (rg A (n * 16) (c * 16)) w w' ∧ HasA w' A n c x := by
  have H := Lib.hid h
  clear h
  have z1 := stC_size (A := A) (n := n) (c := c) hi hx
  have z2 := stC_x (A := A) (n := n) (c := c) hi hx
  have z3 : (List.map B x).toArray.size = 16 := by simp [hx]
  have HI := Lib.hid hx
  have s1 : decide ((n : Int) ≤ (c : Int)) = true := by simp; omega
  by_cases hnc : c = n
  · subst hnc
    go_enter Try.func131, Try.ntmps131
    have s2 : (w.alloc (.cells (stC A c c i x) 129)).cell? ⟨w.heap.size, 0, none⟩ = some (.slice A c c) := (bk_cell (bk_alloc_at _ _ _ rfl) 0).trans stC_0
    go_wp2
    go_loopw [3] (fun i' wr => i' = .int .i64 0 ∧ w.alloc (.cells (stC A c c i x) 129) = wr) (fun i _ => 0)
    case atStart => exact ⟨rfl, rfl⟩
    case round =>
      obtain ⟨rfl, rfl⟩ := hrel
      go_wp2
      go_end0
      exact ⟨rfl, (Wrt.refl _ _).alloc _, fun j _ _ => by omega⟩
  · have hlt : n < c := by omega
    obtain ⟨b, o, cur0, rfl, hb0, hle0⟩ := H.out (by omega)
    have hbl := bk_lt hb0
    clear hb0 hle0
    go_enter Try.func131, Try.ntmps131
    have s2 : (w.alloc (.cells (stC (some ⟨b, o, none⟩) n c i x) 129)).cell? ⟨w.heap.size, 0, none⟩ = some (.slice (some ⟨b, o, none⟩) n c) := (bk_cell (bk_alloc_at _ _ _ rfl) 0).trans stC_0
    go_wp2
    have hcn : ((c : Int) - (n : Int)).toNat = c - n := by omega
    go_loopw [3] (fun i' wr => ∃ k : Nat, k ≤ c - n ∧ i' = .int .i64 k ∧ Wrt (rg (some ⟨b, o, none⟩) (n * 16) (c * 16)) w wr ∧ w.heap.size + 1 ≤ wr.heap.size ∧ bk wr w.heap.size = some (.cells (stC (some ⟨b, o, none⟩) n c i x) 129 (0, 0)) ∧ HasA wr (some ⟨b, o, none⟩) n (n + k) x) (fun i _ => c - n - (intOf i).toNat)
    case atStart => exact ⟨0, by omega, rfl, (Wrt.refl _ _).alloc _, by simp, bk_alloc_at _ _ _ rfl, fun j _ h => absurd h (by omega)⟩
    case round =>
      clear s2
      obtain ⟨k, hk, rfl, hW, hsz, hbox, hhas⟩ := hrel
      by_cases hlt2 : k < c - n
      · have d1 : decide ((k : Int) < (c : Int) - (n : Int)) = true := by simp; omega
        have d2 : decide (k < c - n) = true := by simp; omega
        have d3 : (k : Int) < ((c - n : Nat) : Int) := by omega
        obtain ⟨b', o', cur, e, hb, hle⟩ := (H.out.wrt hW) (by omega)
        cases e
        have hlt3 := bk_lt hb
        have HH := Lib.hid hhas
        have r1 : o + n * 16 + k * 16 + 16 ≤ cur.size := by omega
        have st := fun X K => stAny_spl X 16 wr b (o + n * 16 + k * 16) K (List.map B x).toArray cur 23 r1 z3 (ones_map x)
        clear hhas
        go_wp2
        go_roundw
        case rel =>
          have e1 : o + n * 16 + k * 16 = o + (n + k) * 16 := by omega
          refine ⟨k + 1, by omega, by go_num, hW.setRow hb (fun j h1 h2 => ⟨o, rfl, by omega, by simp [HI.out] at h2; omega⟩) (by simp [HI.out]) (by simp [HI.out]; omega), by simpa [World.setRow] using hsz, (bk_setRow_other _ _ _ _ (by omega)).trans hbox, fun j h0 h1 => ?_⟩
          have hnew : bk (wr.setRow b (spl cur.toList (o + n * 16 + k * 16) (List.map B x))) b = some (.cells (spl cur.toList (o + n * 16 + k * 16) (List.map B x)) 23 (0, 0)) := by rw [bk_setRow_same, hb]; rfl
          have hsp : (spl cur.toList (o + n * 16 + k * 16) (List.map B x)).size = cur.size := by simp [spl, HI.out]; omega
          by_cases e : j = n + k
          · subst e
            refine ⟨b, o, _, rfl, hnew, by omega, ?_⟩
            have := xt_spl_same cur (o + n * 16 + k * 16) (List.map B x) (by simp [HI.out]; omega)
            rw [show (List.map B x).length = 16 by simp [HI.out]] at this
            rwa [e1] at this ⊢
          · obtain ⟨b', o', cur', e', hb', hl', hx'⟩ := HH.out j (by omega) (by omega)
            cases e'
            rw [hb] at hb'
            cases hb'
            exact ⟨b, o, _, rfl, hnew, by omega, (xt_spl_other _ _ _ _ _ (by simp [HI.out]; omega) (by simp [HI.out]; omega)).trans hx'⟩
        case measure => simp [intOf]; omega
      · have d1 : decide ((k : Int) < (c : Int) - (n : Int)) = false := by simp; omega
        have d2 : decide (k < c - n) = false := by simp; omega
        obtain rfl : k = c - n := by omega
        rw [show n + (c - n) = c by omega] at hhas
        clear hlt2
        go_wp2
        go_end0
        exact ⟨rfl, hW, hhas⟩
theorem eqAddrS (a : List UInt8) (ha : a.length = 16) (w : World) : (Op.equalIn 10000 23 (.agg (List.map B a).toArray) (.agg (List.map B a).toArray)).run Try.prog w = .ok true w := by
  have := run_equalIn_bytes (P := Try.prog) w 9998 23 5 16 Try.underlying23 Try.underlying5 (fun _ => by kernel_rfl) a a ha ha
  rwa [beq_self_eq_true] at this
theorem akept_any (A : Option Addr) (n c : Nat) (i x : List UInt8) (hi : i.length = 16) (hx : x.length = 16) (w : World) (h1 : HasA w A 0 n i) (h2 : HasA w A n c x) (hn : n ≤ c) (hc : c ≤ 9223372036854775807) :
    Calls Try.prog 132 #[stripA A n c i x] w fun e w' => e = .returned (.bool true) ∧ Below w.heap.size w w' := by
  have H1 := Lib.hid h1; have H2 := Lib.hid h2
  clear h1 h2
  have z1 := stC_size (A := A) (n := n) (c := c) hi hx
  have z2 := stC_i (A := A) (n := n) (c := c) (x := x) hi
  have z3 := stC_x (A := A) (n := n) (c := c) hi hx
  have q1 := fun w => eqAddrS i hi w
  have q2 := fun w => eqAddrS x hx w
  have s1 : decide ((n : Int) ≤ (c : Int)) = true := by simp; omega
  go_enter Try.func132, Try.ntmps132
  go_wp2
  go_loopw [3] (fun i' wr => ∃ k : Nat, k ≤ n ∧ i' = .int .i64 k ∧ Below w.heap.size w wr ∧ w.heap.size + 1 ≤ wr.heap.size ∧ bk wr w.heap.size = some (.cells (stC A n c i x) 129 (0, 0))) (fun i _ => n - (intOf i).toNat)
  case atStart => exact ⟨0, by omega, rfl, (Below.refl _ _).alloc (Nat.le_refl _) _, by simp, bk_alloc_at _ _ _ rfl⟩
  case round =>
    obtain ⟨k, hk, rfl, hW, hsz, hbox⟩ := hrel
    have c0 := (bk_cell hbox 0).trans stC_0
    by_cases hlt : k < n
    · have d1 : decide ((k : Int) < (n : Int)) = true := by simp; omega
      obtain ⟨b, o, cur, rfl, hb, hle, hxt⟩ := H1.out k (by omega) hlt
      have hb := bk_keep hW (bk_lt hb) hb
      have hl1 := bk_lt hb; have hl2 := bk_lt hbox
      go_wp2
      refine wp_region_later (wr.heap.size) (by kernel_rfl) (by kernel_rfl) ?_
      repeat (go_big_quiet_step (fail))
      (first | refine wpQuiet_nil ?_ | (go_big_quiet_want; (try go_big_quiet_op); trace_state; fail))
      intro w1 hw'
      have q3 := later_elim hw'
      clear hw'
      go_wp2
      go_roundw
      case rel => exact ⟨k + 1, by omega, by go_num, hW.trans (q3.mono (by omega)), Nat.le_trans hsz q3.size, bk_keep q3 (by omega) hbox⟩
      case measure => simp [intOf]; omega
    · have d1 : decide ((k : Int) < (n : Int)) = false := by simp; omega
      obtain rfl : k = n := by omega
      clear hlt
      have HB := Lib.hid hbox
      clear hbox
      by_cases hnc : c = k
      · subst hnc
        go_wp2
        go_loopw [5] (fun i' w' => i' = .int .i64 0 ∧ wr = w') (fun i _ => 0)
        case atStart => exact ⟨rfl, rfl⟩
        case round =>
          obtain ⟨rfl, rfl⟩ := hrel
          go_wp2
          go_ret
          exact ⟨rfl, hW⟩
      · have hlt : k < c := by omega
        obtain ⟨b, o, _, rfl, _⟩ := H2.out k (by omega) hlt
        have hcn : ((c : Int) - (k : Int)).toNat = c - k := by omega
        go_wp2
        go_loopw [5] (fun i' wq => ∃ m : Nat, m ≤ c - k ∧ i' = .int .i64 m ∧ Below w.heap.size w wq ∧ w.heap.size + 1 ≤ wq.heap.size ∧ bk wq w.heap.size = some (.cells (stC (some ⟨b, o, none⟩) k c i x) 129 (0, 0))) (fun i _ => c - k - (intOf i).toNat)
        case atStart => exact ⟨0, by omega, rfl, hW, hsz, HB.out⟩
        case round =>
          clear c0 HB hsz hW
          obtain ⟨m, hm, rfl, hW, hsz, hbox⟩ := hrel
          by_cases hlt2 : m < c - k
          · have d1 : decide ((m : Int) < (c : Int) - (k : Int)) = true := by simp; omega
            have d2 : decide (m < c - k) = true := by simp; omega
            have d3 : (m : Int) < ((c - k : Nat) : Int) := by omega
            obtain ⟨b', o', cur, e, hb, hle, hxt⟩ := H2.out (k + m) (by omega) (by omega)
            cases e
            have hb := bk_keep hW (bk_lt hb) hb
            have hl1 := bk_lt hb; have hl2 := bk_lt hbox
            rw [show o + (k + m) * 16 = o + k * 16 + m * 16 by omega] at hle hxt
            go_wp2
            refine wp_region_later (wr.heap.size) (by kernel_rfl) (by kernel_rfl) ?_
            repeat (go_big_quiet_step (fail))
            (first | refine wpQuiet_nil ?_ | (go_big_quiet_want; (try go_big_quiet_op); trace_state; fail))
            intro w1 hw'
            have q3 := later_elim hw'
            clear hw'
            go_wp2
            go_roundw
            case rel => exact ⟨m + 1, by omega, by go_num, hW.trans (q3.mono (by omega)), Nat.le_trans hsz q3.size, bk_keep q3 (by omega) hbox⟩
            case measure => simp [intOf]; omega
          · have d1 : decide ((m : Int) < (c : Int) - (k : Int)) = false := by simp; omega
            have d2 : decide (m < c - k) = false := by simp; omega
            clear hlt2 hbox
            go_wp2
            go_ret
            exact ⟨rfl, hW⟩
end Go.Proofs.Ytjimmfbjhkoekaa

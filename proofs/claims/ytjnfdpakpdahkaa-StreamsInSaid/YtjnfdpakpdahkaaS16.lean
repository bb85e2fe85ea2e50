/- The book of lists: has each its own memory. -/
import Derived.Test.YtjnfdpakpdahkaaS15
namespace Go.Proofs.Ytjnfdpakpdahkaa
open Go.RowKit
set_option maxRecDepth 100000
theorem wpList_invoke {P : Program} {w : World} {ops : Array Oper} {rest : List Oper} {o : Oper} {a : Act} {Q : Exit → Act → World → Prop} (hgd : o.guard = none) (recv : Operand) (name : String) (at' : Array TypeId)
    (ho : o.op = .call { callee := .invoke recv name, args := #[], argTypes := at' }) (T : TypeId) (v v' : Value) (f : FuncId) (r : Value) (R : World → Prop) (hr : a.eval recv = .iface T v)
    (hm : (method (P.types.size + Made.depth) T v name).run P w = .ok (f, v') w) (hf : (callFunc f #[v']).run P w = .ok (.enter f #[v']) w) (hc : Calls P f #[v'] w fun e w' => e = .returned r ∧ R w')
    (h : ∀ w', R w' → wpList P ops Q rest (a.put o.dst r) w') : wpList P ops Q (o :: rest) a w :=
  wpList_plain hgd fun K hK => by
    unfold Oper.wp execOp
    have hm' : (method (P.types.size + Made.depth) T v name).run P w = .ok (f, v') w := hm
    simp only [ho, resolve, hr, invoke, callMethod, Sem.run_bind, Sem.run_pure, Result.andThen_ok]
    have hp : (program).run P w = .ok P w := rfl
    simp only [Array.map_empty, Array.append_empty, show (#[Value.iface T v])[0]? = some (Value.iface T v) from rfl, show (#[Value.iface T v]).extract 1 (#[Value.iface T v]).size = #[] from rfl, Sem.run_bind, hp, Result.andThen_ok, hm', hf]
    rw [Oper.upon_enter]
    refine hc.mono ?_
    rintro e w' ⟨rfl, hR⟩
    exact hK _ _ (h w' hR)
theorem m_fill (A : Option Addr) (n c : Nat) (i x : UInt8) (w : World) : (method (Try.prog.types.size + Made.depth) 67 (strip A n c i x) "sojourner/sojournerlaw01.fill").run Try.prog w = .ok (69, strip A n c i x) w := by kernel_rfl
theorem m_fillRoom (A : Option Addr) (n c : Nat) (i x : UInt8) (w : World) : (method (Try.prog.types.size + Made.depth) 67 (strip A n c i x) "sojourner/sojournerlaw01.fillRoom").run Try.prog w = .ok (70, strip A n c i x) w := by kernel_rfl
theorem m_kept (A : Option Addr) (n c : Nat) (i x : UInt8) (w : World) : (method (Try.prog.types.size + Made.depth) 67 (strip A n c i x) "sojourner/sojournerlaw01.kept").run Try.prog w = .ok (71, strip A n c i x) w := by kernel_rfl
theorem e_fill (v : Array Value) (w : World) : (callFunc 69 v).run Try.prog w = .ok (.enter 69 v) w := by kernel_rfl
theorem e_fillRoom (v : Array Value) (w : World) : (callFunc 70 v).run Try.prog w = .ok (.enter 70 v) w := by kernel_rfl
theorem e_kept (v : Array Value) (w : World) : (callFunc 71 v).run Try.prog w = .ok (.enter 71 v) w := by kernel_rfl
/-- A list of a book. -/
structure Lf where
  A : Option Addr
  n : Nat
  c : Nat
  i : UInt8
  x : UInt8
abbrev Lf.val (l : Lf) : Value := .iface 67 (strip l.A l.n l.c l.i l.x)
/-- It is there, and lies behind base. -/
structure LfOK (base : Nat) (w : World) (l : Lf) : Prop where
  room : Room w l.A l.c 5
  le : l.n ≤ l.c
  small : l.c ≤ 9223372036854775807
  base : ∀ b j, rg l.A 0 l.c b j → base ≤ b
/-- No two of them share anything. -/
def Dis (L : List Lf) : Prop := ∀ (i j : Nat) (a b : Lf), i ≠ j → L[i]? = some a → L[j]? = some b → ∀ k m, rg a.A 0 a.c k m → rg b.A 0 b.c k m → False
def rgs (L : List Lf) (b j : Nat) : Prop := ∃ l ∈ L, rg l.A 0 l.c b j
theorem rg_mono {A : Option Addr} {lo hi lo' hi' b j : Nat} (h : rg A lo hi b j) (h1 : lo' ≤ lo) (h2 : hi ≤ hi') : rg A lo' hi' b j := by
  obtain ⟨o, e, h3, h4⟩ := h
  exact ⟨o, e, by omega, by omega⟩
theorem Has.keep {S : Nat → Nat → Prop} {w w' : World} {A : Option Addr} {lo hi : Nat} {v : Value} (h : Has w A lo hi v) (hw : Wrt S w w') (hs : ∀ b j, rg A lo hi b j → ¬ S b j) : Has w' A lo hi v := fun j h1 h2 => by
  obtain ⟨b, o, e, hc⟩ := h j h1 h2
  refine ⟨b, o, e, ?_⟩
  unfold World.cell? at hc
  split at hc
  · rename_i cur t fr hb
    obtain ⟨cur', h3, h4, h5⟩ := hw.blk b cur t fr hb
    rw [bk_cell h3, h5 (o + j) (hs _ _ ⟨o, e, by omega, by omega⟩)]
    simpa using hc
  · cases hc
theorem rgs_type {base b j : Nat} {w : World} {L : List Lf} (hL : ∀ l ∈ L, LfOK base w l) (h : rgs L b j) : ∃ cur, bk w b = some (.cells cur 5 (0, 0)) := by
  obtain ⟨l, hl, o, e, h1, h2⟩ := h
  obtain ⟨b', o', cur, e', hb, _⟩ := (hL l hl).room (by omega)
  rw [e] at e'
  cases e'
  exact ⟨cur, hb⟩
theorem Wrt.other {base k : Nat} {w w' : World} {L : List Lf} {cur : Array Value} {t : TypeId} {fr : Nat × Nat} (h : Wrt (rgs L) w w') (hL : ∀ l ∈ L, LfOK base w l) (hk : bk w k = some (.cells cur t fr)) (ht : t ≠ 5) : bk w' k = some (.cells cur t fr) :=
  (h.oth k (bk_lt hk) fun j hj => by
    obtain ⟨cur', hb⟩ := rgs_type hL hj
    rw [hk] at hb
    cases hb
    exact ht rfl).trans hk
theorem LfOK.wrt {S : Nat → Nat → Prop} {base : Nat} {w w' : World} {l : Lf} (h : LfOK base w l) (hw : Wrt S w w') : LfOK base w' l := ⟨h.room.wrt hw, h.le, h.small, h.base⟩
theorem BK.cellsAt {w : World} {bb base : Nat} {vs : List Value} (h : BK w bb base vs) : ∃ A c, bk w bb = some (.cells #[.slice A vs.length c] 50 (0, 0)) ∧ (0 < vs.length → ∃ g cur, A = some ⟨g, 0, none⟩ ∧ bk w g = some (.cells cur 69 (0, 0)) ∧ ∀ (j : Nat) (v : Value), vs[j]? = some v → cur[j]? = some v) := by
  obtain ⟨hv, hb, _, ⟨rfl, h0⟩ | ⟨g, cap, cur, rfl, _, hg, _, _, _, ht⟩⟩ := h
  · exact ⟨none, 0, by rw [hb, h0], fun hh => by omega⟩
  · refine ⟨_, cap, hb, fun _ => ⟨g, cur, rfl, hg, fun j v hj => ?_⟩⟩
    have hl : j < vs.length := (List.getElem?_eq_some_iff.1 hj).1
    rw [← ht, List.getElem?_take_of_lt (by omega)] at hj
    rw [← Array.getElem?_toList]
    exact hj
set_option maxHeartbeats 2000000 in
theorem apart_any (bb base : Nat) (L : List Lf) (w : World) (h : BK w bb base (L.map Lf.val)) (_hbb : base ≤ bb) (hbase : base ≤ w.heap.size) (hL : ∀ l ∈ L, LfOK base w l) (hd : Dis L) (hN : L.length < 2 ^ 40) :
    Calls Try.prog 26 #[.pointer (some ⟨bb, 0, none⟩)] w fun e w' => e = .returned (.bool true) ∧ Below base w w' := by
  obtain ⟨A, cp, hb, hg⟩ := h.cellsAt
  rw [List.length_map] at hb hg
  obtain ⟨N, hNL⟩ : ∃ N, N = L.length := ⟨_, rfl⟩
  rw [← hNL] at hb hg hN
  have HB := Lib.hid hb; have HG := Lib.hid hg; have HL := Lib.hid hL; have HD := Lib.hid hd; have HNL := Lib.hid hNL
  have c0 := bk_cell hb 0
  simp at c0
  clear hb hg hL hd h hNL
  by_cases hbig : 120 < N
  · have d1 : decide (120 < (N : Int)) = true := by simp; omega
    have d2 : decide (120 < N) = true := by simp; omega
    go_enter Try.func26, Try.ntmps26
    go_wp2
    go_ret
    exact ⟨rfl, Below.refl _ _⟩
  · have d1 : decide (120 < (N : Int)) = false := by simp; omega
    have d2 : decide (120 < N) = false := by simp; omega
    have hN2 : N ≤ 120 := by omega
    clear hbig
    go_enter Try.func26, Try.ntmps26
    go_wp2
    go_loopw [3] (fun i wr => ∃ k : Nat, k ≤ N ∧ i = .int .i64 k ∧ Wrt (rgs L) w wr ∧ Hid (∀ (m : Nat) (l : Lf), L[m]? = some l → m < k → Has wr l.A 0 l.n (B l.i))) (fun i _ => N - (intOf i).toNat)
    case atStart => exact ⟨0, by omega, rfl, Wrt.refl _ _, Lib.hid fun m l _ h => absurd h (by omega)⟩
    case round =>
      obtain ⟨k, hk, rfl, hW, hdone⟩ := hrel
      have c1 := bk_cell (hW.other HL.out HB.out (by decide)) 0
      simp at c1
      by_cases hlt : k < N
      · have d3 : decide ((k : Int) < (N : Int)) = true := by simp; omega
        obtain ⟨g, cur, rfl, hg, hcells⟩ := HG.out (by omega)
        obtain ⟨l, hl⟩ : ∃ l, L[k]? = some l := ⟨L[k]'(by rw [← HNL.out]; exact hlt), List.getElem?_eq_getElem _⟩
        have hlm : l ∈ L := List.mem_of_getElem? hl
        have c2 := bk_cell (hW.other HL.out hg (by decide)) k
        rw [hcells k l.val (by rw [List.getElem?_map, hl]; rfl)] at c2
        have C := Lib.hid (fill_any l.A l.n l.c l.i l.x wr ((HL.out l hlm).wrt hW).room (HL.out l hlm).le (HL.out l hlm).small)
        have HLK := Lib.hid hl
        clear hg hcells hl
        go_wp2_with (refine wpList_invoke rfl _ _ _ rfl 67 _ _ 69 _ _ rfl (m_fill _ _ _ _ _ _) (e_fill _ _) C.out ?_)
        intro w1 hR1 hR2
        have HR := Lib.hid (And.intro hR1 hR2)
        clear hR1 hR2 C
        go_wp2_with fail
        go_roundw
        case rel =>
          refine ⟨k + 1, by omega, by go_num, hW.trans (HR.out.1.mono fun b j hs => ⟨l, hlm, rg_mono hs (Nat.le_refl _) (HL.out l hlm).le⟩), Lib.hid fun m l' hm hk' => ?_⟩
          by_cases e : m = k
          · subst e
            obtain rfl : l = l' := Option.some.inj (HLK.out.symm.trans hm)
            exact HR.out.2
          · exact (hdone.out m l' hm (by omega)).keep HR.out.1 fun b j h1 h2 => HD.out m k l' l e hm HLK.out b j (rg_mono h1 (Nat.le_refl _) (HL.out l' (List.mem_of_getElem? hm)).le) (rg_mono h2 (Nat.le_refl _) (HL.out l hlm).le)
        case measure => simp [intOf]; omega
      · have d3 : decide ((k : Int) < (N : Int)) = false := by simp; omega
        obtain rfl : k = N := by omega
        have HW1 := Lib.hid hW
        have HD1 := Lib.hid (fun (m : Nat) (l : Lf) (hm : L[m]? = some l) => hdone.out m l hm (by rw [HNL.out]; exact (List.getElem?_eq_some_iff.1 hm).1))
        clear hlt hW hdone
        go_wp2_with fail
        go_loopw [4] (fun i w2 => ∃ j : Nat, j ≤ k ∧ i = .int .i64 j ∧ Wrt (rgs L) w w2 ∧ Hid (∀ (m : Nat) (l : Lf), L[m]? = some l → Has w2 l.A 0 l.n (B l.i) ∧ (m < j → Has w2 l.A l.n l.c (B l.x)))) (fun i _ => k - (intOf i).toNat)
        case atStart => exact ⟨0, by omega, rfl, HW1.out, Lib.hid fun m l hm => ⟨HD1.out m l hm, fun h => absurd h (by omega)⟩⟩
        case round =>
          clear c1 HW1 HD1
          obtain ⟨j, hj, rfl, hW, hdone⟩ := hrel
          have c1 := bk_cell (hW.other HL.out HB.out (by decide)) 0
          simp at c1
          by_cases hlt : j < k
          · have d3 : decide ((j : Int) < (k : Int)) = true := by simp; omega
            obtain ⟨g, cur, rfl, hg, hcells⟩ := HG.out (by omega)
            obtain ⟨l, hl⟩ : ∃ l, L[j]? = some l := ⟨L[j]'(by rw [← HNL.out]; exact hlt), List.getElem?_eq_getElem _⟩
            have hlm : l ∈ L := List.mem_of_getElem? hl
            have c2 := bk_cell (hW.other HL.out hg (by decide)) j
            rw [hcells j l.val (by rw [List.getElem?_map, hl]; rfl)] at c2
            have C := Lib.hid (fillRoom_any l.A l.n l.c l.i l.x wr ((HL.out l hlm).wrt hW).room (HL.out l hlm).le (HL.out l hlm).small)
            have HLK := Lib.hid hl
            clear hg hcells hl
            go_wp2_with (refine wpList_invoke rfl _ _ _ rfl 67 _ _ 70 _ _ rfl (m_fillRoom _ _ _ _ _ _) (e_fillRoom _ _) C.out ?_)
            intro w1 hR1 hR2
            have HR := Lib.hid (And.intro hR1 hR2)
            clear hR1 hR2 C
            go_wp2_with fail
            go_roundw
            case rel =>
              have hle := (HL.out l hlm).le
              refine ⟨j + 1, by omega, by go_num, hW.trans (HR.out.1.mono fun b j hs => ⟨l, hlm, rg_mono hs (by omega) (Nat.le_refl _)⟩), Lib.hid fun m l' hm => ⟨?_, fun hk' => ?_⟩⟩
              · refine (hdone.out m l' hm).1.keep HR.out.1 fun b q h1 h2 => ?_
                by_cases e : m = j
                · subst e
                  obtain rfl : l = l' := Option.some.inj (HLK.out.symm.trans hm)
                  obtain ⟨o, e1, e2⟩ := h1
                  obtain ⟨o', e3, e4⟩ := h2
                  rw [e1] at e3
                  cases e3
                  omega
                · exact HD.out m j l' l e hm HLK.out b q (rg_mono h1 (Nat.le_refl _) (HL.out l' (List.mem_of_getElem? hm)).le) (rg_mono h2 (by omega) (Nat.le_refl _))
              · by_cases e : m = j
                · subst e
                  obtain rfl : l = l' := Option.some.inj (HLK.out.symm.trans hm)
                  exact HR.out.2
                · exact ((hdone.out m l' hm).2 (by omega)).keep HR.out.1 fun b q h1 h2 => HD.out m j l' l e hm HLK.out b q (rg_mono h1 (by omega) (Nat.le_refl _)) (rg_mono h2 (by omega) (Nat.le_refl _))
            case measure => simp [intOf]; omega
          · have d3 : decide ((j : Int) < (k : Int)) = false := by simp; omega
            obtain rfl : j = k := by omega
            have HW2 := Lib.hid hW
            have HD2 := Lib.hid (fun (m : Nat) (l : Lf) (hm : L[m]? = some l) => And.intro (hdone.out m l hm).1 ((hdone.out m l hm).2 (by rw [HNL.out]; exact (List.getElem?_eq_some_iff.1 hm).1)))
            clear hlt hW hdone
            go_wp2_with fail
            obtain ⟨wo, rfl⟩ : ∃ wo : World, wo = wr := ⟨_, rfl⟩
            go_loopw [5] (fun i w3 => ∃ q : Nat, q ≤ j ∧ i = .int .i64 q ∧ Below wo.heap.size wo w3) (fun i _ => j - (intOf i).toNat)
            case atStart => exact ⟨0, by omega, rfl, Below.refl _ _⟩
            case round =>
              obtain ⟨q, hq, rfl, hB3⟩ := hrel
              clear c1
              have hWr : Wrt (rgs L) w wr := HW2.out.trans (Wrt.of_below hB3)
              have c1 := bk_cell (hWr.other HL.out HB.out (by decide)) 0
              simp at c1
              have HWR := Lib.hid hWr
              clear hWr
              by_cases hlt : q < j
              · have d3 : decide ((q : Int) < (j : Int)) = true := by simp; omega
                obtain ⟨g, cur, rfl, hg, hcells⟩ := HG.out (by omega)
                obtain ⟨l, hl⟩ : ∃ l, L[q]? = some l := ⟨L[q]'(by rw [← HNL.out]; exact hlt), List.getElem?_eq_getElem _⟩
                have hlm : l ∈ L := List.mem_of_getElem? hl
                have c2 := bk_cell (HWR.out.other HL.out hg (by decide)) q
                rw [hcells q l.val (by rw [List.getElem?_map, hl]; rfl)] at c2
                have hroom := ((HL.out l hlm).wrt HW2.out).room
                have hkeep : ∀ {lo hi : Nat} {v : Value}, Has wo l.A lo hi v → Has wr l.A lo hi v := fun hh => hh.keep (S := fun _ _ => False) (Wrt.of_below hB3) fun _ _ _ hf => hf
                have C := Lib.hid (kept_any l.A l.n l.c l.i l.x wr (hkeep (HD2.out q l hl).1) (hkeep (HD2.out q l hl).2) (fun hc => by
                  obtain ⟨b, o, cur', e, hb, _⟩ := hroom hc
                  exact ⟨b, o, e, Nat.lt_of_lt_of_le (bk_lt hb) hB3.size⟩) (HL.out l hlm).le (HL.out l hlm).small)
                have HLK := Lib.hid hl
                clear hg hcells hl hroom hkeep
                go_wp2_with (refine wpList_invoke rfl _ _ _ rfl 67 _ _ 71 _ _ rfl (m_kept _ _ _ _ _ _) (e_kept _ _) C.out ?_)
                intro w1 hR
                clear C
                go_wp2_with fail
                go_roundw
                case rel => exact ⟨q + 1, by omega, by go_num, hB3.trans (hR.mono hB3.size)⟩
                case measure => simp [intOf]; omega
              · have d3 : decide ((q : Int) < (j : Int)) = false := by simp; omega
                have d4 : decide (q < j) = false := by simp; omega
                clear hlt
                go_wp2_with fail
                go_ret
                exact ⟨rfl, HWR.out.below hbase fun b m hs => by
                  obtain ⟨l, hl, hr⟩ := hs
                  exact (HL.out l hl).base b m hr⟩
end Go.Proofs.Ytjnfdpakpdahkaa

import Derived.Test.YtjimmfbjhkoekaaMgA
import Derived.WalkKit
import Derived.Lib.SliceRun
import Derived.Laws.ShiftsVarLaws
import Derived.Deep.DeepCutAuto
import Derived.Laws.AppendOwnNone
import Derived.Laws.BitsAllLaws
/- slices.Clone, slices.Clip of bytes. -/
namespace Go.Proofs.Ytjimmfbjhkoekaa
open Go.RowKit
set_option maxRecDepth 100000
@[go_sem] theorem eqlNilB (w : World) (a : Option Addr) (n c : Nat) : (binOp .eql 27 (.slice a n c) (.slice none 0 0)).run Try.prog w = .ok (.bool a.isNone) w := Lib.run_eql_slice_nil w 27 5 a n c 0 0 Try.underlying27
theorem infoB : (Try.prog.info? 5).map (fun i => (i.zero, i.size, i.bytes)) = some (some (.int .u8 0), 1, 1) := by kernel_rfl
theorem Rd.news {w : World} {n : Nat} {ad : Addr} {l : List UInt8} (h : Rd w n (some ad) l) : ∀ j u, (l.map B)[j]? = some u → w.cell? (ad.add j) = some u := fun j u hu => by
  rw [List.getElem?_map] at hu
  have hj : j < l.length := by
    rcases Nat.lt_or_ge j l.length with h' | h'
    · exact h'
    · rw [List.getElem?_eq_none h'] at hu; cases hu
  obtain ⟨b, o, e, _, hc⟩ := h (by omega)
  cases e
  rw [List.getElem?_eq_getElem hj] at hu
  have hu' : B l[j] = u := Option.some.inj hu
  rw [← hu']
  have := hc j hj
  unfold Addr.add
  split
  · rename_i h0; subst h0; exact this
  · exact this
theorem B_one (l : List UInt8) : ∀ u ∈ l.map B, u.oneCell' = true := fun u hu => by
  obtain ⟨b, _, rfl⟩ := List.mem_map.1 hu
  rfl
theorem clone_nil (w : World) : Calls Try.prog 70 #[.slice none 0 0] w fun e w' => e = .returned (.slice none 0 0) ∧ Below w.heap.size w w' := by
  go_enter Try.func70, Try.ntmps70
  go_wp2
  go_ret
  exact ⟨rfl, Below.refl _ _⟩
theorem clone_any (ad : Addr) (l : List UInt8) (c : Nat) (w : World) (h : Rd w w.heap.size (some ad) l) (hl : l.length < 2 ^ 46) :
    Calls Try.prog 70 #[.slice (some ad) l.length c] w fun e w' => ∃ v, e = .returned v ∧ w'.ownsRow w.heap.size 5 1 v l.length (l.map B) ∧ v ≠ .slice none 0 0 ∧ Below w.heap.size w w' := by
  obtain ⟨i0, hi, hz0, hz1, hz2⟩ := info_parts infoB
  have hown := World.ownsRow_made (base := w.heap.size) (e := 5) (size := 1) w #[] 0 (Nat.le_refl _) (by unfold maxLen; omega) (by simp)
  have hrd := (h.below ((Below.refl _ _).alloc (Nat.le_refl _) (.cells #[] 5 (0, 0))) (Nat.le_refl _)).news
  have HO := Lib.hid hown; have HN := Lib.hid hrd
  clear hown hrd h
  go_enter Try.func70, Try.ntmps70
  go_wp2_with (at_builtin; refine wpList_append_own _ rfl _ _ 27 rfl w.heap.size 5 i0 (.int .u8 0) 1 1 Try.underlying27 hi hz0 hz1 hz2 rfl (by decide) _ _ _ rfl HO.out ad l.length c (l.map B) rfl (by simp) HN.out (B_one l) (by unfold maxLen; omega) (by omega) (by simp) ?_)
  intro v' w1 hown' hgrow hnil
  have hb : Below w.heap.size w w1 := ((Below.refl w.heap.size w).alloc (Nat.le_refl _) (.cells #[] 5 (0, 0))).grown hgrow (by simp) (fun k hk => by simp [Value.ownBlock] at hk; omega)
  have hne : v' ≠ .slice none 0 0 := hnil
  have HO' := Lib.hid hown'
  clear hnil hgrow hown'
  go_wp2
  go_ret
  exact ⟨v', rfl, HO'.out, hne, hb⟩
theorem clip_any (A : Option Addr) (n c : Nat) (h : n ≤ c) (w : World) : Calls Try.prog 32 #[.slice A n c] w fun e w' => e = .returned (.slice A n n) ∧ Below w.heap.size w w' := by
  go_enter Try.func32, Try.ntmps32
  go_wp2
  go_ret
  exact ⟨rfl, Below.refl _ _⟩
end Go.Proofs.Ytjimmfbjhkoekaa
/- A number behind bytes: the program's Put. -/
namespace Go.Proofs.Ytjimmfbjhkoekaa
open Go.RowKit
set_option maxRecDepth 100000
theorem clone_both (A : Option Addr) (l : List UInt8) (c : Nat) (w : World) (h : Rd w w.heap.size A l) (hA : A = none → l = [] ∧ c = 0) (hl : l.length < 2 ^ 46) :
    Calls Try.prog 70 #[.slice A l.length c] w fun e w' => ∃ v, e = .returned v ∧ w'.ownsRow w.heap.size 5 1 v l.length (l.map B) ∧ Below w.heap.size w w' := by
  cases A with
  | none =>
    obtain ⟨rfl, rfl⟩ := hA rfl
    refine (clone_nil w).mono ?_
    rintro e w' ⟨rfl, hb⟩
    exact ⟨_, rfl, World.ownsRow_nil _ _ _ _, hb⟩
  | some ad =>
    refine (clone_any ad l c w h hl).mono ?_
    rintro e w' ⟨v, rfl, ho, _, hb⟩
    exact ⟨v, rfl, ho, hb⟩
/-- In how many bytes a number is put. -/
def wid (m : Int) : Nat := if 1 ≤ m ∧ m ≤ 8 then m.toNat else 8
theorem wid_le (m : Int) : 1 ≤ wid m ∧ wid m ≤ 8 := by unfold wid; split <;> omega
/-- The number's bytes, the greatest first. -/
def nb (m n : Nat) : List UInt8 := (List.range m).map fun i => UInt8.ofNat (n / 256 ^ (m - 1 - i))
theorem nb_length (m n : Nat) : (nb m n).length = m := by simp [nb]
theorem nb_take (m n k : Nat) (h : k < m) : (nb m n).take (k + 1) = (nb m n).take k ++ [UInt8.ofNat (n / 256 ^ (m - 1 - k))] := by
  rw [List.take_succ_eq_append_getElem (by rw [nb_length]; exact h)]
  simp [nb]
theorem nb_step (l : List UInt8) (M n k s : Nat) (hk : k < M) (hs : s = M - 1 - k) :
    (l ++ (nb M n).take (k + 1)).map B = List.map B l ++ (List.take k (List.map B (nb M n)) ++ [Value.int .u8 ((n : Int) / 2 ^ (8 * s) % 256)]) := by
  rw [nb_take _ _ _ hk, ← hs]
  have e : B (UInt8.ofNat (n / 256 ^ s)) = Value.int .u8 ((n : Int) / 2 ^ (8 * s) % 256) := by
    unfold B
    rw [UInt8.toNat_ofNat', show (256 : Nat) = 2 ^ 8 from rfl, ← Nat.pow_mul]
    congr 1
  simp [List.map_take, e]
set_option maxHeartbeats 1000000 in
theorem put_any (A : Option Addr) (l : List UInt8) (c n : Nat) (m : Int) (w : World) (h : Rd w w.heap.size A l) (hA : A = none → l = [] ∧ c = 0) (hl : l.length < 2 ^ 45) (_hn : n < 2 ^ 64) (hm : -2 ^ 63 ≤ m ∧ m < 2 ^ 63) :
    Calls Try.prog 105 #[.slice A l.length c, .int .u64 n, .int .i64 m] w fun e w' => ∃ g cur, e = .returned (.slice (some ⟨g, 0, none⟩) (l.length + wid m) (l.length + wid m)) ∧ w.heap.size ≤ g ∧
      bk w' g = some (.cells cur 5 (0, 0)) ∧ l.length + wid m ≤ cur.size ∧ cur.toList.take (l.length + wid m) = (l ++ nb (wid m) n).map B ∧ Below w.heap.size w w' := by
  obtain ⟨i0, hi, hz0, hz1, hz2⟩ := info_parts infoB
  have C := Lib.hid (clone_both A l c w h hA (by omega))
  clear h hA
  obtain ⟨M, hM⟩ : ∃ M, M = wid m := ⟨_, rfl⟩
  have hMl := wid_le m
  rw [← hM] at hMl
  have HM : Hid (M = wid m) := hM
  clear hM
  rw [← HM.out]
  go_enter Try.func105, Try.ntmps105
  apply wp_seq_k; intro _ _
  go_cut [6] (fun x wx => x = .slice none 0 0 ∧ w = wx)
  case first =>
    go_wp2_with fail
    go_meet
    exact ⟨rfl, rfl⟩
  obtain ⟨rfl, rfl⟩ := hcut
  rename_i hkk
  apply hkk
  clear hkk
  apply wp_seq_k; intro _ _
  go_cut [2] (fun x wx => x = .int .i64 M ∧ w = wx)
  case first =>
    go_wp2_with fail
    all_goals
      go_meet
      refine ⟨?_, rfl⟩
      have e := HM.out
      unfold wid at e
      split at e
      all_goals first | (refine congrArg (Value.int .i64) ?_; omega) | (exfalso; simp only [Bool.or_eq_true, decide_eq_true_eq, not_or, Bool.not_eq_true] at *; omega)
  case rest =>
    obtain ⟨rfl, rfl⟩ := hcut
    go_wp2_with fail
    refine C.out.mono ?_
    rintro e w1 ⟨v, rfl, ho, hb⟩
    have HOW := Lib.hid ho
    clear ho C
    go_wp2
    go_loopw [7, 8] (fun x i w' => ∃ k : Nat, k ≤ M ∧ i = .int .i64 ((M : Int) - 1 - k) ∧ Hid (w'.ownsRow w.heap.size 5 1 x (l.length + k) ((l ++ (nb M n).take k).map B)) ∧ Below w.heap.size w w') (fun _ i _ => (intOf i + 1).toNat)
    case atStart => exact ⟨0, by omega, by go_num, Lib.hid (by simpa using HOW.out), hb⟩
    case round =>
      obtain ⟨k, hk, rfl, ho, hbel⟩ := hrel
      have hbs := hbel.size
      by_cases hlt : k < M
      · obtain ⟨s, hs⟩ : ∃ s : Nat, s = M - 1 - k := ⟨_, rfl⟩
        have es : (M : Int) - 1 - k = (s : Int) := by omega
        rw [es]
        have hs8 : s < 8 := by omega
        have HS := Lib.hid hs
        clear es
        clear hs
        go_wp2_with (at_builtin; refine wpList_append_own _ rfl _ _ 27 rfl w.heap.size 5 i0 (.int .u8 0) 1 1 Try.underlying27 hi hz0 hz1 hz2 rfl (by decide) _ _ _ rfl (ho.out.alloc _) ⟨wr.heap.size, 0, none⟩ 1 1 [.int .u8 ((n : Int) / 2 ^ (8 * s) % 256)] rfl rfl (by intro j u hj; match j, hj with | 0, hj => (simp at hj; subst hj; simp [Addr.add])) (by intro u hu; simp at hu; subst hu; rfl) (by unfold maxLen; omega) (by omega) (by simp; omega) ?_)
        intro v' w1 hown' hgrow _
        have ho2 : w1.ownsRow w.heap.size 5 1 v' (l.length + (k + 1)) ((l ++ (nb M n).take (k + 1)).map B) := by rw [nb_step l M n k s hlt HS.out]; exact hown'
        have hb1 : Below w.heap.size w w1 := (hbel.alloc hbs _).grown hgrow (by simp; omega) (fun g hg => (ho.out.lt g hg).1)
        have HO2 := Lib.hid ho2
        clear ho2 hown' hgrow ho
        go_wp2
        go_roundw
        case rel => exact ⟨k + 1, by omega, by have := HS.out; go_num, HO2, hb1⟩
        case measure => simp [intOf]
      · obtain rfl : k = M := by omega
        have es : (k : Int) - 1 - k = -1 := by omega
        rw [es]
        have ho' := ho.out
        rw [List.take_of_length_le (by rw [nb_length]; omega)] at ho'
        obtain ⟨hlen, ⟨_, h0⟩ | ⟨g, cap, cur, rfl, hg, hbk, hle, hmx, hcs, htk⟩⟩ := ho'
        · omega
        clear ho hlt es
        have HB := Lib.hid (show bk wr g = _ from hbk)
        have HT := Lib.hid htk
        clear hbk htk hlen
        go_wp2_with fail
        refine (clip_any (some ⟨g, 0, none⟩) (l.length + k) cap hle wr).mono ?_
        rintro e w2 ⟨rfl, hb2⟩
        have hbw := hbel.trans (hb2.mono hbs)
        have hbk2 := bk_keep hb2 (bk_lt HB.out) HB.out
        have HB2 := Lib.hid hbk2
        clear hbk2 hb2
        go_wp2_with fail
        go_ret
        exact ⟨g, cur, rfl, hg, HB2.out, by omega, by simpa using HT.out, hbw⟩
end Go.Proofs.Ytjimmfbjhkoekaa
/- append of whatever bytes; what a row of one's own reads as. -/
namespace Go.Proofs.Ytjimmfbjhkoekaa
open Go.RowKit
set_option maxRecDepth 100000
theorem append_rd {w : World} {ops : Array Oper} {rest : List Oper} {o : Oper} {a : Act} {Q : Exit → Act → World → Prop} (hgd : o.guard = none) (s x : Operand)
    (ho : o.op = .call { callee := .builtin .append, args := #[s, x], argTypes := #[27, 27] }) (base : Nat) (v : Value) (n : Nat) (xs : List Value) (hs : a.eval s = v) (hown : w.ownsRow base 5 1 v n xs)
    (A : Option Addr) (l : List UInt8) (c : Nat) (hx : a.eval x = .slice A l.length c) (hA : A = none → l = [] ∧ c = 0) (hr : Rd w w.heap.size A l) (hb : n + l.length < 2 ^ 47) (hbase : base ≤ w.heap.size)
    (h : ∀ v' w', w'.ownsRow base 5 1 v' (n + l.length) (xs ++ l.map B) → w.grownBy w' v.ownBlock → wpList Try.prog ops Q rest (a.put o.dst v') w') : wpList Try.prog ops Q (o :: rest) a w := by
  obtain ⟨i0, hi, hz0, hz1, hz2⟩ := info_parts infoB
  cases A with
  | none =>
    obtain ⟨rfl, rfl⟩ := hA rfl
    exact wpList_append_own_none hgd s x 27 ho base 5 i0 1 Try.underlying27 hi v n xs hs hown hx (h v w (by simpa using hown) ⟨rfl, rfl, rfl, Nat.le_refl _, fun _ _ _ => rfl⟩)
  | some ad =>
    exact wpList_append_own w hgd s x 27 ho base 5 i0 (.int .u8 0) 1 1 Try.underlying27 hi hz0 hz1 hz2 rfl (by decide) v n xs hs hown ad l.length c (l.map B) hx (by simp) hr.news (B_one l)
      (by unfold maxLen; omega) (by omega) hbase fun v' w' h1 h2 _ => h v' w' h1 h2
theorem Rd.of_own {w : World} {base n : Nat} {v : Value} {l : List UInt8} (h : w.ownsRow base 5 1 v n (l.map B)) (hn : n = l.length) : ∃ A c, v = .slice A l.length c ∧ Rd w w.heap.size A l ∧ (A = none → l = [] ∧ c = 0) ∧ l.length ≤ c := by
  subst hn
  obtain ⟨_, ⟨rfl, h0⟩ | ⟨g, cap, cur, rfl, hg, hbk, hle, _, hcs, htk⟩⟩ := h
  · have : l = [] := List.eq_nil_of_length_eq_zero h0
    subst this
    exact ⟨none, 0, rfl, Rd.nil, fun _ => ⟨rfl, rfl⟩, Nat.le_refl _⟩
  · refine ⟨_, cap, rfl, fun _ => ⟨g, 0, rfl, bk_lt hbk, fun j hj => ?_⟩, (fun e => by cases e), hle⟩
    rw [bk_cell hbk]
    have : (cur.toList.take (l.length * 1))[j]? = (l.map B)[j]? := by rw [htk]
    rw [List.getElem?_take_of_lt (by omega)] at this
    simpa [List.getElem?_eq_getElem hj] using this
end Go.Proofs.Ytjimmfbjhkoekaa
/- The cutter. -/
namespace Go.Proofs.Ytjimmfbjhkoekaa
open Go.RowKit
set_option maxRecDepth 100000
/-- One block alone is another one. -/
structure Chg (g : Nat) (o : Obj) (w w' : World) : Prop where
  os : w'.os = w.os
  tape : w'.tape = w.tape
  output : w'.output = w.output
  size : w'.heap.size = w.heap.size
  new : bk w' g = some o
  old : ∀ k, k ≠ g → bk w' k = bk w k
  drawn : w'.drawn = w.drawn
theorem Chg.refl {g : Nat} {o : Obj} {w : World} (h : bk w g = some o) : Chg g o w w := ⟨rfl, rfl, rfl, rfl, h, fun _ _ => rfl, rfl⟩
theorem Chg.eq {g : Nat} {o : Obj} {w w' : World} (h : Chg g o w w') (hg : bk w g = some o) : w = w' := by
  obtain ⟨h1, h2, h3, h4, h5, h6, h7⟩ := h
  have hh : w'.heap = w.heap := Array.ext_getElem? fun i => by
    by_cases e : i = g
    · subst e; exact h5.trans hg.symm
    · exact h6 i e
  cases w; cases w'
  simp only at h1 h2 h3 h7 hh
  subst h1; subst h2; subst h3; subst h7; subst hh
  rfl
theorem Chg.set {g i : Nat} {c : Array Value} {t : TypeId} {w w1 : World} (h : Chg g (.cells c t (0, 0)) w w1) (v : Value) : Chg g (.cells (c.setIfInBounds i v) t (0, 0)) w (w1.setCell ⟨g, i, none⟩ v) :=
  ⟨h.os, h.tape, h.output, by rw [show (w1.setCell ⟨g, i, none⟩ v).heap.size = w1.heap.size by simp [World.setCell]]; exact h.size, by rw [bk_setCell_same, h.new]; rfl, fun k hk => (bk_setCell_other _ _ _ _ _ hk).trans (h.old k hk), h.drawn⟩
theorem Chg.below {g n : Nat} {o : Obj} {w w' : World} (h : Chg g o w w') (hn : n ≤ g) : Below n w w' :=
  ⟨h.os, h.tape, h.output, by rw [h.size]; exact Nat.le_refl _, fun k hk => h.old k (by omega)⟩
/-- A cutter's block. -/
def cut (A : Option Addr) (n c : Nat) (f : Bool) : Obj := .cells #[.slice A n c, .bool f] 131 (0, 0)
theorem bad_any (g n c : Nat) (A : Option Addr) (f : Bool) (w : World) (h : bk w g = some (cut A n c f)) :
    Calls Try.prog 122 #[.pointer (some ⟨g, 0, none⟩)] w fun e w' => e = .returned (.bool (!f)) ∧ w = w' := by
  have h0 := bk_cell h 0
  have h1 := bk_cell h 1
  simp at h0 h1
  clear h
  go_enter Try.func122, Try.ntmps122
  go_wp2
  go_ret
  exact ⟨rfl, rfl⟩
theorem left_cut (g n c : Nat) (A : Option Addr) (f : Bool) (w : World) (h : bk w g = some (cut A n c f)) :
    Calls Try.prog 128 #[.pointer (some ⟨g, 0, none⟩)] w fun e w' => e = .returned (.int .i64 (if f then n else 0 : Nat)) ∧ w = w' := by
  have B := Lib.hid (bad_any g n c A f w h)
  have h0 := bk_cell h 0
  simp at h0
  clear h
  go_enter Try.func128, Try.ntmps128
  go_wp2_with fail
  refine B.out.mono ?_
  rintro e w1 ⟨rfl, rfl⟩
  cases f
  all_goals
    simp only [Bool.not_true, Bool.not_false]
    go_wp2
    go_ret
    exact ⟨rfl, rfl⟩
/-- Where a slice goes on behind m of its elements (the model lets it stand where it has no room). -/
def adv (A : Option Addr) (c m : Nat) : Option Addr := if c = m then A else A.map (·.add m)
theorem take_good (g N c : Nat) (A : Option Addr) (m : Nat) (w : World) (h : bk w g = some (cut A N c true)) (hm : m ≤ N) (hN : N ≤ c) :
    Calls Try.prog 126 #[.pointer (some ⟨g, 0, none⟩), .int .i64 m] w fun e w' => e = .returned (.slice A m m) ∧
      Chg g (cut (adv A c m) (N - m) (c - m) true) w w' := by
  unfold adv
  have h0 := bk_cell h 0
  have h1 := bk_cell h 1
  have hf := bk_frozen h 0
  simp at h0 h1
  have HG := Lib.hid h
  clear h
  have d1 : decide ((m : Int) < 0) = false := by simp
  have d2 : decide (N < m) = false := by simp; omega
  have d3 : decide ((N : Int) < (m : Int)) = false := by simp; omega
  by_cases hc : c = m
  · subst hc
    obtain rfl : N = c := by omega
    simp only [if_true]
    go_enter Try.func126, Try.ntmps126
    go_wp2
    go_ret
    exact ⟨rfl, by simpa [cut] using (Chg.refl HG.out).set (i := 0) (.slice A (N - N) (N - N))⟩
  · simp only [if_neg hc]
    go_enter Try.func126, Try.ntmps126
    go_wp2
    go_ret
    exact ⟨rfl, (Chg.refl HG.out).set (i := 0) _⟩
theorem take_bad (g N c : Nat) (A : Option Addr) (f : Bool) (m : Int) (w : World) (h : bk w g = some (cut A N c f)) (hm : f = false ∨ m < 0 ∨ (N : Int) < m) :
    Calls Try.prog 126 #[.pointer (some ⟨g, 0, none⟩), .int .i64 m] w fun e w' => e = .returned (.slice none 0 0) ∧ Chg g (cut none 0 0 false) w w' := by
  have h0 := bk_cell h 0
  have h1 := bk_cell h 1
  have hf := bk_frozen h 0
  have hf1 := bk_frozen h 1
  simp at h0 h1
  have HG := Lib.hid h
  clear h
  have hfin : Chg g (cut none 0 0 false) w ((w.setCell ⟨g, 0, none⟩ (.slice none 0 0)).setCell ⟨g, 1, none⟩ (.bool false)) := ((Chg.refl HG.out).set (i := 0) (.slice none 0 0)).set (i := 1) (.bool false)
  have HF := Lib.hid hfin
  clear hfin HG
  by_cases h1' : m < 0
  · have d1 : decide (m < 0) = true := by simpa using h1'
    clear hm
    go_enter Try.func126, Try.ntmps126
    go_wp2
    go_ret
    exact ⟨rfl, HF.out⟩
  · have d1 : decide (m < 0) = false := by simpa using h1'
    by_cases h2' : (N : Int) < m
    · have d2 : decide ((N : Int) < m) = true := by simpa using h2'
      clear hm
      go_enter Try.func126, Try.ntmps126
      go_wp2
      go_ret
      exact ⟨rfl, HF.out⟩
    · have d2 : decide ((N : Int) < m) = false := by simpa using h2'
      obtain rfl : f = false := by rcases hm with h | h | h; exact h; exact absurd h h1'; exact absurd h h2'
      clear hm
      go_enter Try.func126, Try.ntmps126
      go_wp2
      go_ret
      exact ⟨rfl, HF.out⟩
end Go.Proofs.Ytjimmfbjhkoekaa
/- The cutter: made, numbers, bytes, the rest. -/
namespace Go.Proofs.Ytjimmfbjhkoekaa
open Go.RowKit
set_option maxRecDepth 100000
theorem bytes_good (g N c : Nat) (A : Option Addr) (m : Nat) (w : World) (h : bk w g = some (cut A N c true)) (hm : m ≤ N) (hN : N ≤ c) :
    Calls Try.prog 120 #[.pointer (some ⟨g, 0, none⟩), .int .i64 m] w fun e w' => e = .returned (.slice A m m) ∧
      Chg g (cut (adv A c m) (N - m) (c - m) true) w w' := by
  have C := Lib.hid (take_good g N c A m w h hm hN)
  clear h hm hN
  go_enter Try.func120, Try.ntmps120
  go_wp2_with fail
  refine (C.out).mono ?_
  rintro e w1 ⟨rfl, b1⟩
  have HB := Lib.hid b1
  clear b1 C
  go_wp2_with fail
  go_ret
  exact ⟨rfl, HB.out⟩
theorem bytes_bad (g N c : Nat) (A : Option Addr) (f : Bool) (m : Int) (w : World) (h : bk w g = some (cut A N c f)) (hm : f = false ∨ m < 0 ∨ (N : Int) < m) :
    Calls Try.prog 120 #[.pointer (some ⟨g, 0, none⟩), .int .i64 m] w fun e w' => e = .returned (.slice none 0 0) ∧ Chg g (cut none 0 0 false) w w' := by
  have C := Lib.hid (take_bad g N c A f m w h hm)
  clear h hm
  go_enter Try.func120, Try.ntmps120
  go_wp2_with fail
  refine (C.out).mono ?_
  rintro e w1 ⟨rfl, b1⟩
  have HB := Lib.hid b1
  clear b1 C
  go_wp2_with fail
  go_ret
  exact ⟨rfl, HB.out⟩
theorem rest_bad (g N c : Nat) (A : Option Addr) (w : World) (h : bk w g = some (cut A N c false)) :
    Calls Try.prog 125 #[.pointer (some ⟨g, 0, none⟩)] w fun e w' => e = .returned (.slice none 0 0) ∧ w = w' := by
  have C := Lib.hid (bad_any g N c A false w h)
  clear h
  go_enter Try.func125, Try.ntmps125
  go_wp2_with fail
  refine C.out.mono ?_
  rintro e w1 ⟨rfl, rfl⟩
  simp only [Bool.not_false]
  go_wp2_with fail
  go_ret
  exact ⟨rfl, rfl⟩
theorem rest_good (g N c : Nat) (A : Option Addr) (w : World) (h : bk w g = some (cut A N c true)) (hN : N ≤ c) :
    Calls Try.prog 125 #[.pointer (some ⟨g, 0, none⟩)] w fun e w' => e = .returned (.slice A N N) ∧
      Chg g (cut (adv A c N) 0 (c - N) true) w w' := by
  have C := Lib.hid (bad_any g N c A true w h)
  have d := take_good g N c A N w h (Nat.le_refl _) hN
  rw [Nat.sub_self] at d
  have D := Lib.hid d
  clear d
  have h0 := bk_cell h 0
  simp at h0
  clear h hN
  go_enter Try.func125, Try.ntmps125
  go_wp2_with fail
  refine C.out.mono ?_
  rintro e w1 ⟨rfl, rfl⟩
  simp only [Bool.not_true]
  go_wp2_with fail
  refine (D.out).mono ?_
  rintro e w1 ⟨rfl, b1⟩
  have HB := Lib.hid b1
  clear b1 C D
  go_wp2_with fail
  go_ret
  exact ⟨rfl, HB.out⟩
theorem of_cut (A : Option Addr) (l : List UInt8) (c : Nat) (w : World) (h : Rd w w.heap.size A l) (hA : A = none → l = [] ∧ c = 0) (hl : l.length < 2 ^ 46) :
    Calls Try.prog 44 #[.slice A l.length c] w fun e w' => ∃ g A' c', e = .returned (.pointer (some ⟨g, 0, none⟩)) ∧ w.heap.size ≤ g ∧ bk w' g = some (cut A' l.length c' true) ∧
      w'.ownsRow w.heap.size 5 1 (.slice A' l.length c') l.length (l.map B) ∧ Rd w' g A' l ∧ l.length ≤ c' ∧ Below w.heap.size w w' := by
  have C := Lib.hid (clone_both A l c w h hA hl)
  clear h hA
  go_enter Try.func44, Try.ntmps44
  go_wp2_with fail
  refine C.out.mono ?_
  rintro e w1 ⟨v, rfl, ho, hb⟩
  obtain ⟨A', c', rfl, hrd, _, hlc⟩ := Rd.of_own ho rfl
  have HO := Lib.hid ho
  have HR := Lib.hid (hrd.below ((Below.refl _ _).alloc (Nat.le_refl _) (cut A' l.length c' true)) (Nat.le_refl _))
  clear ho C hrd
  go_wp2_with fail
  go_ret
  refine ⟨w1.heap.size, A', c', rfl, hb.size, bk_alloc_at _ _ _ rfl, HO.out.alloc _, HR.out, hlc, hb.alloc hb.size _⟩
end Go.Proofs.Ytjimmfbjhkoekaa
/- The cutter's numbers. -/
namespace Go.Proofs.Ytjimmfbjhkoekaa
open Go.RowKit
set_option maxRecDepth 100000
/-- The number of bytes, the greatest first. -/
def val (l : List UInt8) : Nat := l.foldl (fun n b => 256 * n + b.toNat) 0
theorem val_take (l : List UInt8) (k : Nat) (h : k < l.length) : val (l.take (k + 1)) = 256 * val (l.take k) + (l[k]).toNat := by
  rw [List.take_succ_eq_append_getElem h, val, List.foldl_append]
  rfl
theorem or8 (v b : Nat) (hv : v < 2 ^ 56) (hb : b < 256) : bits .or .u64 ((v : Int) * 256) (b : Int) = ((256 * v + b : Nat) : Int) := by
  have h := u64_or_nat (v * 256) b (by omega) (by omega)
  rw [nat_join 8 (v * 256) b (by omega) (by omega)] at h
  rw [show ((v : Int) * 256) = ((v * 256 : Nat) : Int) by omega, h]
  congr 1; omega
theorem val_lt (l : List UInt8) : val l < 256 ^ l.length := by
  have key : ∀ (l : List UInt8) (n : Nat), l.foldl (fun n b => 256 * n + b.toNat) n < 256 ^ l.length * (n + 1) := by
    intro l
    induction l with
    | nil => intro n; simp
    | cons b l ih =>
      intro n
      have := ih (256 * n + b.toNat)
      have hb := b.toNat_lt
      simp only [List.foldl_cons, List.length_cons, Nat.pow_succ]
      refine Nat.lt_of_lt_of_le this ?_
      rw [Nat.mul_assoc]
      exact Nat.mul_le_mul_left _ (by omega)
  have := key l 0
  simpa [val] using this
theorem num_good (g N c : Nat) (A : Option Addr) (l : List UInt8) (m : Nat) (w : World) (h : bk w g = some (cut A N c true)) (hr : Rd w g A l) (hl : l.length = m) (h1 : 1 ≤ m) (h8 : m ≤ 8) (hm : m ≤ N) (hN : N ≤ c) :
    Calls Try.prog 127 #[.pointer (some ⟨g, 0, none⟩), .int .i64 m] w fun e w' => e = .returned (.int .u64 (val l)) ∧
      Chg g (cut (adv A c m) (N - m) (c - m) true) w w' := by
  have C := Lib.hid (take_good g N c A m w h hm hN)
  have HR := Lib.hid hr
  have HL := Lib.hid hl
  clear h hr hm hN hl
  have d1 : decide ((m : Int) < 1) = false := by simp; omega
  have d2 : decide (8 < (m : Int)) = false := by simp; omega
  have d3 : decide (m < 1) = false := by simp; omega
  have d4 : decide (8 < m) = false := by simp; omega
  go_enter Try.func127, Try.ntmps127
  go_wp2_with fail
  refine (C.out).mono ?_
  rintro e w1 ⟨rfl, b1⟩
  have HB := Lib.hid b1
  have hr1 : Rd w1 g A l := HR.out.below (b1.below (Nat.le_refl _)) (Nat.le_refl _)
  have HR1 := Lib.hid hr1
  clear b1 C hr1 HR
  go_wp2
  go_loopw [4, 17] (fun x i w' => ∃ k : Nat, k ≤ m ∧ i = .int .i64 k ∧ x = .int .u64 (val (l.take k)) ∧ w1 = w') (fun _ i _ => m - (intOf i).toNat)
  case atStart => exact ⟨0, by omega, by go_num, rfl, rfl⟩
  case round =>
    obtain ⟨k, hk, rfl, rfl, rfl⟩ := hrel
    by_cases hlt : k < m
    · have hkl : k < l.length := by rw [HL.out]; exact hlt
      have e5 : decide ((k : Int) < (m : Int)) = true := by simp; omega
      obtain ⟨b1, o1, rfl, hb1, hc1⟩ := HR1.out.at hkl
      obtain ⟨y, hy⟩ : ∃ y, y = l[k] := ⟨_, rfl⟩
      obtain ⟨v, hv⟩ : ∃ v, v = val (l.take k) := ⟨_, rfl⟩
      have hv2 : val (l.take (k + 1)) = 256 * v + y.toNat := by rw [hv, hy]; exact val_take l k hkl
      have hv1 : v < 256 ^ 7 := by
        rw [hv]
        refine Nat.lt_of_lt_of_le (val_lt _) (Nat.pow_le_pow_right (by omega) ?_)
        rw [List.length_take]; omega
      have hyl := y.toNat_lt
      rw [← hy] at hc1
      rw [← hv]
      simp only [Nat.reducePow] at hv1
      have HV2 := Lib.hid hv2
      clear hv2 hv hy
      go_wp2
      go_roundw
      case rel => exact ⟨k + 1, by omega, by go_num, by rw [HV2.out, or8 v y.toNat (by omega) hyl], by trivial⟩
      case measure => simp [intOf]; omega
    · have e5 : decide ((k : Int) < (m : Int)) = false := by simp; omega
      have e6 : val (l.take k) = val l := by rw [List.take_of_length_le]; have := HL.out; omega
      rw [e6]
      have e7 : decide (k < m) = false := by simp; omega
      clear e6 hlt
      go_wp2
      go_ret
      exact ⟨rfl, HB.out⟩
theorem num_take (g N c : Nat) (A : Option Addr) (f : Bool) (m : Int) (w : World) (h : bk w g = some (cut A N c f)) (hm : f = false ∨ m < 1 ∨ 8 < m ∨ (N : Int) < m) :
    Calls Try.prog 127 #[.pointer (some ⟨g, 0, none⟩), .int .i64 m] w fun e w' => e = .returned (.int .u64 0) ∧ Chg g (cut none 0 0 false) w w' := by
  obtain ⟨m', hm'⟩ : ∃ m' : Int, m' = if m < 1 ∨ 8 < m then -1 else m := ⟨_, rfl⟩
  have C := Lib.hid (take_bad g N c A f m' w h (by rcases hm with h | h | h | h <;> (rw [hm']; split <;> first | exact .inl h | (exact .inr (.inl (by omega))) | (exact .inr (.inr h)) | omega)))
  clear h hm
  by_cases h1 : m < 1
  · have d1 : decide (m < 1) = true := by simpa using h1
    rw [if_pos (.inl h1)] at hm'
    subst hm'
    go_enter Try.func127, Try.ntmps127
    go_wp2_with fail
    refine (C.out).mono ?_
    rintro e w1 ⟨rfl, b1⟩
    have HB := Lib.hid b1
    clear b1 C
    go_wp2
    go_loopw [4, 17] (fun x i w' => x = .int .u64 0 ∧ i = .int .i64 0 ∧ w1 = w') (fun _ i _ => 0)
    case atStart => exact ⟨rfl, rfl, rfl⟩
    case round =>
      obtain ⟨rfl, rfl, rfl⟩ := hrel
      go_wp2
      go_ret
      exact ⟨rfl, HB.out⟩
  · have d1 : decide (m < 1) = false := by simpa using h1
    by_cases h2 : 8 < m
    · have d2 : decide (8 < m) = true := by simpa using h2
      rw [if_pos (.inr h2)] at hm'
      subst hm'
      go_enter Try.func127, Try.ntmps127
      go_wp2_with fail
      refine (C.out).mono ?_
      rintro e w1 ⟨rfl, b1⟩
      have HB := Lib.hid b1
      clear b1 C
      go_wp2
      go_loopw [4, 17] (fun x i w' => x = .int .u64 0 ∧ i = .int .i64 0 ∧ w1 = w') (fun _ i _ => 0)
      case atStart => exact ⟨rfl, rfl, rfl⟩
      case round =>
        obtain ⟨rfl, rfl, rfl⟩ := hrel
        go_wp2
        go_ret
        exact ⟨rfl, HB.out⟩
    · have d2 : decide (8 < m) = false := by simpa using h2
      rw [if_neg (by omega)] at hm'
      subst hm'
      go_enter Try.func127, Try.ntmps127
      go_wp2_with fail
      refine (C.out).mono ?_
      rintro e w1 ⟨rfl, b1⟩
      have HB := Lib.hid b1
      clear b1 C
      go_wp2
      go_loopw [4, 17] (fun x i w' => x = .int .u64 0 ∧ i = .int .i64 0 ∧ w1 = w') (fun _ i _ => 0)
      case atStart => exact ⟨rfl, rfl, rfl⟩
      case round =>
        obtain ⟨rfl, rfl, rfl⟩ := hrel
        go_wp2
        go_ret
        exact ⟨rfl, HB.out⟩
end Go.Proofs.Ytjimmfbjhkoekaa
/- The cutter, by what it holds. -/
namespace Go.Proofs.Ytjimmfbjhkoekaa
open Go.RowKit
set_option maxRecDepth 100000
theorem Rd.adv {w : World} {n c m : Nat} {A : Option Addr} {l : List UInt8} (h : Rd w n A l) (hc : l.length ≤ c) : Rd w n (Go.Proofs.Ytjimmfbjhkoekaa.adv A c m) (l.drop m) := fun h0 => by
  have hlt : m < l.length := by rw [List.length_drop] at h0; omega
  obtain ⟨b, o, rfl, hb, hcell⟩ := h (by omega)
  unfold Go.Proofs.Ytjimmfbjhkoekaa.adv
  rw [if_neg (by omega)]
  refine ⟨b, o + m, ?_, hb, fun j hj => ?_⟩
  · show some (Addr.add _ m) = _
    unfold Addr.add
    split
    · rename_i h; subst h; rfl
    · rfl
  · rw [List.length_drop] at hj
    have := hcell (m + j) (by omega)
    rw [show o + m + j = o + (m + j) by omega, this]
    simp
theorem Rd.take {w : World} {n m : Nat} {A : Option Addr} {l : List UInt8} (h : Rd w n A l) : Rd w n A (l.take m) := fun h0 => by
  obtain ⟨b, o, rfl, hb, hcell⟩ := h (by rw [List.length_take] at h0; omega)
  refine ⟨b, o, rfl, hb, fun j hj => ?_⟩
  rw [List.length_take] at hj
  rw [hcell j (by omega)]
  simp
/-- A cutter that holds the bytes l; one that is spoilt. -/
def KC (w : World) (g : Nat) (l : List UInt8) : Prop := ∃ A c, bk w g = some (cut A l.length c true) ∧ Rd w g A l ∧ l.length ≤ c
def KB (w : World) (g : Nat) : Prop := ∃ A N c, bk w g = some (cut A N c false)
structure Only (g : Nat) (w w' : World) : Prop where
  os : w'.os = w.os
  tape : w'.tape = w.tape
  output : w'.output = w.output
  size : w'.heap.size = w.heap.size
  old : ∀ k, k ≠ g → bk w' k = bk w k
theorem Chg.only {g : Nat} {o : Obj} {w w' : World} (h : Chg g o w w') : Only g w w' := ⟨h.os, h.tape, h.output, h.size, h.old⟩
theorem Only.below {g n : Nat} {w w' : World} (h : Only g w w') (hn : n ≤ g) : Below n w w' := ⟨h.os, h.tape, h.output, by rw [h.size]; exact Nat.le_refl _, fun k hk => h.old k (by omega)⟩
theorem Only.refl (g : Nat) (w : World) : Only g w w := ⟨rfl, rfl, rfl, rfl, fun _ _ => rfl⟩
theorem Only.trans {g : Nat} {a b c : World} (h : Only g a b) (k : Only g b c) : Only g a c := ⟨k.os.trans h.os, k.tape.trans h.tape, k.output.trans h.output, k.size.trans h.size, fun j hj => (k.old j hj).trans (h.old j hj)⟩
theorem KC.next {g m c N : Nat} {A : Option Addr} {l : List UInt8} {w w' : World} (hr : Rd w g A l) (hN : N = l.length) (hc : l.length ≤ c) (h : Chg g (cut (Go.Proofs.Ytjimmfbjhkoekaa.adv A c m) (N - m) (c - m) true) w w') : KC w' g (l.drop m) := by
  subst hN
  exact ⟨_, _, by rw [List.length_drop]; exact h.new, (hr.adv hc).below (h.below (Nat.le_refl _)) (Nat.le_refl _), by rw [List.length_drop]; omega⟩
theorem num_K (g : Nat) (l : List UInt8) (m : Nat) (w : World) (h : KC w g l) (h1 : 1 ≤ m) (h8 : m ≤ 8) (hm : m ≤ l.length) :
    Calls Try.prog 127 #[.pointer (some ⟨g, 0, none⟩), .int .i64 m] w fun e w' => e = .returned (.int .u64 (val (l.take m))) ∧ KC w' g (l.drop m) ∧ Only g w w' := by
  obtain ⟨A, c, hb, hr, hc⟩ := h
  refine (num_good g l.length c A (l.take m) m w hb hr.take (by rw [List.length_take]; omega) h1 h8 hm hc).mono ?_
  rintro e w' ⟨rfl, hch⟩
  exact ⟨rfl, KC.next hr rfl hc hch, hch.only⟩
theorem num_KB (g : Nat) (m : Int) (w : World) (h : KB w g) :
    Calls Try.prog 127 #[.pointer (some ⟨g, 0, none⟩), .int .i64 m] w fun e w' => e = .returned (.int .u64 0) ∧ KB w' g ∧ Only g w w' := by
  obtain ⟨A, N, c, hb⟩ := h
  refine (num_take g N c A false m w hb (.inl rfl)).mono ?_
  rintro e w' ⟨rfl, hch⟩
  exact ⟨rfl, ⟨_, _, _, hch.new⟩, hch.only⟩
theorem num_KS (g : Nat) (l : List UInt8) (m : Int) (w : World) (h : KC w g l) (hm : m < 1 ∨ 8 < m ∨ (l.length : Int) < m) :
    Calls Try.prog 127 #[.pointer (some ⟨g, 0, none⟩), .int .i64 m] w fun e w' => e = .returned (.int .u64 0) ∧ KB w' g ∧ Only g w w' := by
  obtain ⟨A, c, hb, _, _⟩ := h
  refine (num_take g l.length c A true m w hb (.inr hm)).mono ?_
  rintro e w' ⟨rfl, hch⟩
  exact ⟨rfl, ⟨_, _, _, hch.new⟩, hch.only⟩
theorem bytes_K (g : Nat) (l : List UInt8) (m : Nat) (w : World) (h : KC w g l) (hm : m ≤ l.length) :
    Calls Try.prog 120 #[.pointer (some ⟨g, 0, none⟩), .int .i64 m] w fun e w' => ∃ A, e = .returned (.slice A m m) ∧ Rd w' g A (l.take m) ∧ KC w' g (l.drop m) ∧ Only g w w' := by
  obtain ⟨A, c, hb, hr, hc⟩ := h
  refine (bytes_good g l.length c A m w hb hm hc).mono ?_
  rintro e w' ⟨rfl, hch⟩
  exact ⟨A, rfl, hr.take.below (hch.below (Nat.le_refl _)) (Nat.le_refl _), KC.next hr rfl hc hch, hch.only⟩
theorem bad_K (g : Nat) (l : List UInt8) (w : World) (h : KC w g l) : Calls Try.prog 122 #[.pointer (some ⟨g, 0, none⟩)] w fun e w' => e = .returned (.bool false) ∧ w = w' := by
  obtain ⟨A, c, hb, _, _⟩ := h
  exact bad_any g _ c A true w hb
theorem bad_KB (g : Nat) (w : World) (h : KB w g) : Calls Try.prog 122 #[.pointer (some ⟨g, 0, none⟩)] w fun e w' => e = .returned (.bool true) ∧ w = w' := by
  obtain ⟨A, N, c, hb⟩ := h
  exact bad_any g _ c A false w hb
theorem left_K (g : Nat) (l : List UInt8) (w : World) (h : KC w g l) : Calls Try.prog 128 #[.pointer (some ⟨g, 0, none⟩)] w fun e w' => e = .returned (.int .i64 l.length) ∧ w = w' := by
  obtain ⟨A, c, hb, _, _⟩ := h
  exact left_cut g _ c A true w hb
theorem left_KB (g : Nat) (w : World) (h : KB w g) : Calls Try.prog 128 #[.pointer (some ⟨g, 0, none⟩)] w fun e w' => e = .returned (.int .i64 0) ∧ w = w' := by
  obtain ⟨A, N, c, hb⟩ := h
  exact left_cut g _ c A false w hb
theorem rest_KB (g : Nat) (w : World) (h : KB w g) : Calls Try.prog 125 #[.pointer (some ⟨g, 0, none⟩)] w fun e w' => e = .returned (.slice none 0 0) ∧ w = w' := by
  obtain ⟨A, N, c, hb⟩ := h
  exact rest_bad g _ c A w hb
theorem of_K (A : Option Addr) (l : List UInt8) (c : Nat) (w : World) (h : Rd w w.heap.size A l) (hA : A = none → l = [] ∧ c = 0) (hl : l.length < 2 ^ 46) :
    Calls Try.prog 44 #[.slice A l.length c] w fun e w' => ∃ g, e = .returned (.pointer (some ⟨g, 0, none⟩)) ∧ w.heap.size ≤ g ∧ KC w' g l ∧ Below w.heap.size w w' := by
  refine (of_cut A l c w h hA hl).mono ?_
  rintro e w' ⟨g, A', c', rfl, hg, hb, _, hr, hlc, hbel⟩
  exact ⟨g, rfl, hg, ⟨A', c', hb, hr, hlc⟩, hbel⟩
theorem bytes_KB (g : Nat) (m : Int) (w : World) (h : KB w g) :
    Calls Try.prog 120 #[.pointer (some ⟨g, 0, none⟩), .int .i64 m] w fun e w' => e = .returned (.slice none 0 0) ∧ KB w' g ∧ Only g w w' := by
  obtain ⟨A, N, c, hb⟩ := h
  refine (bytes_bad g N c A false m w hb (.inl rfl)).mono ?_
  rintro e w' ⟨rfl, hch⟩
  exact ⟨rfl, ⟨_, _, _, hch.new⟩, hch.only⟩
theorem bytes_KS (g : Nat) (l : List UInt8) (m : Int) (w : World) (h : KC w g l) (hm : m < 0 ∨ (l.length : Int) < m) :
    Calls Try.prog 120 #[.pointer (some ⟨g, 0, none⟩), .int .i64 m] w fun e w' => e = .returned (.slice none 0 0) ∧ KB w' g ∧ Only g w w' := by
  obtain ⟨A, c, hb, _, _⟩ := h
  refine (bytes_bad g l.length c A true m w hb (.inr hm)).mono ?_
  rintro e w' ⟨rfl, hch⟩
  exact ⟨rfl, ⟨_, _, _, hch.new⟩, hch.only⟩
theorem Only.grown {g : Nat} {w w' : World} (h : Only g w w') : w.grownBy w' (some g) := ⟨h.os, h.tape, h.output, by rw [h.size]; exact Nat.le_refl _, fun k _ hk => h.old k (fun e => hk (by rw [e]))⟩
theorem ownsRow_only {w w' : World} {g base : Nat} {e : TypeId} {size : Nat} {v : Value} {n : Nat} {xs : List Value} (h : w.ownsRow base e size v n xs) (ho : Only g w w') (hg : g < base) : w'.ownsRow base e size v n xs :=
  h.kept ho.grown (by
    rcases hx : v.ownBlock with _ | k
    · exact .inl rfl
    · refine .inr fun e => ?_
      have := (h.lt k hx).1
      cases e
      omega)
theorem Rd.none_nil {w : World} {n : Nat} {l : List UInt8} (h : Rd w n none l) : l = [] := by
  rcases Nat.eq_zero_or_pos l.length with h0 | h0
  · exact List.eq_nil_of_length_eq_zero h0
  · obtain ⟨b, o, e, _⟩ := h h0
    cases e
theorem Only.size_eq {g : Nat} {w w' : World} (h : Only g w w') : w'.heap.size = w.heap.size := h.size
theorem rest_K (g : Nat) (l : List UInt8) (w : World) (h : KC w g l) :
    Calls Try.prog 125 #[.pointer (some ⟨g, 0, none⟩)] w fun e w' => ∃ A, e = .returned (.slice A l.length l.length) ∧ Rd w' g A l ∧ KC w' g [] ∧ Only g w w' := by
  obtain ⟨A, c, hb, hr, hc⟩ := h
  refine (rest_good g l.length c A w hb hc).mono ?_
  rintro e w' ⟨rfl, hch⟩
  refine ⟨A, rfl, hr.below (hch.below (Nat.le_refl _)) (Nat.le_refl _), ?_, hch.only⟩
  have := KC.next (m := l.length) (N := l.length) hr rfl hc (by rw [Nat.sub_self]; exact hch)
  rwa [List.drop_length] at this
end Go.Proofs.Ytjimmfbjhkoekaa
/- Literal slices; a cutter is kept. -/
namespace Go.Proofs.Ytjimmfbjhkoekaa
open Go.RowKit
set_option maxRecDepth 100000
theorem Rd.lit (w : World) (l : List UInt8) (t : TypeId) : Rd (w.alloc (.cells (l.map B).toArray t (0, 0))) (w.alloc (.cells (l.map B).toArray t (0, 0))).heap.size (some ⟨w.heap.size, 0, none⟩) l :=
  Rd.of_bk (bk_alloc_at _ _ _ rfl) (by simp [World.size_alloc]) fun j hj => by rw [Nat.zero_add, List.getElem?_eq_getElem hj]
theorem Rd.of_take {w : World} {g n m : Nat} {cur : Array Value} {l : List UInt8} {t : TypeId} {fr : Nat × Nat} (h : bk w g = some (.cells cur t fr)) (ht : cur.toList.take m = l.map B) (hg : g < n) : Rd w n (some ⟨g, 0, none⟩) l := fun _ => ⟨g, 0, rfl, hg, fun j hj => by
  rw [bk_cell h, Nat.zero_add]
  have e : (cur.toList.take m)[j]? = (l.map B)[j]? := by rw [ht]
  have hm : j < m := by
    rcases Nat.lt_or_ge j m with h' | h'
    · exact h'
    · rw [List.getElem?_eq_none (by rw [List.length_take]; omega), List.getElem?_map, List.getElem?_eq_getElem hj] at e; cases e
  rw [List.getElem?_take_of_lt hm, List.getElem?_map, List.getElem?_eq_getElem hj] at e
  rw [← Array.getElem?_toList]
  exact e⟩
theorem KC.keep {w w' : World} {g n : Nat} {l : List UInt8} (h : KC w g l) (hb : Below n w w') (hn : g < n) : KC w' g l := by
  obtain ⟨A, c, h1, h2, h3⟩ := h
  exact ⟨A, c, bk_keep hb hn h1, h2.below hb (by omega), h3⟩
theorem KB.keep {w w' : World} {g n : Nat} (h : KB w g) (hb : Below n w w') (hn : g < n) : KB w' g := by
  obtain ⟨A, N, c, h1⟩ := h
  exact ⟨A, N, c, bk_keep hb hn h1⟩
theorem KC.lt {w : World} {g : Nat} {l : List UInt8} (h : KC w g l) : g < w.heap.size := by
  obtain ⟨A, c, h1, _⟩ := h
  exact bk_lt h1
end Go.Proofs.Ytjimmfbjhkoekaa

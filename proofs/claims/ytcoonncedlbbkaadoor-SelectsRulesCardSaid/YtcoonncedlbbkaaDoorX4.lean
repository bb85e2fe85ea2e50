/- Selects: the label of an address. -/
import Derived.Test.YtcoonncedlbbkaaDoorX3
import Derived.BigQuiet
import Derived.BigRegion
import Derived.Deep.Cut
namespace Go.Proofs.YtcoonncedlbbkaaDoor
open Go.RowKit Ad
set_option maxRecDepth 100000
@[go_sem ↓] theorem ldPfx (dst : Option Tmp) (x : Operand) (t : TypeId) (pos : String) (af : Array Edge) (g : Option (Nat × Bool)) (a : Act) (w : World) (K : Act → World → Prop) (Q : Exit → Act → World → Prop) :
    Oper.wp Tryd.prog ⟨dst, .load 62 x, t, pos, af, g⟩ a w K Q = ldPtr (wpHid Tryd.prog ⟨dst, .load 62 x, t, pos, af, g⟩ a w K Q) 17 w (fun c => K (a.put dst (.agg c)) w) (a.eval x) :=
  wp_load_bk 62 17 _ Tryd.underlying62 rfl (by kernel_rfl) dst x t pos af g a w K Q
@[go_sem ↓] theorem stPfx (dst : Option Tmp) (x y : Operand) (t : TypeId) (pos : String) (af : Array Edge) (g : Option (Nat × Bool)) (a : Act) (w : World) (K : Act → World → Prop) (Q : Exit → Act → World → Prop) :
    Oper.wp Tryd.prog ⟨dst, .store 62 x y, t, pos, af, g⟩ a w K Q = stPtr (wpHid Tryd.prog ⟨dst, .store 62 x y, t, pos, af, g⟩ a w K Q) 17 w (fun w' => K (a.put dst undef) w') (a.eval x) (a.eval y) :=
  wp_store_bk 62 17 (by kernel_rfl) dst x y t pos af g a w K Q
@[go_sem ↓] theorem qlPfx (dst : Option Tmp) (x : Operand) (t : TypeId) (pos : String) (af : Array Edge) (g : Option (Nat × Bool)) (a : Act) (m : Nat) (W : World) (K : Act → Prop) :
    Oper.quiet Tryd.prog ⟨dst, .load 62 x, t, pos, af, g⟩ a (fun w' => ∃ x : Later m W, w' = x.w) K =
      ldLater (quietHid Tryd.prog ⟨dst, .load 62 x, t, pos, af, g⟩ a (fun w' => ∃ x : Later m W, w' = x.w) K) m 17 W (fun c => K (a.put dst (.agg c))) (a.eval x) :=
  quiet_load_bk 62 17 _ Tryd.underlying62 rfl (by kernel_rfl) dst x t pos af g a m W K
theorem do_any (g : Nat) (w : World) (hk : GK w) (hb : Bn g w ∨ Bf g w) :
    Calls Tryd.prog 33 #[.pointer (some ⟨g, 0, none⟩), .func (.func 34) #[.pointer (some ⟨g, 0, none⟩)] #[]] w fun e w' => e = .returned (.tuple #[]) ∧ Bf g w' ∧ Gb g w w' ∧ (Bf g w → w' = w) := by
  have hnot : ∀ (x : Bool) (w : World), (Op.unary .not (.bool x)).run Tryd.prog w = .ok (.bool (!x)) w := fun _ _ => rfl
  rcases hb with hb | hb
  · have c0 := bk_cell hb.2 0; rw [Bc_0] at c0
    have CB := Lib.hid (loadB_any ⟨g, 0, none⟩ 0 w c0)
    have CS := Lib.hid (slow_any g w hk hb)
    have HN : Hid (¬ Bf g w) := Lib.hid (fun ⟨_, rs, _, h2, _⟩ => by rw [hb.2] at h2; simp [Bc] at h2)
    clear c0 hb hk
    go_enter Tryd.func33, Tryd.ntmps33
    go_wp2_with fail
    refine CB.out.mono ?_
    rintro e w2 ⟨rfl, rfl⟩
    go_wp2_with fail
    refine CS.out.mono ?_
    rintro e w3 ⟨rfl, h3⟩
    have H3 := Lib.hid h3
    clear h3
    go_wp2_with fail
    go_end0
    exact ⟨rfl, H3.out.1, H3.out.2, fun h => absurd h HN.out⟩
  · obtain ⟨h0, rs, h1, h2, h3⟩ := hb
    have c0 := bk_cell h2 0; rw [Bc_0] at c0
    have CB := Lib.hid (loadB_any ⟨g, 0, none⟩ 1 w c0)
    have HF : Hid (Bf g w) := Lib.hid ⟨h0, rs, h1, h2, h3⟩
    clear c0 hk h2 h3
    go_enter Tryd.func33, Tryd.ntmps33
    go_wp2_with fail
    refine CB.out.mono ?_
    rintro e w2 ⟨rfl, rfl⟩
    go_wp2_with fail
    go_end0
    exact ⟨rfl, HF.out, Gb.refl _ _, fun _ => rfl⟩
def within (a p : List UInt8) : Bool := decide (min (p.getD 16 0).toNat 128 ≤ common a (sl p 0 16))
def labL (a : List UInt8) : List (List UInt8 × Nat) → Nat
  | [] => 1
  | x :: r => if within a x.1 then x.2 else labL a r
def label (a : List UInt8) : Nat := labL a table
theorem tabC_size : tabC.size = 162 := by rfl
theorem tab_row (k : Nat) (h : k < 9) : ∃ p n, table[k]? = some (p, n) ∧ p.length = 17 ∧ n < 14 ∧ xt tabC (k * 18) 17 = (List.map B p).toArray ∧ tabC[k * 18 + 17]? = some (.int .i64 (n : Int)) := by
  obtain rfl | rfl | rfl | rfl | rfl | rfl | rfl | rfl | rfl : k = 0 ∨ k = 1 ∨ k = 2 ∨ k = 3 ∨ k = 4 ∨ k = 5 ∨ k = 6 ∨ k = 7 ∨ k = 8 := by omega
  all_goals exact ⟨_, _, rfl, rfl, by decide, rfl, rfl⟩
theorem labL_drop (a : List UInt8) : ∀ (l : List (List UInt8 × Nat)) (k : Nat), (∀ j p n, j < k → l[j]? = some (p, n) → within a p = false) → labL a l = labL a (l.drop k)
  | _, 0, _ => rfl
  | [], k + 1, _ => by simp
  | x :: r, k + 1, h => by
    rw [List.drop_succ_cons, ← labL_drop a r k (fun j p n hj e => h (j + 1) p n (by omega) (by simpa using e))]
    have := h 0 x.1 x.2 (by omega) rfl
    simp [labL, this]
theorem label_at (a : List UInt8) (k : Nat) (p : List UInt8) (n : Nat) (hk : table[k]? = some (p, n)) (h : ∀ j p n, j < k → table[j]? = some (p, n) → within a p = false) (hw : within a p = true) : label a = n := by
  obtain ⟨hl, he⟩ := List.getElem?_eq_some_iff.1 hk
  unfold label
  rw [labL_drop a table k h, List.drop_eq_getElem_cons hl, he]
  simp [labL, hw]
theorem label_end (a : List UInt8) (h : ∀ j p n, j < 9 → table[j]? = some (p, n) → within a p = false) : label a = 1 := by
  unfold label
  rw [labL_drop a table 9 h]
  rfl
set_option maxHeartbeats 1000000 in
theorem label_any (g : Nat) (a : List UInt8) (ha : a.length = 16) (w : World) (hk : GK w) (hb : Bn g w ∨ Bf g w) :
    Calls Tryd.prog 17 #[.pointer (some ⟨g, 0, none⟩), av a] w fun e w' => e = .returned (.int .i64 (label a)) ∧ Bf g w' ∧ Gb g w w' ∧ (Bf g w → Below w.heap.size w w') := by
  have hmf : ∀ (fn : Fn) (first cap : Array Value) (w : World), (Instr.makeFunc fn first cap).run Tryd.prog w = .ok (.func fn first cap) w := fun _ _ _ _ => rfl
  have hw0 : 0 < w.heap.size := by obtain ⟨c, t, fr, h1, _⟩ := hk; exact bk_lt h1
  have ba : Below w.heap.size w (w.alloc (.cells (List.map B a).toArray 23)) := (Below.refl _ _).alloc (Nat.le_refl _) _
  have k0 : bk (w.alloc (.cells (List.map B a).toArray 23)) w.heap.size = some (.cells (List.map B a).toArray 23 (0, 0)) := bk_alloc_at _ _ _ rfl
  have hgw : g < w.heap.size := by
    rcases hb with h | ⟨_, _, _, h, _⟩
    · exact bk_lt h.2
    · exact bk_lt h
  have C := do_any g _ (hk.below ba hw0) (hb.imp (fun h => h.below ba (Nat.le_refl _)) (fun h => h.below ba (Nat.le_refl _)))
  have CD := Lib.hid C
  have HB : Hid (Bf g w → Bf g (w.alloc (.cells (List.map B a).toArray 23))) := Lib.hid fun h => h.below ba (Nat.le_refl _)
  have KK := Lib.hid (And.intro k0 ba)
  clear C hb hk k0 ba
  go_enter Tryd.func17, Tryd.ntmps17
  go_wp2_with fail
  refine CD.out.mono ?_
  rintro e w2 ⟨rfl, hf, h2, he⟩
  obtain ⟨k0, ba⟩ := KK.out
  have k2 := h2.keep (m := w.heap.size) (by omega) k0
  have FF : Hid (Bf g w2 ∧ Gb g w w2 ∧ (Bf g w → Below w.heap.size w w2)) := Lib.hid ⟨hf, (Gb.of ba).trans h2, fun h => by rw [he (HB.out h)]; exact ba⟩
  obtain ⟨_, rs, hrs, hg2, hr2⟩ := hf
  have c3 := bk_cell hg2 3; rw [Bc_3] at c3
  have l2 := bk_lt hg2
  have K2 := Lib.hid k2; have G2 := Lib.hid hg2; have R2 := Lib.hid hr2
  clear CD KK HB h2 he k0 ba k2 hg2 hr2
  go_wp2_with fail
  go_loopw [5, 17] (fun _ i wr => ∃ k : Nat, k ≤ 9 ∧ i = .int .i64 k ∧ Hid (Below w2.heap.size w2 wr) ∧ Hid (∀ j p n, j < k → table[j]? = some (p, n) → within a p = false)) (fun _ i _ => 9 - (intOf i).toNat)
  case atStart => exact ⟨0, by omega, rfl, Lib.hid (Below.refl _ _), Lib.hid fun j _ _ h => by omega⟩
  case round =>
    clear c3 l2
    obtain ⟨k, hk, rfl, BR, HJ⟩ := hrel
    by_cases hk9 : k < 9
    · have d1 : decide ((k : Int) < 9) = true := by simp; omega
      obtain ⟨p, n, hp1, hp2, hn, hp3, hp4⟩ := tab_row k hk9
      have kb := bk_keep BR.out (bk_lt K2.out) K2.out
      have kg := bk_keep BR.out (bk_lt G2.out) G2.out
      have kr := bk_keep BR.out (bk_lt R2.out) R2.out
      have c3 := bk_cell kg 3; rw [Bc_3] at c3
      have lb := bk_lt kb; have lg := bk_lt kg; have lr := bk_lt kr
      have hs : k * 18 + 17 ≤ tabC.size := by rw [tabC_size]; omega
      have CW := Lib.hid (within_any a p ha hp2)
      have HP1 := Lib.hid hp1
      have HP4 := Lib.hid hp4
      obtain ⟨q, hq⟩ : ∃ q, q = within a p := ⟨_, rfl⟩
      have CW' : Hid (∀ w, Calls Tryd.prog 35 #[av a, av p] w fun e w' => e = .returned (.bool q) ∧ Below w.heap.size w w') := by rw [hq]; exact CW
      have HQ := Lib.hid hq
      clear hp1 hp4 CW hq kg kb
      have kb := bk_keep BR.out (bk_lt K2.out) K2.out
      go_upto_region 5 with fail
      refine wp_region_later (wr.heap.size) (by kernel_rfl) (by kernel_rfl) ?_
      repeat (go_big_quiet_step (((rename_i xq; with_reducible exact later_call xq (Nat.le_refl _) (CW'.out xq.w)))))
      (first | refine wpQuiet_nil ?_ | (go_big_quiet_want; (try go_big_quiet_op); trace_state; fail))
      intro w3 hw'
      have q3 := later_elim hw'
      clear hw'
      clear kr kb c3 lb lg lr
      have kr := bk_keep q3 (bk_lt (bk_keep BR.out (bk_lt R2.out) R2.out)) (bk_keep BR.out (bk_lt R2.out) R2.out)
      have kg := bk_keep q3 (bk_lt (bk_keep BR.out (bk_lt G2.out) G2.out)) (bk_keep BR.out (bk_lt G2.out) G2.out)
      have B3 := Lib.hid (BR.out.trans (q3.mono BR.out.size))
      have c3 := bk_cell kg 3; rw [Bc_3] at c3
      have cn := bk_cell kr (k * 18 + 17)
      rw [HP4.out] at cn
      have lg := bk_lt kg; have lr := bk_lt kr
      clear kg kr q3 CW' hp3 hs
      cases q
      case false =>
        go_wp2_with fail
        refine ⟨⟨k + 1, by omega, by go_num, B3, Lib.hid fun j p' n' hj e => ?_⟩, by simp [intOf]; omega⟩
        by_cases hjk : j < k
        · exact HJ.out j p' n' hjk e
        · obtain rfl : j = k := by omega
          rw [HP1.out] at e
          cases e
          exact HQ.out.symm
      case true =>
        have HL : Hid (label a = n) := Lib.hid (label_at a k p n HP1.out HJ.out HQ.out.symm)
        go_wp2_with fail
        go_ret
        refine ⟨by rw [HL.out]; rfl, ?_, ?_, ?_⟩
        · exact FF.out.1.below B3.out (Nat.le_refl _)
        · exact FF.out.2.1.trans (Gb.of B3.out)
        · exact fun h => (FF.out.2.2 h).trans (B3.out.mono (FF.out.2.2 h).size)
    · obtain rfl : k = 9 := by omega
      have d1 : decide (((9 : Nat) : Int) < 9) = false := by simp
      have HL : Hid (label a = 1) := Lib.hid (label_end a HJ.out)
      go_wp2_with fail
      go_ret
      refine ⟨by rw [HL.out]; rfl, ?_, ?_, ?_⟩
      · exact FF.out.1.below BR.out (Nat.le_refl _)
      · exact FF.out.2.1.trans (Gb.of BR.out)
      · exact fun h => (FF.out.2.2 h).trans (BR.out.mono (FF.out.2.2 h).size)
end Go.Proofs.YtcoonncedlbbkaaDoor

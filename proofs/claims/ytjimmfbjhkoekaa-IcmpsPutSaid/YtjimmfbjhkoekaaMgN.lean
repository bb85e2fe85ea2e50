import Derived.Test.YtjimmfbjhkoekaaMgM
/- Icmps: options.Get. -/
namespace Go.Proofs.Ytjimmfbjhkoekaa
open Go.RowKit
set_option maxRecDepth 100000
set_option maxHeartbeats 2000000
@[go_sem ↓] theorem ldOpg (dst : Option Tmp) (x : Operand) (t : TypeId) (pos : String) (af : Array Edge) (g : Option (Nat × Bool)) (a : Act) (w : World) (K : Act → World → Prop) (Q : Exit → Act → World → Prop) :
    Oper.wp Try.prog ⟨dst, .load 97 x, t, pos, af, g⟩ a w K Q = ldPtr (wpHid Try.prog ⟨dst, .load 97 x, t, pos, af, g⟩ a w K Q) 2 w (fun c => K (a.put dst (.agg c)) w) (a.eval x) :=
  wp_load_bk 97 2 _ Try.underlying97 rfl (by kernel_rfl) dst x t pos af g a w K Q
@[go_sem ↓] theorem stOpg (dst : Option Tmp) (x y : Operand) (t : TypeId) (pos : String) (af : Array Edge) (g : Option (Nat × Bool)) (a : Act) (w : World) (K : Act → World → Prop) (Q : Exit → Act → World → Prop) :
    Oper.wp Try.prog ⟨dst, .store 97 x y, t, pos, af, g⟩ a w K Q = stPtr (wpHid Try.prog ⟨dst, .store 97 x y, t, pos, af, g⟩ a w K Q) 2 w (fun w' => K (a.put dst undef) w') (a.eval x) (a.eval y) :=
  wp_store_bk 97 2 (by kernel_rfl) dst x y t pos af g a w K Q
@[go_sem ↓] theorem qlOpg (dst : Option Tmp) (x : Operand) (t : TypeId) (pos : String) (af : Array Edge) (g : Option (Nat × Bool)) (a : Act) (m : Nat) (W : World) (K : Act → Prop) :
    Oper.quiet Try.prog ⟨dst, .load 97 x, t, pos, af, g⟩ a (fun w' => ∃ x : Later m W, w' = x.w) K =
      ldLater (quietHid Try.prog ⟨dst, .load 97 x, t, pos, af, g⟩ a (fun w' => ∃ x : Later m W, w' = x.w) K) m 2 W (fun c => K (a.put dst (.agg c))) (a.eval x) :=
  quiet_load_bk 97 2 _ Try.underlying97 rfl (by kernel_rfl) dst x t pos af g a m W K
theorem appO : App1 29 97 (.agg #[.int .u8 0, .slice none 0 0]) 2 32 := ⟨Try.underlying29, by kernel_rfl, rfl, by omega, by omega⟩
theorem clipO_any (A : Option Addr) (n c : Nat) (h : n ≤ c) (w : World) : Calls Try.prog 129 #[.slice A n c] w fun e w' => e = .returned (.slice A n n) ∧ w = w' := by
  go_enter Try.func129, Try.ntmps129
  go_wp2_with fail
  go_ret
  exact ⟨rfl, rfl⟩
theorem pleftK {w : World} {gc gb : Nat} {L : List UInt8} {q : Nat} (h : PK w gc gb L (some q)) : Calls Try.prog 128 #[.pointer (some ⟨gc, 0, none⟩)] w fun e w' => e = .returned (.int .i64 ((L.length - q : Nat) : Int)) ∧ w = w' := by
  obtain ⟨hq, A, c, hb, _⟩ := h
  exact left_cut gc (L.length - q) c A true w hb
def ovF (l : List Ov) : List Value := (l.map fun x => x.row.toList).flatten
/-- A block of bytes. -/
def Ub (w : World) (g : Nat) : Prop := ∃ cur, bk w g = some (.cells cur 5 (0, 0))
/-- What options.Get hands back. -/
def GotO (l : List UInt8) (n : Nat) (e : Ending) (w' : World) : Prop :=
  match optsG 64 l with
  | none => e = .returned (.tuple #[.slice none 0 0, .int .i64 4])
  | some os => ∃ A ol gb, e = .returned (.tuple #[.slice A ol.length ol.length, .int .i64 0]) ∧ ol.map Ov.pl = os ∧ ol.length ≤ 64 ∧ (A = none → ol = []) ∧ (∀ a, A = some a → n ≤ a.block) ∧ Ovs w' w'.heap.size A ol ∧ (ol ≠ [] → n ≤ gb) ∧ LayAt gb l.length ol ∧ (ol ≠ [] → Ub w' gb)
def cutN (w : World) (g : Nat) : Nat := match bk w g with
  | some (Obj.cells c _ _) => (match c[0]? with
    | some (Value.slice _ n _) => n
    | _ => 0)
  | _ => 0
theorem PK.cutN {w : World} {gc gb q : Nat} {L : List UInt8} (h : PK w gc gb L (some q)) : Go.Proofs.Ytjimmfbjhkoekaa.cutN w gc = L.length - q := by
  obtain ⟨_, A, c, hb, _⟩ := h
  unfold Go.Proofs.Ytjimmfbjhkoekaa.cutN
  rw [hb]
  rfl
/-- Where options' bytes lie. -/
def DatAt (L : List UInt8) (gb : Nat) (ol : List Ov) : Prop := ∀ x ∈ ol, ∃ o, x.A = some ⟨gb, o, none⟩ ∧ x.d = (L.drop o).take x.d.length ∧ x.c = x.d.length ∧ 0 < x.d.length
theorem DatAt.ok {L : List UInt8} {gb n : Nat} {ol : List Ov} {w : World} (h : DatAt L gb ol) (hb : PB w gb L) (hg : gb < n) (hl : L.length < 2 ^ 40) : ∀ x ∈ ol, OvOk w n x := fun x hx => by
  obtain ⟨o, h1, h2, h3, h4⟩ := h x hx
  have hd : x.d.length ≤ L.length := by rw [h2, List.length_take, List.length_drop]; omega
  refine ⟨?_, (fun e => by rw [h1] at e; cases e), by omega, by omega⟩
  rw [h1, h2]
  exact hb.rd hg
theorem ovF_snoc (l : List Ov) (x : Ov) : ovF (l ++ [x]) = ovF l ++ x.row.toList := by unfold ovF; simp
theorem own_rws {w : World} {n c : Nat} {A : Option Addr} {l : List Ov} (h : w.ownsRow n 97 2 (.slice A l.length c) l.length (ovF l)) : Rws 2 Ov.row w w.heap.size A l ∧ (A = none → l = []) ∧ l.length ≤ c ∧ ∀ a, A = some a → n ≤ a.block := by
  rcases h.2 with ⟨e, h0⟩ | ⟨g, cap, cur, e, hg, hb, h1, h2, h3, h4⟩
  · have hl : l = [] := List.eq_nil_of_length_eq_zero h0
    subst hl
    exact ⟨Rws.nil, fun _ => rfl, Nat.zero_le _, fun a e' => by cases e; cases e'⟩
  · obtain ⟨rfl, _, rfl⟩ := Value.slice.inj e
    refine ⟨fun _ => ⟨g, 0, cur, _, _, rfl, bk_lt hb, hb, fun j hj => ?_⟩, (fun e => by cases e), h1, fun a e => by cases e; exact hg⟩
    have hsz : 0 + j * 2 + 2 ≤ cur.size := by omega
    refine ⟨hsz, ?_⟩
    apply Array.ext_getElem?
    intro i
    unfold xt
    rw [Array.getElem?_extract]
    by_cases hi : i < 2
    · rw [if_pos (by omega)]
      have e1 : (j * 2 + i) / 2 = j := by omega
      have e2 : (j * 2 + i) % 2 = i := by omega
      have key : (ovF l)[j * 2 + i]? = (l[j].row.toList)[i]? := by
        unfold ovF
        rw [flat_at (fun x : Ov => x.row.toList) 2 (by decide) l (j * 2 + i) (fun x _ => by simp [Ov.row_size]) (by rw [e1]; exact hj)]
        simp only [e1, e2]
      rw [← h4, List.getElem?_take_of_lt (by omega), Array.getElem?_toList, Array.getElem?_toList] at key
      rw [Nat.zero_add]
      exact key
    · rw [if_neg (by omega), Array.getElem?_eq_none (by rw [Ov.row_size]; omega)]
theorem own_turnG {w w' : World} {e : TypeId} {n s m : Nat} {v : Value} {xs : List Value} (h : w.ownsRow n e s v m xs) (hb : ∀ k, v.ownBlock = some k → bk w' k = bk w k) : w'.ownsRow n e s v m xs := by
  refine ⟨h.1, ?_⟩
  rcases h.2 with h2 | ⟨g, cap, cur, rfl, h3, h4, h5⟩
  · exact .inl h2
  · exact .inr ⟨g, cap, cur, rfl, h3, (show bk w' g = _ from (hb g rfl).trans h4), h5⟩
/-- What the loop holds. -/
structure OS (w wr : World) (l : List UInt8) (gc gb n0 : Nat) (p : Option Nat) (A1 : Option Addr) (c1 n1 : Nat) (ol : List Ov) : Prop where
  pk : PK wr gc gb l p
  pb : PB wr gb l
  row : wr.ownsRow n0 97 2 (.slice A1 n1 c1) n1 (ovF ol)
  bel : Below w.heap.size w wr
  le : n0 ≤ wr.heap.size
theorem OS.turn {w wr w' : World} {l : List UInt8} {gc gb n0 c1 n1 : Nat} {p p' : Option Nat} {A1 : Option Addr} {ol : List Ov} (h : OS w wr l gc gb n0 p A1 c1 n1 ol) (hpk : PK w' gc gb l p') (hg : wr.grownBy w' (some gc)) (h1 : gb < gc) (h2 : gc < n0) (h3 : w.heap.size ≤ gc) : OS w w' l gc gb n0 p' A1 c1 n1 ol := by
  have t := grown_T hg
  refine ⟨hpk, h.pb.keepT t (fun e => by omega), own_turnG h.row fun k hk => t.old k (h.row.lt k hk).2 (fun e => by have := (h.row.lt k hk).1; omega), h.bel.trans (t.below (fun k e => by omega) h.bel.size), Nat.le_trans h.le t.size⟩
theorem OS.more {w wr wb w' : World} {l : List UInt8} {gc gb n0 c1 n1 c2 : Nat} {p : Option Nat} {A1 A2 : Option Addr} {ol : List Ov} {x : Ov} (h : OS w wr l gc gb n0 p A1 c1 n1 ol) (hb : Below wr.heap.size wr wb) (hr : w'.ownsRow n0 97 2 (.slice A2 (n1 + 1) c2) (n1 + 1) (ovF ol ++ x.row.toList)) (hg : wb.grownBy w' (Value.slice A1 n1 c1).ownBlock) (h1 : gb < gc) (h2 : gc < n0) (h3 : w.heap.size ≤ gc) : OS w w' l gc gb n0 p A2 c2 (n1 + 1) (ol ++ [x]) := by
  have t : Tn (fun k => (Value.slice A1 n1 c1).ownBlock = some k) wr w' := (Tn.of (F := fun k => (Value.slice A1 n1 c1).ownBlock = some k) hb).trans (Tn.grown (F := fun k => (Value.slice A1 n1 c1).ownBlock = some k) hg fun k e => e) fun j e => .inl e
  have lo : ∀ k, (Value.slice A1 n1 c1).ownBlock = some k → n0 ≤ k := fun k hk => (h.row.lt k hk).1
  refine ⟨h.pk.keepT t (fun e => by have := lo _ e; omega), h.pb.keepT t (fun e => by have := lo _ e; omega), by rw [ovF_snoc]; exact hr, h.bel.trans (t.below (fun k e => by have := lo _ e; omega) h.bel.size), Nat.le_trans h.le t.size⟩
theorem one_lt (p : Option (List UInt8)) : val (cutB 1 p).1 < 256 := by
  have h1 := val_lt (cutB 1 p).1
  refine Nat.lt_of_lt_of_le h1 (show 256 ^ _ ≤ 256 ^ 1 from Nat.pow_le_pow_right (by decide) ?_)
  cases p with
  | none => simp [cutB]
  | some l =>
    by_cases hb : (1 : Int) < 0 ∨ (l.length : Int) < 1
    · rw [cutB_bad hb]; simp
    · have := cutB_good (n := 1) (l := l) (by omega)
      rw [show ((1 : Nat) : Int) = 1 from rfl] at this
      rw [this, List.length_take]; omega
theorem oget_any (A : Option Addr) (l : List UInt8) (c : Nat) (w : World) (h : Rd w w.heap.size A l) (hA : A = none → l = [] ∧ c = 0) (hl : l.length < 2 ^ 40) (h0 : 0 < w.heap.size) :
    Calls Try.prog 124 #[.slice A l.length c] w fun e w' => GotO l w.heap.size e w' ∧ Below w.heap.size w w' := by
  have CO := Lib.hid (of_PK A l c w h hA (by omega) 0 h0)
  have HLL := Lib.hid hl
  clear h hA h0
  go_enter Try.func124, Try.ntmps124
  go_wp2_with fail
  refine CO.out.mono ?_
  rintro e w1 ⟨gc, gb, rfl, hgc, _, hbc, hgb, hpk, hpb, b1⟩
  have PK1 := Lib.hid hpk; have PB1 := Lib.hid hpb; have B1 := Lib.hid b1
  have B01 : Hid (w.heap.size ≤ w1.heap.size) := Lib.hid b1.size
  have HG : Hid (w.heap.size ≤ gc ∧ gb < gc ∧ (0 < l.length → w.heap.size ≤ gb) ∧ gc < w1.heap.size) := Lib.hid ⟨hgc, hbc, hgb, by obtain ⟨cs, hb⟩ := hpk.obj; exact bk_lt hb⟩
  clear CO hgc hbc hgb hpk hpb b1 hl
  go_wp2_with fail
  go_loopw [2] (fun v wr => ∃ (q : Nat) (A1 : Option Addr) (c1 n1 : Nat) (ol : List Ov), v = .slice A1 n1 c1 ∧ n1 = ol.length ∧ n1 ≤ 64 ∧ q ≤ l.length ∧ Hid (OS w wr l gc gb w1.heap.size (some q) A1 c1 n1 ol) ∧ Hid (LayAt gb q ol ∧ DatAt l gb ol) ∧ Hid (optsG 64 l = (optsG (64 - n1) (l.drop q)).map (ol.map Ov.pl ++ ·))) (fun _ wr => cutN wr gc)
  case atStart => exact ⟨0, none, 0, 0, [], rfl, rfl, by omega, by omega, Lib.hid ⟨PK1.out, PB1.out, World.ownsRow_nil _ _ _ _, B1.out, Nat.le_refl _⟩, Lib.hid ⟨LayAt.nil _ _, fun x hx => by simp at hx⟩, Lib.hid (by simp)⟩
  case round =>
    clear PK1 PB1 B1
    obtain ⟨q, A1, c1, n1, ol, rfl, hn1, hn64, hq, HO, HLD, HOG⟩ := hrel
    have C0 := Lib.hid (pleftK HO.out.pk)
    obtain ⟨R, hR⟩ : ∃ R, R = l.length - q := ⟨_, rfl⟩
    rw [← hR] at C0
    by_cases hlt : q < l.length
    · have d1 : decide ((0 : Int) < (R : Int)) = true := by simp; omega
      have d2 : decide (0 < R) = true := by simp; omega
      have HOG1 := Lib.hid HOG.out
      have CA := Lib.hid (pnum_any gc gb l (some q) 1 wr HO.out.pk HO.out.pb HG.out.2.1)
      obtain ⟨V1, hV1⟩ : ∃ V, V = val (cutB 1 (stOf l (some q))).1 := ⟨_, rfl⟩
      obtain ⟨p1, hp1⟩ : ∃ p, p = posB 1 l (some q) := ⟨_, rfl⟩
      obtain ⟨V2, hV2⟩ : ∃ V, V = val (cutB 1 (stOf l p1)).1 := ⟨_, rfl⟩
      obtain ⟨p2, hp2⟩ : ∃ p, p = posB 1 l p1 := ⟨_, rfl⟩
      obtain ⟨Y, hY⟩ : ∃ Y : Int, Y = (V2 : Int) * 8 - 2 := ⟨_, rfl⟩
      obtain ⟨D, hD⟩ : ∃ D, D = (cutB Y (stOf l p2)).1 := ⟨_, rfl⟩
      obtain ⟨p3, hp3⟩ : ∃ p, p = posB Y l p2 := ⟨_, rfl⟩
      have b1 : V1 < 256 := by rw [hV1]; exact one_lt _
      have b2 : V2 < 256 := by rw [hV2]; exact one_lt _
      have e3 : IntKind.i64.wrap ((V2 : Int) * 8) = (V2 : Int) * 8 := by rw [IntKind.wrap_i64]; omega
      have e4 : IntKind.i64.wrap ((V2 : Int) * 8 - 2) = Y := by rw [IntKind.wrap_i64]; omega
      have NC : Hid ((p3 = none ∧ optsG (64 - n1) (l.drop q) = none) ∨ (n1 = 64 ∧ optsG (64 - n1) (l.drop q) = none) ∨ ∃ m : Nat, n1 < 64 ∧ 0 < m ∧ q + 8 * m ≤ l.length ∧ p3 = some (q + 8 * m) ∧ V1 = (l[q]'hlt).toNat ∧ p2 = some (q + 2) ∧ D = (l.drop (q + 2)).take (8 * m - 2) ∧ optsG (64 - n1) (l.drop q) = (optsG (64 - (n1 + 1)) (l.drop (q + 8 * m))).map fun y => (l[q]'hlt, (l.drop (q + 2)).take (8 * m - 2)) :: y) := Lib.hid (by
        by_cases h64 : n1 = 64
        · right; left
          refine ⟨h64, ?_⟩
          rw [h64, List.drop_eq_getElem_cons hlt]
          rfl
        · obtain ⟨k, hk⟩ : ∃ k, 64 - n1 = k + 1 := ⟨63 - n1, by omega⟩
          have hk' : 64 - (n1 + 1) = k := by omega
          have e5 : nextP l q = p3 := by unfold nextP; rw [← hp1, ← hp2, ← hV2, ← hY, ← hp3]
          rw [hk, hk']
          rcases next_case l q k hlt with ⟨h1, h2⟩ | ⟨m, _, hm, _, hml, hv, h1, h2, h3, h4, h5⟩
          · left; exact ⟨by rw [← e5]; exact h1, h2⟩
          · right; right
            rw [← hp1, ← hV2] at hv
            rw [← hp1, ← hp2] at h3 h4
            rw [← hV1] at h2
            have hY' := hY
            rw [hv] at hY'
            rw [← hY', ← hD] at h3
            exact ⟨m, by omega, hm, hml, by rw [← e5]; exact h1, h2, h4, h3, h5⟩)
      unfold PNum at CA
      rw [show ask 1 = 1 from rfl, ← hV1, ← hp1] at CA
      have CB : Hid (∀ wx, PK wx gc gb l p1 → PB wx gb l → Calls Try.prog 127 #[.pointer (some ⟨gc, 0, none⟩), .int .i64 1] wx fun e w' => e = .returned (.int .u64 (V2 : Int)) ∧ PK w' gc gb l p2 ∧ wx.grownBy w' (some gc)) := Lib.hid fun wx h1 h2 => by
        have h3 := pnum_any gc gb l p1 1 wx h1 h2 HG.out.2.1
        unfold PNum at h3
        rw [show ask 1 = 1 from rfl, ← hV2, ← hp2] at h3
        exact h3
      have CC : Hid (∀ wx, PK wx gc gb l p2 → Calls Try.prog 120 #[.pointer (some ⟨gc, 0, none⟩), .int .i64 Y] wx fun e w' => ∃ A, e = .returned (.slice A D.length D.length) ∧ (0 < D.length → ∃ q, p2 = some q ∧ A = some ⟨gb, q, none⟩) ∧ PK w' gc gb l p3 ∧ wx.grownBy w' (some gc)) := Lib.hid fun wx h1 => by
        refine (pbytes_any gc gb l p2 Y wx h1).mono ?_
        rintro e w' ⟨A, rfl, h2, h3, h4⟩
        rw [← hD] at h2 ⊢
        exact ⟨A, rfl, fun h => by obtain ⟨q, h5, h6, _⟩ := h2 h; exact ⟨q, h5, h6⟩, by rw [hp3]; exact h3, h4⟩
      have eqn : ((n1 : Int) == 64) = decide (n1 = 64) := by rw [Bool.eq_iff_iff]; simp; omega
      have HQ1 := Lib.hid (And.intro hlt hn1)
      have HN4 := Lib.hid hn64
      clear hV1 hp1 hV2 hp2 hY hD hp3 hR HOG hn1
      go_wp2_with fail
      refine C0.out.mono ?_
      rintro e w2 ⟨rfl, rfl⟩
      go_wp2_with fail
      refine CA.out.mono ?_
      rintro e w3 ⟨rfl, k3, g3⟩
      have HO3 := Lib.hid (HO.out.turn k3 g3 HG.out.2.1 HG.out.2.2.2 HG.out.1)
      clear CA C0 k3 g3
      have CD := Lib.hid (CB.out w3 HO3.out.pk HO3.out.pb)
      go_wp2_with fail
      refine CD.out.mono ?_
      rintro e w4 ⟨rfl, k4, g4⟩
      have HO4 := Lib.hid (HO3.out.turn k4 g4 HG.out.2.1 HG.out.2.2.2 HG.out.1)
      clear CB CD k4 g4 HO3
      have CE := Lib.hid (CC.out w4 HO4.out.pk)
      go_wp2_with fail
      refine CE.out.mono ?_
      rintro e w5 ⟨AD, rfl, hAD, k5, g5⟩
      have HO5 := Lib.hid (HO4.out.turn k5 g5 HG.out.2.1 HG.out.2.2.2 HG.out.1)
      have HAD := Lib.hid hAD
      clear CC CE k5 g5 HO4 hAD
      have CF := Lib.hid (pbadK HO5.out.pk)
      go_wp2_with fail
      refine CF.out.mono ?_
      rintro e w6 ⟨rfl, rfl⟩
      clear CF
      rcases NC.out with ⟨e0, h0⟩ | ⟨e0, h0⟩ | ⟨m, hlt64, hm, hml, e0, hv1, hp2, hDD, h0⟩
      · have FX : Hid (GotO l w.heap.size (.returned (.tuple #[.slice none 0 0, .int .i64 4])) w5) := Lib.hid (by
          unfold GotO; rw [HOG1.out, h0]; rfl)
        rw [e0]
        clear HOG1 h0 NC
        go_wp2_with fail
        go_ret2
        exact ⟨FX.out, HO5.out.bel⟩
      · have FX : Hid (GotO l w.heap.size (.returned (.tuple #[.slice none 0 0, .int .i64 4])) w5) := Lib.hid (by
          unfold GotO; rw [HOG1.out, h0]; rfl)
        have d6 : decide (n1 = 64) = true := by simp [e0]
        cases p3 with
        | none =>
          clear HOG1 h0 NC e0
          go_wp2_with fail
          go_ret2
          exact ⟨FX.out, HO5.out.bel⟩
        | some q3 =>
          clear HOG1 h0 NC e0
          go_wp2_with fail
          go_ret2
          exact ⟨FX.out, HO5.out.bel⟩
      · have d6 : decide (n1 = 64) = false := by simp; omega
        obtain ⟨x, hx⟩ : ∃ x : Ov, x = ⟨l[q]'hlt, AD, D, D.length⟩ := ⟨_, rfl⟩
        have hDl : D.length = 8 * m - 2 := by rw [hDD, List.length_take, List.length_drop]; omega
        have hAq : AD = some ⟨gb, q + 2, none⟩ := by
          obtain ⟨q', h1, h2⟩ := HAD.out (by omega)
          rw [hp2] at h1
          cases h1
          exact h2
        have xr : x.row = #[.int .u8 (V1 : Int), .slice AD D.length D.length] := by rw [hx, hv1]; rfl
        have FI : Hid (LayAt gb (q + 8 * m) (ol ++ [x]) ∧ DatAt l gb (ol ++ [x])) := Lib.hid (by
          have h1 := HLD.out.1.snoc (x := x) (o := q + 2) (by rw [hx]; exact hAq) (by rw [hx]) (by omega)
          have hxd : x.d.length = 8 * m - 2 := by rw [hx]; exact hDl
          rw [hxd, show q + 2 + (8 * m - 2) = q + 8 * m by omega] at h1
          refine ⟨h1, fun y hy => ?_⟩
          rcases List.mem_append.1 hy with hy | hy
          · exact HLD.out.2 y hy
          · rw [List.mem_singleton] at hy
            subst hy
            exact ⟨q + 2, by rw [hx]; exact hAq, by rw [hxd, hx]; exact hDD, by rw [hx], by omega⟩)
        have FG : Hid (optsG 64 l = (optsG (64 - (n1 + 1)) (l.drop (q + 8 * m))).map ((ol ++ [x]).map Ov.pl ++ ·)) := Lib.hid (by
          rw [HOG1.out, h0, Option.map_map]
          congr 1
          funext y
          simp [hx, Ov.pl, hDD])
        rw [e0]
        rw [e0] at HO5
        have HX := Lib.hid (show ∃ y : Ov, y = x from ⟨x, rfl⟩)
        have HM := Lib.hid (And.intro hm hml)
        have FL : Hid (n1 + 1 = (ol ++ [x]).length) := Lib.hid (by rw [HQ1.out.2]; simp)
        clear HOG1 h0 NC e0 hv1 hp2 hDD hx hDl hAq hm hml HAD
        have AL : Hid (∀ k, (Value.slice A1 n1 c1).ownBlock = some k → bk (w5.alloc (.cells #[.int .u8 (V1 : Int), .slice AD D.length D.length] 97)) k = bk w5 k) := Lib.hid fun k hk => bk_alloc_past w5 _ k (HO5.out.row.lt k hk).2
        have AC : Hid (∀ j u, [Value.int .u8 (V1 : Int), .slice AD D.length D.length][j]? = some u → (w5.alloc (.cells #[.int .u8 (V1 : Int), .slice AD D.length D.length] 97)).cell? ⟨w5.heap.size, j, none⟩ = some u) := Lib.hid fun j u hu => by
          rw [bk_cell (bk_alloc_at w5 _ _ rfl) j]
          match j, hu with
          | 0, hu => exact hu
          | 1, hu => exact hu
        have A1s : Hid (∀ u ∈ [Value.int .u8 (V1 : Int), .slice AD D.length D.length], u.oneCell' = true) := Lib.hid fun u hu => by
          simp at hu
          rcases hu with rfl | rfl <;> rfl
        have AH : Hid (w1.heap.size ≤ (w5.alloc (.cells #[.int .u8 (V1 : Int), .slice AD D.length D.length] 97)).heap.size) := Lib.hid (by
          have := HO5.out.le
          show _ ≤ (w5.heap.push _).size
          rw [Array.size_push]; omega)
        go_wp2_with (at_builtin; refine wpList_app1 appO rfl _ _ rfl w1.heap.size (.slice A1 n1 c1) n1 (ovF ol) rfl (own_turnG HO5.out.row AL.out) _ 1 rfl [Value.int .u8 (V1 : Int), .slice AD D.length D.length] rfl AC.out A1s.out AH.out (by omega) ?_)
        intro A2 c2 w7 o7 g7 hc7 _
        have OX : Hid (OS w w7 l gc gb w1.heap.size (some (q + 8 * m)) A2 c2 (n1 + 1) (ol ++ [x])) := Lib.hid (HO5.out.more (x := x) ((Below.refl _ _).alloc (Nat.le_refl _) _) (by rw [xr]; exact o7) g7 HG.out.2.1 HG.out.2.2.2 HG.out.1)
        have hdec : cutN w7 gc < cutN wr gc := by
          rw [OX.out.pk.cutN, HO.out.pk.cutN]
          have := HM.out
          omega
        have hle64 : n1 + 1 ≤ 64 := by omega
        have hq8 : q + 8 * m ≤ l.length := HM.out.2
        have HD := Lib.hid hdec
        have HQ8 := Lib.hid hq8
        clear o7 g7 AL AC A1s AH HO5 hdec hq8 xr
        go_wp2_with fail
        exact ⟨⟨_, A2, c2, _, ol ++ [x], rfl, FL.out, hle64, HQ8.out, OX, FI, FG⟩, HD.out⟩
    · have d1 : decide ((0 : Int) < (R : Int)) = false := by simp; omega
      have d2 : decide (0 < R) = false := by simp; omega
      have HN1 := Lib.hid hn1
      have hd : l.drop q = [] := List.drop_of_length_le (by omega)
      have HG0 : Hid (optsG 64 l = some (ol.map Ov.pl)) := Lib.hid (by
        have h1 := HOG.out
        rw [hd, show optsG (64 - n1) [] = some [] by cases 64 - n1 <;> rfl] at h1
        rw [h1]; simp)
      have hrow := HO.out.row
      rw [hn1] at hrow
      obtain ⟨r1, r2, r3, r4⟩ := own_rws hrow
      have CL := Lib.hid (clipO_any A1 n1 c1 (by rw [hn1]; exact r3) wr)
      have hgs : gb < wr.heap.size := by have := HG.out; have := HO.out.le; omega
      have FX : Hid (GotO l w.heap.size (.returned (.tuple #[.slice A1 n1 n1, .int .i64 0])) wr) := Lib.hid (by
        unfold GotO
        rw [HG0.out]
        have hpos : ol ≠ [] → 0 < l.length := fun hne => by
          obtain ⟨x, hx⟩ := List.exists_mem_of_ne_nil _ hne
          obtain ⟨o, _, h2, _, h4⟩ := HLD.out.2 x hx
          rw [h2, List.length_take, List.length_drop] at h4
          omega
        refine ⟨A1, ol, gb, by rw [hn1], rfl, by omega, r2, (fun a e => by have := r4 a e; have := B01.out; omega), ⟨r1, HLD.out.2.ok HO.out.pb hgs HLL.out⟩, fun hne => HG.out.2.2.1 (hpos hne), HLD.out.1.mono hq, fun hne => ?_⟩
        obtain ⟨cur, hb, _⟩ := HO.out.pb (hpos hne)
        exact ⟨cur, hb⟩)
      clear hrow r1 r2 r3 r4 HG0 hd hn1 hR HOG
      go_wp2_with fail
      refine C0.out.mono ?_
      rintro e w2 ⟨rfl, rfl⟩
      go_wp2_with fail
      refine CL.out.mono ?_
      rintro e w3 ⟨rfl, rfl⟩
      go_wp2_with fail
      go_ret2
      exact ⟨FX.out, HO.out.bel⟩
end Go.Proofs.Ytjimmfbjhkoekaa
/- Icmps: options that are got; which method a getting side has. -/
namespace Go.Proofs.Ytjimmfbjhkoekaa
open Go.RowKit
set_option maxRecDepth 100000
set_option maxHeartbeats 1000000
theorem Rd.keepT {F : Nat → Prop} {w w' : World} {g o : Nat} {l : List UInt8} (h : Rd w w.heap.size (some ⟨g, o, none⟩) l) (ht : Tn F w w') (hF : ¬ F g) : Rd w' w'.heap.size (some ⟨g, o, none⟩) l := fun h0 => by
  obtain ⟨b, o', e, hlt, hc⟩ := h h0
  cases e
  exact ⟨g, o, rfl, Nat.lt_of_lt_of_le hlt ht.size, fun j hj => (ht.cell hlt hF _).trans (hc j hj)⟩
theorem Rws.keepT {α : Type} {C : Nat} {row : α → Array Value} {F : Nat → Prop} {w w' : World} {A : Option Addr} {l : List α} (h : Rws C row w w.heap.size A l) (ht : Tn F w w') (hF : ∀ a, A = some a → ¬ F a.block) : Rws C row w' w'.heap.size A l := fun h0 => by
  obtain ⟨g, o, c, t, fr, e, hlt, hb, hc⟩ := h h0
  exact ⟨g, o, c, t, fr, e, Nat.lt_of_lt_of_le hlt ht.size, ht.keep (hF _ e) hb, hc⟩
theorem Ovs.keepT {F : Nat → Prop} {w w' : World} {g q : Nat} {A : Option Addr} {l : List Ov} (h : Ovs w w.heap.size A l) (ht : Tn F w w') (hA : ∀ a, A = some a → ¬ F a.block) (hl : LayAt g q l) (hg : l ≠ [] → ¬ F g) : Ovs w' w'.heap.size A l := by
  refine ⟨h.1.keepT ht hA, fun x hx => ?_⟩
  have h1 := h.2 x hx
  obtain ⟨i, hi, rfl⟩ := List.mem_iff_getElem.1 hx
  obtain ⟨o, e, _⟩ := hl.at' i hi
  refine ⟨?_, h1.nil, h1.le, h1.lt⟩
  have h2 := h1.rd
  rw [e] at h2 ⊢
  exact h2.keepT ht (hg (List.ne_nil_of_mem hx))
def GS.opt (L : List UInt8) : GS → GS
  | .ok q => if (optsG 64 (L.drop q)).isNone then .form else .ok L.length
  | x => x
/-- Options that are got: a value of them, all of memory at n or above. -/
def GotV (n : Nat) (os : List (UInt8 × List UInt8)) (x : Value) (w : World) : Prop :=
  ∃ A ol g q, x = .slice A ol.length ol.length ∧ ol.map Ov.pl = os ∧ ol.length ≤ 64 ∧ (A = none → ol = []) ∧ (∀ a, A = some a → n ≤ a.block) ∧ Ovs w w.heap.size A ol ∧ (ol ≠ [] → n ≤ g) ∧ LayAt g q ol ∧ (ol ≠ [] → Ub w g)
theorem GotV.keepT {F : Nat → Prop} {n : Nat} {os : List (UInt8 × List UInt8)} {x : Value} {w w' : World} (h : GotV n os x w) (ht : Tn F w w') (hF : ∀ k, F k → k < n) : GotV n os x w' := by
  obtain ⟨A, ol, g, q, h1, h2, h3, h4, h5, h6, h7, h8, h9⟩ := h
  exact ⟨A, ol, g, q, h1, h2, h3, h4, h5, h6.keepT ht (fun a e f => by have := h5 a e; have := hF _ f; omega) h8 (fun e f => by have := h7 e; have := hF _ f; omega), h7, h8, fun e => by obtain ⟨cur, hb⟩ := h9 e; exact ⟨cur, ht.keep (fun f => by have := h7 e; have := hF _ f; omega) hb⟩⟩
theorem GotV.mono {n m : Nat} {os : List (UInt8 × List UInt8)} {x : Value} {w : World} (h : GotV n os x w) (hm : m ≤ n) : GotV m os x w := by
  obtain ⟨A, ol, g, q, h1, h2, h3, h4, h5, h6, h7, h8, h9⟩ := h
  exact ⟨A, ol, g, q, h1, h2, h3, h4, fun a e => Nat.le_trans hm (h5 a e), h6, fun e => Nat.le_trans hm (h7 e), h8, h9⟩
def optOk (L : List UInt8) (n : Nat) (st : GS) (x : Value) (w : World) : Prop := ∃ os, GotV n os x w ∧ ∀ q os', st = .ok q → optsG 64 (L.drop q) = some os' → os = os'
theorem GotV.nil (n : Nat) (w : World) : GotV n [] (.slice none 0 0) w := ⟨none, [], 0, 0, rfl, rfl, by simp, fun _ => rfl, (fun a e => by cases e), ⟨Rws.nil, fun x hx => by simp at hx⟩, fun e => absurd rfl e, LayAt.nil _ _, fun e => absurd rfl e⟩
theorem goptions (gg gc gb b o : Nat) (L : List UInt8) (st : GS) (cur : Array Value) (t : TypeId) (w : World) (h : GU w gg gc gb L st) (hx : Bx w gg gc gb b o cur t) (hL : L.length < 2 ^ 40) :
    Calls Try.prog 116 #[.pointer (some ⟨gg, 0, none⟩), .pointer (some ⟨b, o, none⟩)] w fun e w' => ∃ x, e = .returned (.tuple #[]) ∧ optOk L w.heap.size st x w' ∧ Got1 w gg gc gb b o L (st.opt L) cur t x w' := by
  obtain ⟨p, hp, hst⟩ := h.pk
  have hpos : 0 < w.heap.size := by have := h.lt; omega
  have CN := prest_any gc gb L p w hp
  have HX := Lib.hid hx
  have c0 : w.cell? ⟨gg, 0, none⟩ = some (.pointer (some ⟨gc, 0, none⟩)) := (bk_cell h.box 0).trans rfl
  have lg := bk_lt h.box
  obtain ⟨D, hD⟩ : ∃ D, D = (stOf L p).getD [] := ⟨_, rfl⟩
  have C : Hid (Calls Try.prog 125 #[.pointer (some ⟨gc, 0, none⟩)] w fun e w' => ∃ A, e = .returned (.slice A D.length D.length) ∧ Rd w' w'.heap.size A D ∧ (A = none → D = [] ∧ D.length = 0) ∧ GU w' gg gc gb L (st.rst L) ∧ Tn (fun j => j = gc) w w') := Lib.hid (by
    refine CN.mono ?_
    rintro e w' ⟨A, rfl, h0, h1, h2⟩
    have t1 := grown_T h2
    have hcut : (cutB (((stOf L p).getD []).length : Int) (stOf L p)).1 = D := by
      rw [hD]
      cases p with
      | none => rfl
      | some q =>
        have e2 : cutB (((stOf L (some q)).getD []).length : Int) (stOf L (some q)) = ((L.drop q).take (L.drop q).length, some ((L.drop q).drop (L.drop q).length)) := cutB_good (n := (L.drop q).length) (Nat.le_refl _)
        rw [e2]
        simp only [stOf, Option.map_some, Option.getD_some, List.take_length]
    rw [hcut] at h0 ⊢
    have hpb := h.pb.keepT t1 (fun e => by have := h.bc; omega)
    have hgs : gb < w'.heap.size := by have := h.bc; have := h.lt; have := t1.size; omega
    refine ⟨A, rfl, fun hl => ?_, fun e => ?_, ⟨?_, ⟨_, h1, fun q e => ?_⟩, hpb, h.bc, h.cg, h.bg⟩, t1⟩
    · obtain ⟨q, _, e2, _, _, e3⟩ := h0 hl
      rw [e2, e3]
      exact hpb.rd hgs (by rw [← e3]; exact hl)
    · by_cases hl : 0 < D.length
      · obtain ⟨q, _, e2, _⟩ := h0 hl
        rw [e] at e2; cases e2
      · exact ⟨List.eq_nil_of_length_eq_zero (by omega), by omega⟩
    · rw [show (st.rst L).err = st.err by cases st <;> rfl]
      exact t1.keep h.cg.symm h.box
    · cases st with
      | ok q0 =>
        have e1 := hst q0 rfl
        subst e1
        have hq := hp.le q0 rfl
        have e' : L.length = q := by simpa [GS.rst] using e
        have e0 : ((stOf L (some q0)).getD []).length = L.length - q0 := by simp [stOf]
        rw [e0]
        simp only [posB]
        rw [if_neg (by omega)]
        simp
        omega
      | short => cases e
      | form => cases e)
  have hDst : ∀ q, st = .ok q → D = L.drop q := fun q e => by rw [hD, hst q e]; rfl
  have hDl : D.length < 2 ^ 40 := by
    rw [hD]
    cases p with
    | none => simp [stOf]
    | some q => simp [stOf]; omega
  have HDS := Lib.hid (And.intro hDst hDl)
  have HPOS := Lib.hid hpos
  clear h hp hst CN hx hD hDst hDl hpos
  go_enter Try.func116, Try.ntmps116
  go_wp2_with fail
  refine C.out.mono ?_
  rintro e w1 ⟨A, rfl, hr, hn, h1, t1⟩
  have CO := Lib.hid (oget_any A D D.length w1 hr hn HDS.out.2 (Nat.lt_of_lt_of_le HPOS.out t1.size))
  have H1 := Lib.hid (And.intro h1 t1)
  clear hr hn h1 t1 c0 C
  go_wp2_with fail
  refine CO.out.mono ?_
  rintro e w2 ⟨hgot, b2⟩
  have B2 := Lib.hid b2
  clear b2 CO
  have HU := Lib.hid (H1.out.1.below B2.out)
  have TT : Hid (Tn (fun j => j = gc) w w2) := Lib.hid (H1.out.2.next B2.out)
  have K1 := HU.out.box
  rw [show (st.rst L).err = st.err by cases st <;> rfl] at K1
  have KK := Lib.hid K1
  have HS : Hid (w.heap.size ≤ w1.heap.size) := Lib.hid H1.out.2.size
  unfold GotO at hgot
  cases hos : optsG 64 D with
  | none =>
    rw [hos] at hgot
    subst hgot
    have CF := Lib.hid (gfails gg (.pointer (some ⟨gc, 0, none⟩)) st.err 4 true w2 KK.out)
    have HOS := Lib.hid hos
    clear hos K1
    go_wp2_with fail
    refine CF.out.mono ?_
    rintro e w3 ⟨rfl, k3, t3⟩
    have hst3 : fal true st.err 4 = (st.opt L).err := by
      cases st with
      | ok q => simp only [GS.opt]; rw [← HDS.out.1 q rfl, HOS.out]; rfl
      | short => rfl
      | form => rfl
    have hg3 : GU w3 gg gc gb L (st.opt L) := by
      obtain ⟨p2, q2, q3⟩ := HU.out.pk
      refine ⟨by rw [← hst3]; exact k3, ⟨p2, q2.keepT t3 HU.out.cg, fun q e => ?_⟩, HU.out.pb.keepT t3 HU.out.bg, HU.out.bc, HU.out.cg, HU.out.bg⟩
      cases st with
      | ok q0 => simp only [GS.opt] at e; rw [← HDS.out.1 q0 rfl, HOS.out] at e; cases e
      | short => cases e
      | form => cases e
    have t3' : Tn (Fg gg gc) w w3 := (TT.out.mono fun j e => .inr e).trans t3 fun j e => .inl (.inl e)
    have F := Lib.hid (fun x => hg3.stored t3' HX.out x)
    obtain ⟨q1, q2, u, q3⟩ := (HX.out.turn t3').cells
    have HV : Hid (∀ w', optOk L w.heap.size st (.slice none 0 0) w') := Lib.hid fun w' => ⟨[], GotV.nil _ _, fun q os e hos' => by
      rw [← HDS.out.1 q e, HOS.out] at hos'; cases hos'⟩
    clear CF k3 t3 hst3 hg3 t3' HOS
    go_wp2_with fail
    go_end0
    exact ⟨_, rfl, HV.out _, F.out _⟩
  | some os =>
    rw [hos] at hgot
    obtain ⟨A', ol, gb', rfl, h3, h4, h5, h6, h7, h8, h9, hub⟩ := hgot
    have CF := Lib.hid (gfails gg (.pointer (some ⟨gc, 0, none⟩)) st.err 0 false w2 KK.out)
    have HOS := Lib.hid hos
    have HGV : Hid (GotV w1.heap.size os (.slice A' ol.length ol.length) w2) := Lib.hid ⟨A', ol, gb', _, rfl, h3, h4, h5, h6, h7, h8, h9, hub⟩
    clear hos K1 h3 h4 h5 h6 h7 h8 h9 hub
    go_wp2_with fail
    refine CF.out.mono ?_
    rintro e w3 ⟨rfl, k3, t3⟩
    have hst3 : fal false st.err 0 = (st.opt L).err := by
      cases st with
      | ok q => simp only [GS.opt]; rw [← HDS.out.1 q rfl, HOS.out]; rfl
      | short => rfl
      | form => rfl
    have hg3 : GU w3 gg gc gb L (st.opt L) := by
      obtain ⟨p2, q2, q3⟩ := HU.out.pk
      refine ⟨by rw [← hst3]; exact k3, ⟨p2, q2.keepT t3 HU.out.cg, fun q e => ?_⟩, HU.out.pb.keepT t3 HU.out.bg, HU.out.bc, HU.out.cg, HU.out.bg⟩
      cases st with
      | ok q0 => simp only [GS.opt] at e; rw [← HDS.out.1 q0 rfl, HOS.out] at e; exact q3 q e
      | short => cases e
      | form => cases e
    have t3' : Tn (Fg gg gc) w w3 := (TT.out.mono fun j e => .inr e).trans t3 fun j e => .inl (.inl e)
    have F := Lib.hid (fun x => hg3.stored t3' HX.out x)
    obtain ⟨q1, q2, u, q3⟩ := (HX.out.turn t3').cells
    have HLT : Hid (gg < w.heap.size ∧ b < w.heap.size) := Lib.hid ⟨lg, bk_lt HX.out.kb⟩
    have HV : Hid (∀ v, optOk L w.heap.size st (.slice A' ol.length ol.length) (w3.setCell ⟨b, o, none⟩ v)) := Lib.hid fun v => by
      refine ⟨os, ?_, fun q os' e hos' => by rw [← HDS.out.1 q e, HOS.out] at hos'; cases hos'; rfl⟩
      exact ((HGV.out.mono HS.out).keepT t3 (fun k e => by subst e; exact HLT.out.1)).keepT (F := fun j => j = b) ((Tn.refl _ _).set (.inl rfl)) (fun k e => by subst e; exact HLT.out.2)
    clear CF k3 t3 hst3 hg3 t3' HOS
    go_wp2_with fail
    go_end0
    exact ⟨_, rfl, HV.out _, F.out _⟩
@[go_sem] theorem mg_one (gp : Nat) (w : World) : (method 260 80 (.pointer (some ⟨gp, 0, none⟩)) "sojourner/icmps.one").run Try.prog w = .ok (115, .pointer (some ⟨gp, 0, none⟩)) w := by kernel_rfl
@[go_sem] theorem ng_one (gp : Nat) (w : World) : (nilAhead 260 80 (.pointer (some ⟨gp, 0, none⟩)) "sojourner/icmps.one").run Try.prog w = .ok (some false) w := by kernel_rfl
@[go_sem] theorem mg_two (gp : Nat) (w : World) : (method 260 80 (.pointer (some ⟨gp, 0, none⟩)) "sojourner/icmps.two").run Try.prog w = .ok (119, .pointer (some ⟨gp, 0, none⟩)) w := by kernel_rfl
@[go_sem] theorem ng_two (gp : Nat) (w : World) : (nilAhead 260 80 (.pointer (some ⟨gp, 0, none⟩)) "sojourner/icmps.two").run Try.prog w = .ok (some false) w := by kernel_rfl
@[go_sem] theorem mg_four (gp : Nat) (w : World) : (method 260 80 (.pointer (some ⟨gp, 0, none⟩)) "sojourner/icmps.four").run Try.prog w = .ok (113, .pointer (some ⟨gp, 0, none⟩)) w := by kernel_rfl
@[go_sem] theorem ng_four (gp : Nat) (w : World) : (nilAhead 260 80 (.pointer (some ⟨gp, 0, none⟩)) "sojourner/icmps.four").run Try.prog w = .ok (some false) w := by kernel_rfl
@[go_sem] theorem mg_nought (gp : Nat) (w : World) : (method 260 80 (.pointer (some ⟨gp, 0, none⟩)) "sojourner/icmps.nought").run Try.prog w = .ok (114, .pointer (some ⟨gp, 0, none⟩)) w := by kernel_rfl
@[go_sem] theorem ng_nought (gp : Nat) (w : World) : (nilAhead 260 80 (.pointer (some ⟨gp, 0, none⟩)) "sojourner/icmps.nought").run Try.prog w = .ok (some false) w := by kernel_rfl
@[go_sem] theorem mg_addr (gp : Nat) (w : World) : (method 260 80 (.pointer (some ⟨gp, 0, none⟩)) "sojourner/icmps.addr").run Try.prog w = .ok (111, .pointer (some ⟨gp, 0, none⟩)) w := by kernel_rfl
@[go_sem] theorem ng_addr (gp : Nat) (w : World) : (nilAhead 260 80 (.pointer (some ⟨gp, 0, none⟩)) "sojourner/icmps.addr").run Try.prog w = .ok (some false) w := by kernel_rfl
@[go_sem] theorem mg_count (gp : Nat) (w : World) : (method 260 80 (.pointer (some ⟨gp, 0, none⟩)) "sojourner/icmps.count").run Try.prog w = .ok (112, .pointer (some ⟨gp, 0, none⟩)) w := by kernel_rfl
@[go_sem] theorem ng_count (gp : Nat) (w : World) : (nilAhead 260 80 (.pointer (some ⟨gp, 0, none⟩)) "sojourner/icmps.count").run Try.prog w = .ok (some false) w := by kernel_rfl
@[go_sem] theorem mg_over (gp : Nat) (w : World) : (method 260 80 (.pointer (some ⟨gp, 0, none⟩)) "sojourner/icmps.over").run Try.prog w = .ok (117, .pointer (some ⟨gp, 0, none⟩)) w := by kernel_rfl
@[go_sem] theorem ng_over (gp : Nat) (w : World) : (nilAhead 260 80 (.pointer (some ⟨gp, 0, none⟩)) "sojourner/icmps.over").run Try.prog w = .ok (some false) w := by kernel_rfl
@[go_sem] theorem mg_rest (gp : Nat) (w : World) : (method 260 80 (.pointer (some ⟨gp, 0, none⟩)) "sojourner/icmps.rest").run Try.prog w = .ok (118, .pointer (some ⟨gp, 0, none⟩)) w := by kernel_rfl
@[go_sem] theorem ng_rest (gp : Nat) (w : World) : (nilAhead 260 80 (.pointer (some ⟨gp, 0, none⟩)) "sojourner/icmps.rest").run Try.prog w = .ok (some false) w := by kernel_rfl
@[go_sem] theorem mg_options (gp : Nat) (w : World) : (method 260 80 (.pointer (some ⟨gp, 0, none⟩)) "sojourner/icmps.options").run Try.prog w = .ok (116, .pointer (some ⟨gp, 0, none⟩)) w := by kernel_rfl
@[go_sem] theorem ng_options (gp : Nat) (w : World) : (nilAhead 260 80 (.pointer (some ⟨gp, 0, none⟩)) "sojourner/icmps.options").run Try.prog w = .ok (some false) w := by kernel_rfl
end Go.Proofs.Ytjimmfbjhkoekaa
/- Icmps: a list of addresses, got. -/
namespace Go.Proofs.Ytjimmfbjhkoekaa
open Go.RowKit
set_option maxRecDepth 100000
set_option maxHeartbeats 1000000
theorem GS.adv_adv (L : List UInt8) (st : GS) (a b : Nat) : (st.adv L a).adv L b = st.adv L (a + b) := by
  cases st with
  | ok q =>
    simp only [GS.adv]
    by_cases h : q + a ≤ L.length
    · rw [if_pos h]
      simp only
      rw [show q + a + b = q + (a + b) by omega]
    · rw [if_neg h, if_neg (by omega)]
  | short => rfl
  | form => rfl
theorem GU.adv0 {w : World} {gg gc gb : Nat} {L : List UInt8} {st : GS} (h : GU w gg gc gb L st) : st.adv L 0 = st := by
  obtain ⟨p, hp, hst⟩ := h.pk
  cases st with
  | ok q =>
    have := hp.le q (hst q rfl)
    simp only [GS.adv]
    rw [if_pos (by omega)]
    rfl
  | short => rfl
  | form => rfl
theorem flat_set (zs : List (List UInt8)) (h16 : ∀ z ∈ zs, z.length = 16) (k : Nat) (hk : k < zs.length) (z : List UInt8) (hz : z.length = 16) : spl (zs.flatten.map B) (k * 16) (z.map B) = (((zs.set k z).flatten).map B).toArray := by
  have e1 : zs = zs.take k ++ zs[k] :: zs.drop (k + 1) := by rw [List.getElem_cons_drop hk, List.take_append_drop]
  have l1 : (zs.take k).flatten.length = k * 16 := by
    rw [flat16 fun z hz => h16 z (List.mem_of_mem_take hz), List.length_take]; congr 1; omega
  have l2 : (zs[k]).length = 16 := h16 _ (List.getElem_mem hk)
  have e2 : zs.set k z = zs.take k ++ z :: zs.drop (k + 1) := by rw [List.set_eq_take_append_cons_drop, if_pos hk]
  have e3 : zs.flatten = (zs.take k).flatten ++ (zs[k] ++ (zs.drop (k + 1)).flatten) := by
    conv => lhs; rw [e1]
    rw [List.flatten_append, List.flatten_cons]
  unfold spl
  rw [e2, List.flatten_append, List.flatten_cons, e3]
  have m1 : ((zs.take k).flatten.map B).length = k * 16 := by rw [List.length_map, l1]
  have t1 : (((zs.take k).flatten ++ (zs[k] ++ (zs.drop (k + 1)).flatten)).map B).take (k * 16) = (zs.take k).flatten.map B := by
    rw [List.map_append, List.take_left' m1]
  have t2 : (((zs.take k).flatten ++ (zs[k] ++ (zs.drop (k + 1)).flatten)).map B).drop (k * 16 + (z.map B).length) = (zs.drop (k + 1)).flatten.map B := by
    rw [List.map_append, List.map_append, ← List.append_assoc]
    refine List.drop_left' ?_
    rw [List.length_append, m1, List.length_map, List.length_map, l2, hz]
  rw [t1, t2]
  simp
/-- What getting a list of addresses leaves. -/
def Got2 (w : World) (gg gc gb bl ol : Nat) (L : List UInt8) (st bs : GS) (cur : Array Value) (t : TypeId) (P : Array Value → Prop) (w' : World) : Prop :=
  ∃ (cur' : Array Value) (N : Nat) (zs : List (List UInt8)) (go : Nat), CntN L st N ∧ P cur' ∧ cur'.size = cur.size ∧ zs.length = N ∧ (∀ z ∈ zs, z.length = 16) ∧ (∀ i (h : i < zs.length), adrOk L (bs.adv L (16 * i)) zs[i]) ∧ w.heap.size ≤ go ∧
    bk w' go = some (.cells (zs.flatten.map B).toArray 23 (0, 0)) ∧ GU w' gg gc gb L (bs.adv L (16 * N)) ∧ bk w' bl = some (.cells (cur'.setIfInBounds ol (.slice (some ⟨go, 0, none⟩) N N)) t (0, 0)) ∧ Tn (fun j => Fg gg gc j ∨ j = bl) w w'
structure AG (w4 wr : World) (gg gc gb go bl k N : Nat) (L : List UInt8) (bs : GS) (zs : List (List UInt8)) (cur' : Array Value) (t : TypeId) : Prop where
  gu : GU wr gg gc gb L (bs.adv L (16 * k))
  kb : bk wr go = some (.cells (zs.flatten.map B).toArray 23 (0, 0))
  ln : zs.length = N
  l16 : ∀ z ∈ zs, z.length = 16
  ok : ∀ i (h : i < zs.length), i < k → adrOk L (bs.adv L (16 * i)) zs[i]
  bl : bk wr bl = some (.cells cur' t (0, 0))
  tn : Tn (fun j => Fg gg gc j ∨ j = go) w4 wr
theorem AG.next {w4 wr w' : World} {gg gc gb go bl k N : Nat} {L : List UInt8} {bs : GS} {zs : List (List UInt8)} {cur' : Array Value} {t : TypeId} {z : List UInt8} (h : AG w4 wr gg gc gb go bl k N L bs zs cur' t) (hk : k < N) (hb1 : bl ≠ go) (hb2 : ¬ Fg gg gc bl) (hz : z.length = 16) (hok : adrOk L (bs.adv L (16 * k)) z) (hg : Got16 wr gg gc gb go (k * 16) L ((bs.adv L (16 * k)).adv L 16) (zs.flatten.map B).toArray 23 z w') : AG w4 w' gg gc gb go bl (k + 1) N L bs (zs.set k z) cur' t := by
  obtain ⟨h1, h2, h3⟩ := hg
  have hkz : k < zs.length := by rw [h.ln]; exact hk
  refine ⟨?_, ?_, by rw [List.length_set, h.ln], fun y hy => ?_, fun i hi hik => ?_, h3.keep (fun e => e.elim hb2 hb1) h.bl, h.tn.trans h3 fun j e => .inl e⟩
  · rw [GS.adv_adv] at h1
    exact h1
  · rw [h2, flat_set zs h.l16 k hkz z hz]
  · rcases List.mem_or_eq_of_mem_set hy with q | q
    · exact h.l16 y q
    · rw [q]; exact hz
  · by_cases e : i = k
    · subst e
      rw [List.getElem_set_self]
      exact hok
    · rw [List.getElem_set_ne (fun e' => e e'.symm)]
      exact h.ok i (by rw [List.length_set] at hi; exact hi) (by omega)
theorem addrs_get (gg gc gb bl ol : Nat) (f : FuncId) (cap : Array Value) (P : Array Value → Prop) (bs : GS) (L : List UInt8) (st : GS) (cur : Array Value) (t : TypeId) (w : World)
    (h : GU w gg gc gb L st) (hx : Bx w gg gc gb bl ol cur t) (hc : cur[ol]? = some (.slice none 0 0))
    (hE : ∀ w, (callFunc f cap).run Try.prog w = .ok (.enter f cap) w)
    (hcl : ∀ W, GU W gg gc gb L (st.cnt L) → bk W bl = some (.cells cur t (0, 0)) → Tn (Fg gg gc) w W → Calls Try.prog f cap W fun e w' => e = .returned (.tuple #[]) ∧ ∃ cur', P cur' ∧ cur'.size = cur.size ∧ cur'[ol]? = some (.slice none 0 0) ∧ GU w' gg gc gb L bs ∧ bk w' bl = some (.cells cur' t (0, 0)) ∧ Tn (fun j => Fg gg gc j ∨ j = bl) W w') :
    Calls Try.prog 61 #[sideG gg, .pointer (some ⟨bl, ol, none⟩), .func (.func f) #[] cap] w fun e w' => e = .returned (.tuple #[]) ∧ Got2 w gg gc gb bl ol L st bs cur t P w' := by
  have c0 : w.drew.cell? ⟨bl, ol, none⟩ = some (.slice none 0 0) := by rw [show w.drew.cell? ⟨bl, ol, none⟩ = w.cell? ⟨bl, ol, none⟩ from rfl, bk_cell hx.kb, hc]
  have lb : bl < w.drew.heap.size := bk_lt hx.kb
  have HX := Lib.hid hx; have HC := Lib.hid hc; have HCL := Lib.hid hcl
  have BD : Hid (Below w.heap.size w w.drew) := Lib.hid (by (repeat (first | exact Below.refl _ _ | assumption | refine Below.drew ?_ | refine bdrewN ?_ _ | refine Below.alloc ?_ (by first | omega | (simp <;> omega) | (simp only [World.size_alloc] <;> omega)) _ | refine below_setRow ?_ (by first | omega | (simp <;> omega)) _ | refine Below.setCell ?_ (by first | omega | (simp <;> omega)) _)))
  have C := Lib.hid (gcount gg gc gb 0 L st w.drew (h.below BD.out))
  have HK : Hid (∀ {w1 : World}, Tn (Fg gg gc) w.drew w1 → bk w1 bl = some (.cells cur t (0, 0)) ∧ w1.cell? ⟨bl, ol, none⟩ = some (.slice none 0 0)) := Lib.hid fun t1 => by
    have kb := t1.keep (fun e => e.elim HX.out.n1 HX.out.n2) (show bk w.drew bl = _ from HX.out.kb)
    exact ⟨kb, by rw [bk_cell kb, HC.out]⟩
  clear h hx hc hcl
  go_enter Try.func61, Try.ntmps61
  go_upto_region 0 with fail
  go_region_held3 (fun w' => w'.cell? ⟨bl, ol, none⟩ = some (.slice none 0 0)) (first | assumption | go_keep)
    ((go_at_call 112; with_reducible refine C.out.mono ?_; rintro e w1 ⟨N, rfl, hN, h1, t1⟩; obtain ⟨kb, c2⟩ := HK.out t1; have K1 := Lib.hid (And.intro h1 (And.intro kb t1)); have HN := Lib.hid hN; clear hN h1 t1 kb C))
  have TD : Hid (Tn (Fg gg gc) w w1) := Lib.hid ((Tn.of (F := Fg gg gc) BD.out).trans K1.out.2.2 fun j e => .inl e)
  have CB := Lib.hid (HCL.out w1 K1.out.1 K1.out.2.1 TD.out)
  have lb1 : bl < w1.heap.size := bk_lt K1.out.2.1
  clear c0 lb BD HK HCL
  go_wp2_with fail
  refine CB.out.mono ?_
  rintro e w2 ⟨rfl, cur', hP, hsz, hc', h2, kb2, t2⟩
  have T2 : Hid (Tn (fun j => Fg gg gc j ∨ j = bl) w w2) := Lib.hid ((TD.out.mono fun j e => .inl e).trans t2 fun j e => .inl e)
  have c3 : w2.cell? ⟨bl, ol, none⟩ = some (.slice none 0 0) := by rw [bk_cell kb2, hc']
  have lb2 : bl < w2.heap.size := bk_lt kb2
  have HP := Lib.hid (And.intro hP (And.intro hsz hc'))
  have K2 := Lib.hid (And.intro h2 kb2)
  have hN20 : (N : Int) ≤ 1048576 := by have := HN.out.1; omega
  clear c2 hP hsz hc' h2 kb2 t2 CB K1 lb1
  go_upto_region 3 with fail
  obtain ⟨go, hgo⟩ : ∃ g, g = w2.heap.size := ⟨_, rfl⟩
  have k3 : bk (w2.alloc (.cells (Array.replicate (N * 16) (B 0)) 23)) go = some (.cells (Array.replicate (N * 16) (B 0)) 23 (0, 0)) := bk_alloc_at _ _ _ hgo
  have b3 : Below w2.heap.size w2 (w2.alloc (.cells (Array.replicate (N * 16) (B 0)) 23)) := (by (repeat (first | exact Below.refl _ _ | assumption | refine Below.drew ?_ | refine bdrewN ?_ _ | refine Below.alloc ?_ (by first | omega | (simp <;> omega) | (simp only [World.size_alloc] <;> omega)) _ | refine below_setRow ?_ (by first | omega | (simp <;> omega)) _ | refine Below.setCell ?_ (by first | omega | (simp <;> omega)) _)))
  have c4 : (w2.alloc (.cells (Array.replicate (N * 16) (B 0)) 23)).cell? ⟨bl, ol, none⟩ = some (.slice none 0 0) := (b3.cell (p := ⟨bl, ol, none⟩) lb2).trans c3
  have lb3 := Nat.lt_of_lt_of_le lb2 b3.size
  have G3 := Lib.hid (K2.out.1.below b3)
  have KB3 := Lib.hid (bk_keep b3 lb2 K2.out.2)
  have T3 := Lib.hid (T2.out.next b3)
  have HGO : Hid (gg ≠ go ∧ gc ≠ go ∧ gb ≠ go ∧ bl ≠ go ∧ w.heap.size ≤ go) := Lib.hid (by have h1 := K2.out.1.lt; have h2 := K2.out.1.bc; have h3 := T2.out.size; omega)
  rw [← hgo]
  clear b3 hgo K2 c3 lb2 T2 TD
  generalize w2.alloc (.cells (Array.replicate (N * 16) (B 0)) 23) = w3 at *
  obtain ⟨Z0, hZ0⟩ : ∃ Z, Z = Array.replicate (N * 16) (B 0) := ⟨_, rfl⟩
  rw [← hZ0] at k3
  have HSP : Hid (spl Z0.toList 0 [] = Z0) := Lib.hid (by simp [spl])
  have hm0 : Nat.min 0 N = 0 := Nat.zero_min N
  have CP : Hid (([] : List Value).length = Nat.min 0 N * 16 ∧ (0 < Nat.min 0 N → some (⟨go, 0, none⟩ : Addr) = some ⟨go, 0, none⟩ ∧ ∃ ad, (none : Option Addr) = some ad ∧ ∀ j v, ([] : List Value)[j]? = some v → w3.cell? (ad.add j) = some v)) := Lib.hid ⟨by rw [hm0]; rfl, fun h0 => by rw [hm0] at h0; omega⟩
  have HFI : Hid (0 + ([] : List Value).length ≤ Z0.size ∧ ∀ v ∈ ([] : List Value), v.oneCell' = true) := Lib.hid ⟨by simp, fun v hv => by simp at hv⟩
  have HZ : Hid (Z0 = (((List.replicate N (List.replicate 16 (0 : UInt8))).flatten).map B).toArray) := Lib.hid (by
    rw [hZ0]
    apply Array.ext'
    rw [List.flatten_replicate_replicate, List.map_replicate, Array.toList_replicate])
  clear hZ0
  go_wp2_with (with_reducible refine wpList_copyS rfl _ _ _ _ rfl 23 16 Try.underlying30 (by kernel_rfl) (some ⟨go, 0, none⟩) none N N 0 0 rfl rfl go 0 _ _ k3 [] CP.out.1 CP.out.2 HFI.out.1 HFI.out.2 ?_)
  rw [HSP.out]
  have G4 := Lib.hid (G3.out.keep (F := fun k => k = go) ((Tn.refl _ _).setRow (c := Z0) (.inl rfl)) (fun e => HGO.out.1 e) (fun e => HGO.out.2.1 e) (fun e => HGO.out.2.2.1 e))
  have k4 : bk (w3.setRow go Z0) go = some (.cells Z0 23 (0, 0)) := by rw [bk_setRow_same, k3]; rfl
  have KB4 : Hid (bk (w3.setRow go Z0) bl = some (.cells cur' t (0, 0))) := Lib.hid (by rw [bk_setRow_other _ _ _ _ HGO.out.2.2.2.1]; exact KB3.out)
  have T4 : Hid (Tn (fun j => Fg gg gc j ∨ j = bl) w (w3.setRow go Z0)) := Lib.hid (T3.out.setRow (.inr HGO.out.2.2.2.2))
  have K4 : Hid (bk (w3.setRow go Z0) go = some (.cells (((List.replicate N (List.replicate 16 (0 : UInt8))).flatten).map B).toArray 23 (0, 0))) := Lib.hid (by rw [k4, HZ.out])
  clear k3 G3 CP HSP HFI c4 lb3 k4 KB3 T3 HZ hm0
  generalize w3.setRow go Z0 = w4 at *
  have A0 : Hid (AG w4 w4 gg gc gb go bl 0 N L bs (List.replicate N (List.replicate 16 (0 : UInt8))) cur' t) := Lib.hid ⟨by rw [Nat.mul_zero, G4.out.adv0]; exact G4.out, K4.out, List.length_replicate .., fun z hz => by rw [List.eq_of_mem_replicate hz]; rfl, fun i _ h => absurd h (Nat.not_lt_zero _), KB4.out, Tn.refl _ _⟩
  go_loopw [29] (fun i wr => ∃ (k : Nat) (zs : List (List UInt8)), k ≤ N ∧ i = .int .i64 (k : Int) ∧ Hid (AG w4 wr gg gc gb go bl k N L bs zs cur' t)) (fun i _ => N - (intOf i).toNat)
  case atStart => exact ⟨0, _, by omega, rfl, A0⟩
  case round =>
    clear A0 K4 KB4
    obtain ⟨k, zs, hk, rfl, AR⟩ := hrel
    by_cases hlt : k < N
    · have d1 : decide ((k : Int) < (N : Int)) = true := by simp; omega
      have hkz : k < zs.length := by rw [AR.out.ln]; exact hlt
      have bd : Below wr.heap.size wr wr.drew := (by (repeat (first | exact Below.refl _ _ | assumption | refine Below.drew ?_ | refine bdrewN ?_ _ | refine Below.alloc ?_ (by first | omega | (simp <;> omega) | (simp only [World.size_alloc] <;> omega)) _ | refine below_setRow ?_ (by first | omega | (simp <;> omega)) _ | refine Below.setCell ?_ (by first | omega | (simp <;> omega)) _)))
      have HFL := flat16 AR.out.l16
      have C := Lib.hid (gaddr gg gc gb go (k * 16) zs[k] L (bs.adv L (16 * k)) (zs.flatten.map B).toArray 23 wr.drew (AR.out.gu.below bd)
        ⟨AR.out.kb, by simp only [List.size_toArray, List.length_map]; rw [HFL]; omega, HGO.out.1.symm, HGO.out.2.1.symm, HGO.out.2.2.1.symm⟩
        (by simp only [List.size_toArray, List.length_map]; rw [HFL]; omega) (AR.out.l16 _ (List.getElem_mem hkz)) (by rw [flat_set zs AR.out.l16 k hkz _ (AR.out.l16 _ (List.getElem_mem hkz)), List.set_getElem_self]))
      have HLK := Lib.hid hlt
      clear hkz HFL bd
      go_upto_region 7 with fail
      go_region_held3 (fun w' => True) (first | assumption | go_keep) ((go_at_call 111; with_reducible refine C.out.mono ?_; rintro e w6 ⟨z, hz, rfl, hok, hg⟩; have HG := Lib.hid (And.intro hz (And.intro hok hg)); clear hz hok hg C))
      have P7 : Hid (AG w4 w6 gg gc gb go bl (k + 1) N L bs (zs.set k z) cur' t) := Lib.hid (by
        have h0 : AG w4 wr.drew gg gc gb go bl k N L bs zs cur' t := ⟨AR.out.gu.below (by (repeat (first | exact Below.refl _ _ | assumption | refine Below.drew ?_ | refine bdrewN ?_ _ | refine Below.alloc ?_ (by first | omega | (simp <;> omega) | (simp only [World.size_alloc] <;> omega)) _ | refine below_setRow ?_ (by first | omega | (simp <;> omega)) _ | refine Below.setCell ?_ (by first | omega | (simp <;> omega)) _))), AR.out.kb, AR.out.ln, AR.out.l16, AR.out.ok, AR.out.bl, AR.out.tn.next (by (repeat (first | exact Below.refl _ _ | assumption | refine Below.drew ?_ | refine bdrewN ?_ _ | refine Below.alloc ?_ (by first | omega | (simp <;> omega) | (simp only [World.size_alloc] <;> omega)) _ | refine below_setRow ?_ (by first | omega | (simp <;> omega)) _ | refine Below.setCell ?_ (by first | omega | (simp <;> omega)) _)))⟩
        exact h0.next HLK.out HGO.out.2.2.2.1 (fun e => e.elim HX.out.n1 HX.out.n2) HG.out.1 HG.out.2.1 HG.out.2.2)
      clear HG AR
      go_wp2_with fail
      go_roundw
      case rel => exact ⟨k + 1, _, by omega, by go_num, P7⟩
      case measure => simp [intOf]; omega
    · obtain rfl : k = N := by omega
      have d1 : decide ((k : Int) < (k : Int)) = false := by simp
      have kb := AR.out.bl
      have q1 := bk_lt kb
      have q2 := bk_frozen kb ol
      have q3 : wr.cell? ⟨bl, ol, none⟩ = some (.slice none 0 0) := by rw [bk_cell kb, HP.out.2.2]
      have FX : Hid (Got2 w gg gc gb bl ol L st bs cur t P (wr.setCell ⟨bl, ol, none⟩ (.slice (some ⟨go, 0, none⟩) k k))) := Lib.hid ⟨cur', k, zs, go, HN.out, HP.out.1, HP.out.2.1, AR.out.ln, AR.out.l16, fun i hi => AR.out.ok i hi (by rw [← AR.out.ln]; exact hi), HGO.out.2.2.2.2, by rw [bk_setCell_other _ _ _ _ _ HGO.out.2.2.2.1.symm]; exact AR.out.kb,
        AR.out.gu.keep (F := fun j => j = bl) ((Tn.refl _ _).set (.inl rfl)) HX.out.n1.symm HX.out.n2.symm HX.out.n3.symm, by rw [bk_setCell_same, kb]; rfl,
        (T4.out.trans AR.out.tn fun j e => by
          rcases e with e | e
          · exact .inl (.inl e)
          · exact .inr (by rw [e]; exact HGO.out.2.2.2.2)).set (.inl (.inr rfl))⟩
      clear kb AR
      go_wp2_with fail
      go_end0
      exact ⟨rfl, FX.out⟩
end Go.Proofs.Ytjimmfbjhkoekaa

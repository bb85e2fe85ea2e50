/- Selects: Choose. -/
import Derived.Test.YtcoonncedlbbkaaDoorX7
namespace Go.Proofs.YtcoonncedlbbkaaDoor
open Go.RowKit Ad
set_option maxRecDepth 100000
set_option maxHeartbeats 2000000
/-- A row and a value are returned. -/
theorem ret_two {P : Program} {fn : Func} {R : Ending → World → Prop} {a : Act} {w : World} {p u : Tmp} {ty : TypeId} {g : Nat} {cs : Array Value} {d : TypeDesc} {y : Value}
    (h : fn.results = #[.cell p ty, .tmp u]) (hd' : a.defers = []) (hp : a.tmps.getD p undef = .pointer (some ⟨g, 0, none⟩)) (hy : a.tmps.getD u undef = y) (hg : (bk w g).bind rowOf = some cs)
    (hu : P.underlying ty = some d) (hd : d.isRow = true) (hi : (P.info? ty).map (·.size) = some cs.size) (hR : R (.returned (.tuple #[.agg cs, y])) w) : bodyPost P fn R .ret a w := by
  cases hb : bk w g with
  | none => rw [hb] at hg; simp at hg
  | some o =>
    rw [hb] at hg
    cases o with
    | cells c t fr =>
      simp [rowOf] at hg
      subst hg
      refine bodyPost_ret ?_ hd' hR
      rw [results_cell_tmp h, hp, hy]
      simp [asAddr, Result.andThen, run_loadVar_row w g t ty c fr d hb hu (by cases d <;> simp_all) hi]
    | _ => simp [rowOf] at hg
/-- A slice of candidates. -/
def Cs (w : World) (n : Nat) (A : Option Addr) (l : List Cd) : Prop := l ≠ [] → ∃ g o c t fr, A = some ⟨g, o, none⟩ ∧ g < n ∧ bk w g = some (.cells c t fr) ∧ ∀ j (h : j < l.length), o + j * 18 + 18 ≤ c.size ∧ xt c (o + j * 18) 18 = l[j].row
theorem Cs.below {w w' : World} {n m : Nat} {A : Option Addr} {l : List Cd} (h : Cs w n A l) (hb : Below m w w') (hm : n ≤ m) : Cs w' n A l := fun h0 => by
  obtain ⟨g, o, c, t, fr, h1, h2, h3, h4⟩ := h h0
  exact ⟨g, o, c, t, fr, h1, h2, bk_keep hb (by omega) h3, h4⟩
theorem Cs.mono {w : World} {n m : Nat} {A : Option Addr} {l : List Cd} (h : Cs w n A l) (hm : n ≤ m) : Cs w m A l := fun h0 => by
  obtain ⟨g, o, c, t, fr, h1, h2, h3⟩ := h h0
  exact ⟨g, o, c, t, fr, h1, by omega, h3⟩
def chooseL (dst : List UInt8) (best : Cd) : List Cd → Cd
  | [] => best
  | c :: r => chooseL dst (if better dst c best then c else best) r
theorem chooseL_append (dst : List UInt8) : ∀ (l : List Cd) (best c : Cd), chooseL dst best (l ++ [c]) = if better dst c (chooseL dst best l) then c else chooseL dst best l
  | [], _, _ => rfl
  | x :: r, best, c => by simp only [List.cons_append, chooseL]; exact chooseL_append dst r _ c
def zadr : List UInt8 := [0, 0, 0, 0, 0, 0, 0, 0, 0, 0, 0, 0, 0, 0, 0, 0]
def choose (dst : List UInt8) : List Cd → List UInt8 × Bool
  | [] => (zadr, false)
  | c :: r => ((chooseL dst c r).a, true)
def zeroCd : Cd := ⟨zadr, false, false, rfl⟩
theorem zrow : zeroCd.row = (#[.int .u8 0, .int .u8 0, .int .u8 0, .int .u8 0, .int .u8 0, .int .u8 0, .int .u8 0, .int .u8 0, .int .u8 0, .int .u8 0, .int .u8 0, .int .u8 0, .int .u8 0, .int .u8 0, .int .u8 0, .int .u8 0, .bool false, .bool false] : Array Value) := by
  unfold Cd.row
  rfl
theorem Bs.ne {g kb rs x : Nat} {w : World} {c : Array Value} {fr : Nat × Nat} (h : Bs g kb rs w) (hx : bk w x = some (.cells c 33 fr)) : x ≠ g := fun e => by
  subst e
  rcases h.book with h | ⟨_, _, _, h, _⟩
  · have h1 := h.2
    rw [hx] at h1
    injection h1 with h1
    injection h1 with _ h2
    exact absurd h2 (by decide)
  · rw [hx] at h
    injection h with h1
    injection h1 with _ h2
    exact absurd h2 (by decide)
theorem Bs.setRow {g kb rs x : Nat} {w : World} {c c' : Array Value} {fr : Nat × Nat} (h : Bs g kb rs w) (hx : bk w x = some (.cells c 33 fr)) : Bs g kb rs (w.setRow x c') := by
  have ne : ∀ (y : Nat) (cy : Array Value) (ty : TypeId) (fy : Nat × Nat), bk w y = some (.cells cy ty fy) → ty ≠ 33 → y ≠ x := fun y cy ty fy hy ht e => by
    subst e
    rw [hx] at hy
    injection hy with h1
    injection h1 with _ h2
    exact ht h2.symm
  have keep : ∀ (y : Nat) (cy : Array Value) (ty : TypeId) (fy : Nat × Nat), bk w y = some (.cells cy ty fy) → ty ≠ 33 → bk (w.setRow x c') y = some (.cells cy ty fy) := fun y cy ty fy hy ht =>
    (bk_setRow_other _ _ _ _ (ne y cy ty fy hy ht)).trans hy
  refine ⟨h.book.imp (fun h => ⟨h.1, keep _ _ _ _ h.2 (by decide)⟩) (fun ⟨h0, r, h1, h2, h3⟩ => ⟨h0, r, h1, keep _ _ _ _ h2 (by decide), keep _ _ _ _ h3 (by decide)⟩), keep _ _ _ _ h.hkb (by decide), keep _ _ _ _ h.hrs (by decide), h.nk, h.nr⟩
theorem choose_any (dst : List UInt8) (hd : dst.length = 16) (A : Option Addr) (l : List Cd) (c : Nat) (w : World) (hk : GK w) (hc : Cs w w.heap.size A l) (hl : l.length ≤ c) (hl2 : l.length < 2 ^ 62) :
    Calls Tryd.prog 8 #[av dst, .slice A l.length c] w fun e w' => e = .returned (.tuple #[av (choose dst l).1, .bool (choose dst l).2]) ∧ Below w.heap.size w w' := by
  have hw0 : 0 < w.heap.size := by obtain ⟨c, t, fr, h1, _⟩ := hk; exact bk_lt h1
  match l with
  | [] =>
    have hz : zadr.length = 16 := rfl
    clear hc
    go_enter Tryd.func8, Tryd.ntmps8
    go_wp2_with fail
    refine ret_two (cs := (List.map B zadr).toArray) rfl rfl rfl rfl ?_ Tryd.underlying23 rfl (by rw [map_size, hz]; kernel_rfl) ?_
    rotate_left
    · refine ⟨rfl, ?_⟩
      (repeat (first | exact Below.refl _ _ | assumption | refine Below.drew ?_ | refine bdrewN ?_ _ | refine Below.alloc ?_ (by first | omega | (simp <;> omega) | (simp only [World.size_alloc] <;> omega)) _ | refine below_setRow ?_ (by first | omega | (simp <;> omega)) _ | refine Below.setCell ?_ (by first | omega | (simp <;> omega)) _))
    · rw [bk_alloc_at _ _ _ (by simp)]; rfl
  | c0 :: r =>
    obtain ⟨g0, o, cc, t, fr, rfl, hg0, kc, hcs⟩ := hc (by simp)
    have ba : Below w.heap.size w ((w.alloc (.cells (List.map B dst).toArray 23)).alloc (.cells (List.map B zadr).toArray 23)) := (by (repeat (first | exact Below.refl _ _ | assumption | refine Below.drew ?_ | refine bdrewN ?_ _ | refine Below.alloc ?_ (by first | omega | (simp <;> omega) | (simp only [World.size_alloc] <;> omega)) _ | refine below_setRow ?_ (by first | omega | (simp <;> omega)) _ | refine Below.setCell ?_ (by first | omega | (simp <;> omega)) _)))
    have k0 : bk ((w.alloc (.cells (List.map B dst).toArray 23)).alloc (.cells (List.map B zadr).toArray 23)) w.heap.size = some (.cells (List.map B dst).toArray 23 (0, 0)) := (bk_alloc_past _ _ _ (by simp)).trans (bk_alloc_at _ _ _ rfl)
    have k4 : bk ((w.alloc (.cells (List.map B dst).toArray 23)).alloc (.cells (List.map B zadr).toArray 23)) (w.heap.size + 1) = some (.cells (List.map B zadr).toArray 23 (0, 0)) := bk_alloc_at _ _ _ (by simp)
    have kc1 := bk_keep ba hg0 kc
    have sz : ((w.alloc (.cells (List.map B dst).toArray 23)).alloc (.cells (List.map B zadr).toArray 23)).heap.size = w.heap.size + 2 := by simp
    obtain ⟨h00, h01⟩ := hcs 0 (by simp)
    simp only [Nat.zero_mul, Nat.add_zero, List.getElem_cons_zero] at h00 h01
    have HS := Lib.hid (And.intro ba (And.intro (hk.below ba hw0) (And.intro k0 k4)))
    have HC := Lib.hid hcs
    have d1 : (((c0 :: r).length : Int) == 0) = false := by simp; omega
    obtain ⟨n, hn⟩ : ∃ n, n = (c0 :: r).length := ⟨_, rfl⟩
    rw [← hn] at d1 hl ⊢
    have hn1 : 0 < n := by rw [hn]; simp
    have HN := Lib.hid hn
    have hk0 := hk
    have HK := Lib.hid kc
    clear hcs hk ba kc hn
    go_enter Tryd.func8, Tryd.ntmps8
    go_upto_region 3 with fail
    change Code.wp _ _ _ _ ((w.alloc (.cells (List.map B dst).toArray 23)).alloc (.cells (List.map B zadr).toArray 23))
    generalize (w.alloc (.cells (List.map B dst).toArray 23)).alloc (.cells (List.map B zadr).toArray 23) = w1 at *
    obtain ⟨m, hm⟩ : ∃ m, m = w1.heap.size := ⟨_, rfl⟩
    have hm0 : 0 < m := by omega
    have lg : g0 < m := by omega
    obtain ⟨M, hM⟩ : ∃ M : Made m, M = Made.row m (fun b => .pointer (some ⟨b, 0, none⟩)) (.cells (Bc 0 0 (.slice none 0 0)) 59 (0, 0)) := ⟨_, rfl⟩
    obtain ⟨M2, hM2⟩ : ∃ M : Made m, M = MRu m hm0 := ⟨_, rfl⟩
    obtain ⟨M6, hM6⟩ : ∃ M : Made m, M = Made.row m (fun b => .pointer (some ⟨b, 0, none⟩)) (.cells zeroCd.row 33 (0, 0)) := ⟨_, rfl⟩
    have HM := Lib.hid hM; have HM2 := Lib.hid hM2; have HM6 := Lib.hid hM6
    have hn0 : decide (0 < n) = true := by simp; omega
    clear hM hM2 hM6
    refine wp_region_made_tail m 7 (fun k => ([(4, M), (5, M2), (6, M6)] : List (Nat × Made m)).lookup k) (by omega) (by kernel_rfl) (by kernel_rfl) ?_
    simp only [List.take_succ_cons, List.take_zero, List.drop_succ_cons, List.drop_zero]
    refine walk_segn 4 ([]) facts0 (by kernel_rfl) (by kernel_rfl) ?_
    simp only [List.take_succ_cons, List.take_zero, List.drop_succ_cons, List.drop_zero, Nat.reduceAdd]
    repeat (go_big_quiet_step (fail))
    (first | refine wpQuiet_nil ?_ | (go_big_quiet_want; (try go_big_quiet_op); trace_state; fail))
    refine walk_mkop M ([]) facts0 (by kernel_rfl) (by kernel_rfl) (by kernel_rfl) (fun w' hb' hg' => ?_) (fun v _ hAt => ?_)
    · unfold madeAt
      go_simp
      ((exact row_box HM (by have := hb'.size; omega)))
    obtain ⟨b1, hmb1, rfl, hnb1, hib1, rb⟩ := made_at HM (by intro b b' h; simpa using h) 4 hAt
    clear hAt
    simp only [Act.put, List.setIfInBounds_toArray, List.set_cons_succ, List.set_cons_zero, Nat.reduceAdd]
    refine walk_mkop M2 [(4, M.R (.pointer (some ⟨b1, 0, none⟩)))] (facts1 fun w h => h.1 rfl) (by kernel_rfl) (by kernel_rfl) (by kernel_rfl) (fun w' hb' hg' => ?_) (fun v hT hAt => ?_)
    · unfold madeAt
      go_simp
      exact mru_end hm0 HM2 b1 hmb1 w' (rb w' (hg' _ (List.mem_singleton.2 rfl)))
    obtain ⟨rs, rfl, hrs⟩ := mru_at hm0 HM2 hT
    clear hAt hT
    simp only [Act.put, List.setIfInBounds_toArray, List.set_cons_succ, List.set_cons_zero, Nat.reduceAdd]
    refine walk_mkop M6 ([]) facts0 (by kernel_rfl) (by kernel_rfl) (by kernel_rfl) (fun w' hb' hg' => ?_) (fun v _ hAt => ?_)
    · unfold madeAt
      go_simp
      ((rw [← zrow]; exact row_box HM6 (by have := hb'.size; omega)))
    obtain ⟨x6, hmx6, rfl, hnx6, hix6, rb6⟩ := made_at HM6 (by intro b b' h; simpa using h) 6 hAt
    clear hAt
    simp only [Act.put, List.setIfInBounds_toArray, List.set_cons_succ, List.set_cons_zero, Nat.reduceAdd]
    refine walk_nil ?_
    intro w3 hb3 hf
    obtain ⟨g, kb, hg, hS⟩ := hrs w3 ((hf 5).2.1 rfl)
    have k6 := rb6 w3 ((hf 6).1 rfl)
    have n3 := hb3.size
    have z18 : zeroCd.row.size = 18 := Cd.row_size _
    obtain ⟨hsB, hsG, hs0, hs4⟩ := HS.out
    have v6 : bk (w3.setRow x6 c0.row) x6 = some (.cells c0.row 33 (0, 0)) := by rw [bk_setRow_same, k6]; rfl
    have b6 : Below m w1 (w3.setRow x6 c0.row) := below_setRow hb3 hmx6 _
    have K0 := Lib.hid (bk_keep b6 (by omega) hs0)
    have K4 := Lib.hid (bk_keep b6 (by omega) hs4)
    have K6 := Lib.hid v6
    have S6 := Lib.hid (hS.setRow (c' := c0.row) k6)
    have B6 := Lib.hid (hsB.trans (b6.mono (by omega)))
    have HG := Lib.hid (show GK w from hk0)
    have l6 := bk_lt k6
    clear hf hrs kc1 hS hb3 hsB hsG hs0 hs4 v6 b6 rb rb6
    by_cases hc1 : c = 1
    · obtain rfl : r = [] := by
        cases r with
        | nil => rfl
        | cons _ _ => have := HN.out; simp at this; omega
      have hn' : n = 1 := HN.out
      subst hc1 hn'
      go_wp2_with fail
      clear k6 n3 z18 S6 l6 hc HC hl
      generalize w3.setRow x6 c0.row = w6 at *
      go_loopw [9, 23] (fun _ i wr => i = .int .i64 0 ∧ wr = w6) (fun _ _ _ => 0)
      case atStart => exact ⟨rfl, rfl⟩
      case round =>
        obtain ⟨rfl, rfl⟩ := hrel
        have v6 := K6.out
        have q6 := bk_lt v6
        have v4 := K4.out
        have q4 := bk_lt v4
        have hz : zadr.length = 16 := rfl
        have hbl := (c0).h
        go_wp2_with fail
        refine ret_two (cs := (List.map B (c0).a).toArray) rfl rfl rfl rfl ?_ Tryd.underlying23 rfl (by rw [map_size, (c0).h]; kernel_rfl) ?_
        rotate_left
        · refine ⟨?_, below_setRow B6.out (by omega) _⟩
          (rfl)
        · rw [bk_setRow_same, v4]; rfl
    · have hc2 : ¬ c - 1 = 0 := by omega
      go_wp2_with fail
      clear k6 n3 z18 l6 hc d1
      generalize w3.setRow x6 c0.row = w6 at *
      have HRL : Hid (n - 1 = r.length) := Lib.hid (by rw [HN.out]; simp)
      have hn62 : n < 2 ^ 62 := by rw [HN.out]; exact hl2
      go_loopw [9, 23] (fun _ i wr => ∃ (k : Nat) (b : Cd), k ≤ n - 1 ∧ i = .int .i64 k ∧ Hid (b = chooseL dst c0 (r.take k)) ∧ Hid (bk wr w.heap.size = some (.cells (List.map B dst).toArray 23 (0, 0))) ∧ Hid (bk wr (w.heap.size + 1) = some (.cells (List.map B zadr).toArray 23 (0, 0))) ∧ Hid (bk wr x6 = some (.cells b.row 33 (0, 0))) ∧ Hid (Bs g kb rs wr) ∧ Hid (Below w.heap.size w wr)) (fun _ i _ => n - 1 - (intOf i).toNat)
      case atStart => exact ⟨0, c0, by omega, rfl, Lib.hid rfl, K0, K4, K6, S6, B6⟩
      case round =>
        clear K0 K4 K6 S6 B6
        obtain ⟨k, b, hk, rfl, HB, K0, K4, K6, S6, B6⟩ := hrel
        by_cases hkn : k < n - 1
        · have y1 : decide ((k : Int) < ((n - 1 : Nat) : Int)) = true := by simp; omega
          have hkr : k < r.length := by rw [← HRL.out]; exact hkn
          obtain ⟨h1, h2⟩ := HC.out (k + 1) (by simp; exact hkr)
          rw [List.getElem_cons_succ] at h2
          rw [show o + (k + 1) * 18 = o + 18 + k * 18 by omega] at h1 h2
          obtain ⟨cb, hcb⟩ : ∃ x, x = r[k] := ⟨_, rfl⟩
          rw [← hcb] at h2
          have HCB := Lib.hid hcb
          have vc := bk_keep B6.out hg0 (HK.out)
          have qc := bk_lt vc
          clear hcb
          go_upto_region 7 with fail
          have a9 : Below wr.heap.size wr (wr.alloc (.cells cb.row 33 (0, 0))) := (Below.refl _ _).alloc (Nat.le_refl _) _
          have k9 : bk (wr.alloc (.cells cb.row 33 (0, 0))) wr.heap.size = some (.cells cb.row 33 (0, 0)) := bk_alloc_at _ _ _ rfl
          have v0 := bk_keep a9 (bk_lt K0.out) K0.out
          have v4 := bk_keep a9 (bk_lt K4.out) K4.out
          have v6 := bk_keep a9 (bk_lt K6.out) K6.out
          have s9 := S6.out.below a9 (Nat.le_refl _)
          have b9 := B6.out.trans (a9.mono B6.out.size)
          have g9 : GK (wr.alloc (.cells cb.row 33 (0, 0))) := HG.out.below b9 hw0
          have n9 : x6 < wr.heap.size := bk_lt K6.out
          clear vc qc h1 h2 a9 K0 K4 K6 S6 B6
          generalize wr.alloc (.cells cb.row 33 (0, 0)) = w9 at *
          generalize wr.heap.size = x9 at *
          have q0 := bk_lt v0; have q6 := bk_lt v6; have q9 := bk_lt k9
          have C := Lib.hid (better_any g kb rs dst hd cb b w9 g9 s9)
          have HH := Lib.hid (And.intro v4 (And.intro s9 b9))
          clear v4 s9 b9 g9
          go_wp2_with fail
          refine C.out.mono ?_
          rintro e w10 ⟨rfl, s10, b10⟩
          obtain ⟨v4, s9, b9⟩ := HH.out
          have xg6 : x6 ≠ g := s9.ne v6
          have xg9 : x9 ≠ g := s9.ne k9
          have K0' := Lib.hid (b10.keep (m := w.heap.size) (by omega) v0)
          have K4' := Lib.hid (b10.keep (m := w.heap.size + 1) (by omega) v4)
          have k6' := b10.keep xg6 v6
          have k9' := b10.keep xg9 k9
          have B10 := Lib.hid (b9.trans (b10.below (n := w.heap.size) (by omega) b9.size))
          have S10 := Lib.hid s10
          have q6' := bk_lt k6'; have q9' := bk_lt k9'
          clear C HH v0 v4 v6 k9 s9 b9 q0 q6 q9 s10 b10
          obtain ⟨p, hp⟩ : ∃ p, p = better dst cb b := ⟨_, rfl⟩
          rw [← hp]
          have HP : Hid (chooseL dst c0 (r.take (k + 1)) = if p then cb else b) := Lib.hid (by
            rw [List.take_succ_eq_append_getElem hkr, chooseL_append, ← HB.out, ← HCB.out, hp])
          clear hp
          cases p
          case false =>
            have K6' := Lib.hid k6'
            clear k6' k9' q6' q9'
            go_wp2_with fail
            refine ⟨⟨k + 1, b, by omega, by go_num, Lib.hid (by have h := HP.out; simp at h; exact h.symm), K0', K4', K6', S10, B10⟩, by simp [intOf]; omega⟩
          case true =>
            have v6 : bk (w10.setRow x6 cb.row) x6 = some (.cells cb.row 33 (0, 0)) := by rw [bk_setRow_same, k6']; rfl
            have K6' := Lib.hid v6
            have S11 := Lib.hid (S10.out.setRow (c' := cb.row) k6')
            have B11 := Lib.hid (below_setRow B10.out (show w.heap.size ≤ x6 by omega) cb.row)
            clear v6
            go_wp2_with fail
            refine ⟨⟨k + 1, cb, by omega, by go_num, Lib.hid (by have h := HP.out; simp at h; exact h.symm), Lib.hid ((bk_setRow_other _ _ _ _ (by omega)).trans K0'.out), Lib.hid ((bk_setRow_other _ _ _ _ (by omega)).trans K4'.out), K6', S11, B11⟩, by simp [intOf]; omega⟩
        · obtain rfl : k = n - 1 := by omega
          have y1 : decide (((n - 1 : Nat) : Int) < ((n - 1 : Nat) : Int)) = false := by simp
          have hbr : b = chooseL dst c0 r := by rw [HB.out, HRL.out, List.take_length]
          have HBR := Lib.hid hbr
          clear hbr
          have v6 := K6.out
          have q6 := bk_lt v6
          have v4 := K4.out
          have q4 := bk_lt v4
          have hz : zadr.length = 16 := rfl
          have hbl := (b).h
          go_wp2_with fail
          refine ret_two (cs := (List.map B (b).a).toArray) rfl rfl rfl rfl ?_ Tryd.underlying23 rfl (by rw [map_size, (b).h]; kernel_rfl) ?_
          rotate_left
          · refine ⟨?_, below_setRow B6.out (by omega) _⟩
            (rw [HBR.out]; rfl)
          · rw [bk_setRow_same, v4]; rfl
end Go.Proofs.YtcoonncedlbbkaaDoor

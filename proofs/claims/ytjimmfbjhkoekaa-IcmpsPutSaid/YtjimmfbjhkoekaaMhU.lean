import Derived.Test.YtjimmfbjhkoekaaMhT
/- Icmps: what a message's kind has, the document's: reports of listeners. -/
namespace Go.Proofs.Ytjimmfbjhkoekaa
open Go.RowKit
set_option maxRecDepth 100000
set_option maxHeartbeats 2000000
/-- With a report's box. -/
structure RBx (w W : World) (s : Nat) (m : Mv) (v : Value) (L : List UInt8) (x : Nat) (r : Rv) : Prop where
  p : RBy w W s m v L
  bx : bk W x = some (.cells r.row 57 (0, 0))
  vx : v.ownBlock ≠ some x
theorem RBx.below {w W W' : World} {s x : Nat} {m : Mv} {v : Value} {L : List UInt8} {r : Rv} (h : RBx w W s m v L x r) (b : Below W.heap.size W W') : RBx w W' s m v L x r :=
  ⟨h.p.below b, bk_keep b (bk_lt h.bx) h.bx, h.vx⟩
theorem RBx.num {w W W' : World} {s x : Nat} {m : Mv} {v v' : Value} {L L' : List UInt8} {r : Rv} (h : RBx w W s m v L x r) (o : Own W' W.heap.size v' L') (b : Below W.heap.size W W') : RBx w W' s m v' L' x r :=
  ⟨h.p.num o b, bk_keep b (bk_lt h.bx) h.bx, fun e => by have := (o.lt e).1; have := bk_lt h.bx; omega⟩
theorem RBx.app {w W W' : World} {s x : Nat} {m : Mv} {v v' : Value} {L L' : List UInt8} {r : Rv} (h : RBx w W s m v L x r) (o : Own W' (s + 1) v' L') (g : W.grownBy W' v.ownBlock) (hn : ∀ k, v'.ownBlock = some k → v.ownBlock = some k ∨ W.heap.size ≤ k) : RBx w W' s m v' L' x r :=
  ⟨h.p.app o g, (g.block x (bk_lt h.bx) fun e => h.vx e.symm).trans h.bx, fun e => by
    rcases hn x e with q | q
    · exact h.vx q
    · have := bk_lt h.bx; omega⟩
theorem row_cells (r : Rv) : r.row[0]? = some (B r.kind) ∧ r.row[17]? = some (.slice r.A r.s.length r.c) ∧ ∀ j (h : j < r.g.length), r.row[1 + j]? = some (B r.g[j]) := by
  have hg := r.hg
  refine ⟨rfl, ?_, fun j h => ?_⟩
  · simp only [Rv.row, List.getElem?_toArray]
    rw [List.getElem?_cons_succ, List.getElem?_append_right (by simp [hg])]
    simp [hg]
  · simp only [Rv.row, List.getElem?_toArray]
    rw [Nat.add_comm 1 j, List.getElem?_cons_succ, List.getElem?_append_left (by rw [List.length_map]; exact h)]
    simp [h]
theorem RBx.rdg {w W : World} {s x : Nat} {m : Mv} {v : Value} {L : List UInt8} {r : Rv} (h : RBx w W s m v L x r) : Rd W W.heap.size (some ⟨x, 1, none⟩) r.g := fun _ => ⟨x, 1, rfl, bk_lt h.bx, fun j hj => by rw [bk_cell h.bx]; exact (row_cells r).2.2 j hj⟩
theorem recsB_snoc {l : List Rc} {k : Nat} (h : k < l.length) : recsB (l.take (k + 1)) = recsB (l.take k) ++ recB l[k] := by
  unfold recsB
  rw [List.take_succ_eq_append_getElem h, List.map_append, List.flatten_append]
  simp
theorem recs_le {l : List Rv} (h : ∀ r ∈ l, r.s.length ≤ 64 ∧ ∀ z ∈ r.s, z.length = 16) (hl : l.length ≤ 64) (k : Nat) : (recsB ((l.map Rv.pl).take k)).length ≤ 131072 := by
  rw [← List.map_take]
  have h1 := recs_small (l := l.take k) fun r hr => h r (List.mem_of_mem_take hr)
  have h2 : (l.take k).length ≤ 64 := by rw [List.length_take]; omega
  omega
set_option maxHeartbeats 4000000 in
theorem rbody143 (m : Mv) (w : World) (hok : MvOk w w.heap.size m) (hs : Small m) (hk : m.kind = 143) (h64 : m.rs.length ≤ 64) (h65 : ∀ r ∈ m.rs, r.s.length ≤ 64) : Calls Try.prog 34 #[.agg (mC m)] w fun e w' => BodyR m w e w' := by
  have HRL := Lib.hid (recs_le (l := m.rs) (fun r hr => ⟨h65 r hr, (hok.rss r hr).2.1⟩) h64)
  have H65 := Lib.hid h65
  clear h65
  have OK := Lib.hid hok; have HL := Lib.hid hs; have HK := Lib.hid hk
  have b1 := hok.b1; have b2 := hok.b2; have b3 := hok.b3; have b4 := hok.b4; have b5 := hok.b5
  obtain ⟨W, hW⟩ : ∃ W, W = w.alloc (.cells (mC m) 33) := ⟨_, rfl⟩
  obtain ⟨s, hs0⟩ : ∃ s, s = w.heap.size := ⟨_, rfl⟩
  have P : Hid (RBy w W s m (.slice none 0 0) []) := Lib.hid ⟨by rw [hW]; exact (by (repeat (first | exact Below.refl _ _ | assumption | refine Below.drew ?_ | refine bdrewN ?_ _ | refine Below.alloc ?_ (by first | omega | (simp <;> omega) | (simp only [World.size_alloc] <;> omega)) _ | refine below_setRow ?_ (by first | omega | (simp <;> omega)) _ | refine Below.setCell ?_ (by first | omega | (simp <;> omega)) _))), by rw [hW, hs0]; exact bk_alloc_at _ _ _ rfl, Own.nil _ _, hs0⟩
  have HW := Lib.hid hW; have HS := Lib.hid hs0
  clear hok hs hk hW hs0
  go_enter Try.func34, Try.ntmps34
  go_upto_region 1 with fail
  rw [← HS.out]
  change Code.wp _ _ _ _ (w.alloc (.cells (mC m) 33))
  rw [← HW.out]
  clear HW
  have c0 : W.cell? ⟨s, 0, none⟩ = some (.int .u8 143) := by rw [bk_cell P.out.box, mC_0, HK.out]; rfl
  have l1 := bk_lt P.out.box
  obtain ⟨N, hN⟩ : ∃ N, N = m.rs.length := ⟨_, rfl⟩
  have HN := Lib.hid hN
  have c62 := (bk_cell P.out.box 62).trans (mC_62 m)
  rw [← hN] at c62 h64
  clear hN
  obtain ⟨X0, hX0⟩ : ∃ X : List UInt8, X = [0, 0] := ⟨_, rfl⟩
  have HX0 := Lib.hid hX0
  have NX0 : Hid (X0.length = 2) := Lib.hid (by rw [hX0]; rfl)
  have PQ : Hid (RBy w (World.alloc W (.cells #[Value.int .u8 0, Value.int .u8 0] 5)) s m (.slice (some ⟨W.heap.size, 0, none⟩) 2 2) X0) := Lib.hid (by rw [hX0]; exact P.out.num (Own.lit W [0, 0] (by simp)) (by (repeat (first | exact Below.refl _ _ | assumption | refine Below.drew ?_ | refine bdrewN ?_ _ | refine Below.alloc ?_ (by first | omega | (simp <;> omega) | (simp only [World.size_alloc] <;> omega)) _ | refine below_setRow ?_ (by first | omega | (simp <;> omega)) _ | refine Below.setCell ?_ (by first | omega | (simp <;> omega)) _))))
  clear hX0
  have C : Hid (Calls Try.prog 65 #[.slice (some ⟨W.heap.size, 0, none⟩) 2 2, .int .u64 (N : Int), .int .i64 2] (World.alloc W (.cells #[Value.int .u8 0, Value.int .u8 0] 5)) fun e w' => ∃ A' c', e = .returned (.slice A' 4 c') ∧ Own w' (World.alloc W (.cells #[Value.int .u8 0, Value.int .u8 0] 5)).heap.size (.slice A' 4 c') (X0 ++ nb 2 N) ∧ Below (World.alloc W (.cells #[Value.int .u8 0, Value.int .u8 0] 5)).heap.size (World.alloc W (.cells #[Value.int .u8 0, Value.int .u8 0] 5)) w') := Lib.hid (by
    have C0 := rnum_own (some ⟨W.heap.size, 0, none⟩) X0 2 N 2 2 (World.alloc W (.cells #[Value.int .u8 0, Value.int .u8 0] 5)) (own_rd (PQ.out).own) (own_nn (PQ.out).own) (by have := NX0.out; omega) (by omega) (by omega) rfl
    simp only [NX0.out, Nat.reduceAdd] at C0
    exact C0)
  go_upto_region 16 with fail
  go_wp2_with fail
  refine (C).out.mono ?_
  rintro e W1 ⟨A1, c1, rfl, o1, b1⟩
  obtain ⟨X1, hX1⟩ : ∃ Z : List UInt8, Z = X0 ++ nb 2 N := ⟨_, rfl⟩
  have HX1 := Lib.hid hX1
  have NX1 : Hid ((X1).length = 4) := Lib.hid (by rw [hX1, List.length_append, NX0.out, nb_length])
  have P1 : Hid (RBy w W1 s m (.slice A1 4 c1) X1) := Lib.hid (by rw [hX1]; exact (PQ.out).num o1 b1)
  clear o1 b1 C hX1
  clear c0 l1 c62 P PQ
  go_wp2_with fail
  go_loopw [3, 5] (fun v i W => ∃ (k : Nat) (A : Option Addr) (n c : Nat), k ≤ N ∧ i = .int .i64 k ∧ v = .slice A n c ∧ Hid (RBy w W s m (.slice A n c) (X1 ++ recsB ((m.rs.map Rv.pl).take k)))) (fun _ i _ => N - (intOf i).toNat)
  case atStart => exact ⟨0, A1, 4, c1, by omega, rfl, rfl, Lib.hid (by simpa [recsB] using P1.out)⟩
  case round =>
    clear P1
    obtain ⟨k, A, n, c, hkN, rfl, rfl, P⟩ := hrel
    have c62 := (bk_cell P.out.box 62).trans (mC_62 m)
    rw [← HN.out] at c62
    have lb := bk_lt P.out.box
    by_cases hlt : k < N
    · have d1 : decide ((k : Int) < (N : Int)) = true := by simp; omega
      have d1' : decide (k < N) = true := by simp; omega
      have hks : k < m.rs.length := by rw [← HN.out]; exact hlt
      have hrow := (P.out.ok OK.out).rs
      obtain ⟨g1, o1, cur1, t1, f1, e1, hg1, hb1, hs1, hx1, _⟩ := hrow.at hks Rv.row_size
      rw [e1] at c62
      have l2 := bk_lt hb1
      have hrs := (OK.out.rss _ (List.getElem_mem hks))
      have h65 := H65.out _ (List.getElem_mem hks)
      obtain ⟨r, hr⟩ : ∃ r, r = m.rs[k] := ⟨_, rfl⟩
      rw [← hr] at hx1 hrs h65
      have HSN := Lib.hid (recsB_snoc (l := m.rs.map Rv.pl) (k := k) (by rw [List.length_map]; exact hks))
      have HRP : Hid ((m.rs.map Rv.pl)[k]'(by rw [List.length_map]; exact hks) = r.pl) := Lib.hid (by rw [List.getElem_map, hr])
      obtain ⟨L0, hL0⟩ : ∃ L, L = X1 ++ recsB ((m.rs.map Rv.pl).take k) := ⟨_, rfl⟩
      have NL0 : Hid (L0.length ≤ 131076) := Lib.hid (by rw [hL0, List.length_append, NX1.out]; have := HRL.out k; omega)
      rw [← hL0] at P
      have HL0 := Lib.hid hL0
      have HRS := Lib.hid hrs
      have sz := Rv.row_size r
      have so := Rv.row_ones r
      clear hrow hr hL0 hrs
      go_upto_region 21 with fail
      obtain ⟨x, hx⟩ : ∃ x, x = wr.heap.size := ⟨_, rfl⟩
      have PX : Hid (RBx w (World.alloc wr (.cells r.row 57)) s m (.slice A n c) L0 x r) := Lib.hid ⟨P.out.below (by (repeat (first | exact Below.refl _ _ | assumption | refine Below.drew ?_ | refine bdrewN ?_ _ | refine Below.alloc ?_ (by first | omega | (simp <;> omega) | (simp only [World.size_alloc] <;> omega)) _ | refine below_setRow ?_ (by first | omega | (simp <;> omega)) _ | refine Below.setCell ?_ (by first | omega | (simp <;> omega)) _))), by rw [hx]; exact bk_alloc_at _ _ _ rfl, fun e => by have := (P.out.own.lt e).2; omega⟩
      rw [← hx]
      clear hx1 hs1 hb1 hx e1 c62 lb l2 P
      generalize World.alloc wr (.cells r.row 57) = Wx at *
      obtain ⟨R, hR⟩ : ∃ R, R = r.s.length := ⟨_, rfl⟩
      have HR := Lib.hid hR
      have p0 : Wx.cell? ⟨x, 0, none⟩ = some (.int .u8 (r.kind.toNat : Int)) := (bk_cell PX.out.bx 0).trans (row_cells r).1
      have p17 : Wx.cell? ⟨x, 17, none⟩ = some (.slice r.A R r.c) := by rw [hR]; exact (bk_cell PX.out.bx 17).trans (row_cells r).2.1
      rw [← hR] at h65
      clear hR
      have lx := bk_lt PX.out.bx
      obtain ⟨X2, hX2⟩ : ∃ X : List UInt8, X = [r.kind, 0] := ⟨_, rfl⟩
      have HX2 := Lib.hid hX2
      have PQ : Hid (RBx w (World.alloc Wx.drew (.cells #[Value.int .u8 (r.kind.toNat : Int), Value.int .u8 0] 5)) s m (.slice A n c) L0 x r) := Lib.hid (PX.out.below (by (repeat (first | exact Below.refl _ _ | assumption | refine Below.drew ?_ | refine bdrewN ?_ _ | refine Below.alloc ?_ (by first | omega | (simp <;> omega) | (simp only [World.size_alloc] <;> omega)) _ | refine below_setRow ?_ (by first | omega | (simp <;> omega)) _ | refine Below.setCell ?_ (by first | omega | (simp <;> omega)) _))))
      have RD : Hid (Rd (World.alloc Wx.drew (.cells #[Value.int .u8 (r.kind.toNat : Int), Value.int .u8 0] 5)) (World.alloc Wx.drew (.cells #[Value.int .u8 (r.kind.toNat : Int), Value.int .u8 0] 5)).heap.size (some ⟨Wx.heap.size, 0, none⟩) X2) := Lib.hid (by rw [hX2]; exact Rd.lit Wx.drew [r.kind, 0] 5)
      have LX2 : Hid (2 = X2.length) := Lib.hid (by rw [hX2]; rfl)
      have LQ : Hid (L0.length + X2.length < 2 ^ 46) := Lib.hid (by have := NL0.out; rw [← LX2.out]; omega)
      clear hX2
      have F : Hid (∀ A1 N1 c1 W1, Own W1 (s + 1) (.slice A1 N1 c1) (L0 ++ X2) → World.grownBy (World.alloc Wx.drew (.cells #[Value.int .u8 (r.kind.toNat : Int), Value.int .u8 0] 5)) W1 (Value.slice A n c).ownBlock → (∀ k, (Value.slice A1 N1 c1).ownBlock = some k → (Value.slice A n c).ownBlock = some k ∨ (World.alloc Wx.drew (.cells #[Value.int .u8 (r.kind.toNat : Int), Value.int .u8 0] 5)).heap.size ≤ k) →
          (RBx w W1 s m (.slice A1 N1 c1) (L0 ++ X2) x r ∧ W1.cell? ⟨x, 17, none⟩ = some (.slice r.A R r.c) ∧ x < W1.heap.size) ∧
          Calls Try.prog 65 #[.slice A1 N1 c1, .int .u64 (IntKind.u64.wrap (R : Int)), .int .i64 2] W1 fun e w' => ∃ A' c', e = .returned (.slice A' (N1 + 2) c') ∧ Own w' W1.heap.size (.slice A' (N1 + 2) c') (L0 ++ X2 ++ nb 2 R) ∧ Below W1.heap.size W1 w') := Lib.hid fun A1 N1 c1 W1 r1 r2 r3 => by
        have h := PQ.out.app r1 r2 r3
        refine ⟨⟨h, by rw [HR.out]; exact (bk_cell h.bx 17).trans (row_cells r).2.1, bk_lt h.bx⟩, ?_⟩
        rw [show IntKind.u64.wrap (R : Int) = (R : Int) by rw [IntKind.wrap_u64]; omega]
        obtain rfl := r1.len
        exact rnum_own A1 (L0 ++ X2) c1 R 2 2 W1 (own_rd r1) (own_nn r1) (by rw [List.length_append, ← LX2.out]; have := NL0.out; omega) (by omega) (by omega) rfl
      go_region_law (first
        | (refine step_app rfl _ _ rfl (s + 1) (.slice A n c) L0 X2 _ rfl PQ.out.p.own (some ⟨Wx.heap.size, 0, none⟩) 2 rfl LX2.out RD.out (fun e => by cases e) PQ.out.p.le LQ.out ?_; intro A1 N1 c1 W1 r1 r2 r3; obtain ⟨⟨p1, d17, lx1⟩, cn⟩ := F.out A1 N1 c1 W1 r1 r2 r3; have HC2 := Lib.hid cn; have P1 := Lib.hid p1; clear r1 r2 r3 F cn p1 RD)
        | (go_simp; go_at_call 65; with_reducible refine HC2.out.mono ?_; rintro e W2 ⟨A2, c2, rfl, o2, b2⟩; have P2 := Lib.hid (P1.out.num o2 b2); clear HC2 o2 b2))
      all_goals
        obtain ⟨M2, hM2⟩ : ∃ q, q = N1 + 2 := ⟨_, rfl⟩
        obtain ⟨X3, hX3⟩ : ∃ q, q = L0 ++ X2 ++ nb 2 R := ⟨_, rfl⟩
        rw [← hM2, ← hX3] at P2
        rw [← hM2]
        have HX3 := Lib.hid hX3
        clear hM2 P1 d17 lx1 p0 p17 lx PX PQ LQ
        have EM : Hid (M2 = X3.length) := Lib.hid P2.out.p.own.len
        have NX3 : Hid (X3.length ≤ 131080) := Lib.hid (by rw [hX3, List.length_append, List.length_append, nb_length, ← LX2.out]; have := NL0.out; omega)
        clear hX3
        have RG := Lib.hid P2.out.rdg
        have LG : Hid (16 = r.g.length) := Lib.hid r.hg.symm
        have LQ : Hid (X3.length + r.g.length < 2 ^ 46) := Lib.hid (by have := NX3.out; rw [← LG.out]; omega)
        have EQ : Hid ((X3 ++ r.g).length = M2 + 16) := Lib.hid (by rw [List.length_append, ← LG.out, EM.out])
        have lx := bk_lt P2.out.bx
        go_upto_region 22 with fail
        go_wp2_with (at_builtin; refine wpList_appN rfl _ _ rfl (s + 1) (.slice A2 M2 c2) X3 r.g _ rfl P2.out.p.own (some ⟨x, 1, none⟩) 16 rfl LG.out RG.out (fun e => by cases e) P2.out.p.le LQ.out (M2 + 16) EQ.out ?_)
        intro A3 c3 W3 r1 r2 r3
        obtain ⟨M3, hM3⟩ : ∃ q, q = M2 + 16 := ⟨_, rfl⟩
        obtain ⟨X4, hX4⟩ : ∃ q, q = X3 ++ r.g := ⟨_, rfl⟩
        rw [← hM3] at r1 r3
        rw [← hM3]
        have P3 : Hid (RBx w W3 s m (.slice A3 M3 c3) X4 x r) := Lib.hid (by rw [hX4]; exact P2.out.app r1 r2 r3)
        have NX4 : Hid (X4.length ≤ 131096) := Lib.hid (by rw [hX4, EQ.out, EM.out]; have := NX3.out; omega)
        have HX4 := Lib.hid hX4
        clear r1 r2 r3 hM3 hX4 RG LG LQ EQ EM P2 lx
        go_wp2_with fail
        go_loopw [3, 7] (fun v i W => ∃ (j : Nat) (A : Option Addr) (n c : Nat), j ≤ R ∧ i = .int .i64 j ∧ v = .slice A n c ∧ Hid (RBx w W s m (.slice A n c) (X4 ++ (r.s.take j).flatten) x r)) (fun _ i _ => R - (intOf i).toNat)
        case atStart => exact ⟨0, A3, M3, c3, by omega, rfl, rfl, Lib.hid (by simpa using P3.out)⟩
        case round =>
          clear P3
          obtain ⟨j, Aj, nj, cj, hjR, rfl, rfl, P⟩ := hrel
          have p17 : wr.cell? ⟨x, 17, none⟩ = some (.slice r.A R r.c) := by rw [HR.out]; exact (bk_cell P.out.bx 17).trans (row_cells r).2.1
          have lx := bk_lt P.out.bx
          by_cases hlj : j < R
          · have i1 : decide ((j : Int) < (R : Int)) = true := by simp; omega
            have i1' : decide (j < R) = true := by simp; omega
            have hjs : j < r.s.length := by rw [← HR.out]; exact hlj
            have hrw := ((HRS.out.1.below P.out.p.bl (Nat.le_refl _)).mono P.out.p.bl.size)
            obtain ⟨gg, oo, cc, tt, ff, ee, hgg, hbg, _⟩ := hrw (by intro e; rw [e] at hjs; simp at hjs)
            rw [ee] at hrw p17
            have RD := Lib.hid (hrw.rd16 HRS.out.2.1 hjs)
            have L16 : Hid (16 = (r.s[j]).length) := Lib.hid (HRS.out.2.1 _ (List.getElem_mem hjs)).symm
            have LQ : Hid ((X4 ++ (r.s.take j).flatten).length + (r.s[j]).length < 2 ^ 46) := Lib.hid (by have := take_flat_le HRS.out.2.1 j; rw [List.length_append, ← L16.out]; have := HR.out; have := NX4.out; omega)
            have l2 := bk_lt hbg
            have HT := Lib.hid (take_flat hjs)
            obtain ⟨Z, hZ⟩ : ∃ Z, Z = X4 ++ (r.s.take j).flatten := ⟨_, rfl⟩
            rw [← hZ] at P LQ
            obtain ⟨z, hz⟩ : ∃ z, z = r.s[j] := ⟨_, rfl⟩
            rw [← hz] at RD L16 LQ HT
            have HZ := Lib.hid hZ
            clear hrw hbg ee hz hZ
            go_wp2_with (at_builtin; refine wpList_appN rfl _ _ rfl (s + 1) (.slice Aj nj cj) Z z _ rfl P.out.p.own (some ⟨gg, oo + j * 16, none⟩) 16 rfl L16.out RD.out (fun e => by cases e) P.out.p.le LQ.out (Z.length + z.length) List.length_append ?_)
            intro A' c' W' r1 r2 r3
            have P' : Hid (RBx w W' s m (.slice A' (Z.length + z.length) c') (X4 ++ (r.s.take (j + 1)).flatten) x r) := Lib.hid (by rw [HT.out, ← List.append_assoc, ← HZ.out]; exact P.out.app r1 r2 r3)
            clear r1 r2 r3 RD L16 LQ P HT HZ lx l2 p17
            go_wp2
            go_roundw
            case rel => exact ⟨j + 1, A', _, c', by omega, by go_num, rfl, P'⟩
            case measure => simp [intOf]; omega
          · have i1 : decide ((j : Int) < (R : Int)) = false := by simp; omega
            have i1' : decide (j < R) = false := by simp; omega
            obtain rfl : j = R := by omega
            have P' : Hid (RBy w wr s m (.slice Aj nj cj) (X1 ++ recsB ((m.rs.map Rv.pl).take (k + 1)))) := Lib.hid (by
              have e : X4 ++ (r.s.take j).flatten = X1 ++ recsB ((m.rs.map Rv.pl).take (k + 1)) := by
                rw [HSN.out, HRP.out, HR.out, List.take_length, HX4.out, HX3.out, HX2.out, HL0.out, HR.out]
                simp [recB, Rv.pl]
              rw [← e]
              exact P.out.p)
            clear P hlj
            go_wp2
            go_roundw
            case rel => exact ⟨k + 1, Aj, nj, cj, by omega, by go_num, rfl, P'⟩
            case measure => simp [intOf]; omega
    · have d1 : decide ((k : Int) < (N : Int)) = false := by simp; omega
      have d1' : decide (k < N) = false := by simp; omega
      obtain rfl : k = N := by omega
      have HE : Hid (X1 ++ recsB ((m.rs.map Rv.pl).take k) = partB m.pl) := Lib.hid (by
        unfold partB
        rw [show m.pl.kind = 143 from HK.out, if_neg (by decide), if_pos rfl, HN.out, ← List.length_map (f := Rv.pl), List.take_length, HX1.out, HX0.out, HN.out]
        simp [Mv.pl])
      have EN := Lib.hid (P.out.own.len)
      rw [HE.out] at P EN
      obtain rfl := EN.out
      clear hlt HE EN
      go_wp2
      go_ret
      exact P.out.fin
end Go.Proofs.Ytjimmfbjhkoekaa

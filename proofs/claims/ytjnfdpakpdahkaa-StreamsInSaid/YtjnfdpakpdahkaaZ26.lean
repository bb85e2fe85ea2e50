/- Streams: the program's end of reading and the document's, side by side. -/
import Derived.Test.YtjnfdpakpdahkaaZ25
import Derived.Test.YtjnfdpakpdahkaaZ16
import Derived.Test.YtjnfdpakpdahkaaS33
import Derived.Deep.RegionHeld3
namespace Go.Proofs.Ytjnfdpakpdahkaa
open Go.RowKit
set_option maxRecDepth 100000
set_option maxHeartbeats 2000000
attribute [local irreducible] Ac.row
structure Ti (w0 w : World) (n x g e : Nat) (v : Value) (s1 : Sn) (n2 y : Nat) (vr vf : Value) (lf : Nat) (s2 : Sn) : Prop where
  ib : InB w n x g e v s1
  rb : RB w n2 y vr vf lf s2
  ap : ∀ k, Ft x g v k → ¬ Fr y vr vf k
  bel : Below w0.heap.size w0 w
  l1 : w0.heap.size ≤ n
  l2 : w0.heap.size ≤ n2
  nw : n ≤ w.heap.size
  nw2 : n2 ≤ w.heap.size
section
variable {w0 w w' : World} {n x g e e' n2 y lf lf' : Nat} {v v' vr vf vr' vf' : Value} {s1 s2 s' : Sn}
theorem Ti.below (h : Ti w0 w n x g e v s1 n2 y vr vf lf s2) (hb : Below w.heap.size w w') : Ti w0 w' n x g e v s1 n2 y vr vf lf s2 :=
  ⟨h.ib.below hb, h.rb.below hb, h.ap, h.bel.trans (hb.mono h.bel.size), h.l1, h.l2, Nat.le_trans h.nw hb.size, Nat.le_trans h.nw2 hb.size⟩
theorem Ti.inStep (h : Ti w0 w n x g e v s1 n2 y vr vf lf s2) (hi : InB w' n x g e' v' s') (hv : ∀ k, v'.ownBlock = some k → v.ownBlock = some k ∨ w.heap.size ≤ k) (ht : Tn (Ft x g v) w w') : Ti w0 w' n x g e' v' s' n2 y vr vf lf s2 := by
  refine ⟨hi, h.rb.keep ht h.ap, fun k hk hf => ?_, h.bel.trans (ht.below (fun k hk => Nat.le_trans h.l1 (h.ib.lt k hk).1) h.bel.size), h.l1, h.l2, Nat.le_trans h.nw ht.size, Nat.le_trans h.nw2 ht.size⟩
  rcases hk with hk | hk | hk
  · exact h.ap k (.inl hk) hf
  · exact h.ap k (.inr (.inl hk)) hf
  · rcases hv k hk with h1 | h1
    · exact h.ap k (.inr (.inr h1)) hf
    · have := (h.rb.lt k hf).2; omega
theorem Ti.docStep (h : Ti w0 w n x g e v s1 n2 y vr vf lf s2) (hr : RB w' n2 y vr' vf' lf' s') (ht : RT w w' y vr vf vr' vf') : Ti w0 w' n x g e v s1 n2 y vr' vf' lf' s' := by
  refine ⟨h.ib.keep ht.t fun k hk hf => h.ap k hf hk, hr, fun k hk hf => ?_, h.bel.trans (ht.t.below (fun k hk => Nat.le_trans h.l2 (h.rb.lt k hk).1) h.bel.size), h.l1, h.l2, Nat.le_trans h.nw ht.t.size, Nat.le_trans h.nw2 ht.t.size⟩
  have hlt := (h.ib.lt k hk).2
  rcases hf with hf | hf | hf
  · exact h.ap k hk (.inl hf)
  · rcases ht.r k hf with h1 | h1
    · exact h.ap k hk (.inr (.inl h1))
    · omega
  · rcases ht.f k hf with h1 | h1
    · exact h.ap k hk (.inr (.inr h1))
    · omega
/-- Blocks that neither has may turn. -/
theorem Ti.keep {F : Nat → Prop} (h : Ti w0 w n x g e v s1 n2 y vr vf lf s2) (ht : Tn F w w') (h1 : ∀ k, F k → ¬ Ft x g v k) (h2 : ∀ k, F k → ¬ Fr y vr vf k) (h3 : ∀ k, F k → w0.heap.size ≤ k) : Ti w0 w' n x g e v s1 n2 y vr vf lf s2 :=
  ⟨h.ib.keep ht h1, h.rb.keep ht h2, h.ap, h.bel.trans (ht.below h3 h.bel.size), h.l1, h.l2, Nat.le_trans h.nw ht.size, Nat.le_trans h.nw2 ht.size⟩
theorem obj_not_leaf {k : Nat} {c : Array Value} {t : TypeId} {fr : Nat × Nat} (hb : bk w k = some (.cells c t fr)) (ht : t ≠ 69) : ¬ ∃ cur, bk w k = some (.cells cur 69 (0, 0)) := fun ⟨cur, h⟩ => by
  rw [hb] at h
  injection h with h
  injection h with _ h2
  exact ht h2
theorem row_not_leaf {n m sz : Nat} {t : TypeId} {u : Value} {xs : List Value} (h : w.ownsRow n t sz u m xs) (ht : t ≠ 69) {k : Nat} (hk : u.ownBlock = some k) : ¬ ∃ cur, bk w k = some (.cells cur 69 (0, 0)) := by
  rcases h.2 with ⟨rfl, _⟩ | ⟨b, cap, cur, rfl, _, hb, _⟩
  · cases hk
  · cases hk
    exact obj_not_leaf (show bk w b = _ from hb) ht
/-- A book's first list. -/
theorem Ti.book {bb : Nat} (h : Ti w0 w n x g e v s1 n2 y vr vf lf s2) (hf : BFr bb w w') (h1 : ¬ Ft x g v bb) (h2 : ¬ Fr y vr vf bb) (h3 : w0.heap.size ≤ bb) (hlo : Below w0.heap.size w w') : Ti w0 w' n x g e v s1 n2 y vr vf lf s2 := by
  have ht : Tn (fun k => k = bb ∨ ∃ cur, bk w k = some (.cells cur 69 (0, 0))) w w' := ⟨hf.os, hf.tape, hf.output, hf.size, fun k hk hn => by
    obtain ⟨o, ho⟩ : ∃ o, bk w k = some o := ⟨w.heap[k]'hk, Array.getElem?_eq_getElem hk⟩
    rw [ho]
    exact hf.keep k o ho (fun e => hn (.inl e)) (fun cur e => hn (.inr ⟨cur, by rw [ho, e]⟩))⟩
  have key1 : ∀ k, (k = bb ∨ ∃ cur, bk w k = some (.cells cur 69 (0, 0))) → ¬ Ft x g v k := fun k hk hF => by
    rcases hk with rfl | hk
    · exact h1 hF
    · rcases hF with rfl | rfl | hF
      · exact obj_not_leaf h.ib.box (by decide) hk
      · obtain ⟨cur, hc⟩ := hk
        obtain ⟨es, clock, hm, _⟩ := h.ib.map
        rw [show bk w _ = _ from hm] at hc
        cases hc
      · exact row_not_leaf h.ib.row (by decide) hF hk
  have key2 : ∀ k, (k = bb ∨ ∃ cur, bk w k = some (.cells cur 69 (0, 0))) → ¬ Fr y vr vf k := fun k hk hF => by
    rcases hk with rfl | hk
    · exact h2 hF
    · rcases hF with rfl | hF | hF
      · exact obj_not_leaf h.rb.box (by decide) hk
      · exact row_not_leaf h.rb.row (by decide) hF hk
      · exact row_not_leaf h.rb.far (by decide) hF hk
  exact ⟨h.ib.keep ht key1, h.rb.keep ht key2, h.ap, h.bel.trans hlo, h.l1, h.l2, Nat.le_trans h.nw ht.size, Nat.le_trans h.nw2 ht.size⟩
end
theorem Wrt.tn {A : Option Addr} {nn c : Nat} {i z : UInt8} {w w' : World} (h : Wrt (rgs [⟨A, nn, c, i, z⟩]) w w') : Tn (fun k => ∃ o, A = some ⟨k, o, none⟩) w w' :=
  ⟨h.os, h.tape, h.output, h.size, fun k hk hn => h.oth k hk fun j hj => by
    obtain ⟨l, hl, o, e, _⟩ := hj
    obtain rfl := List.mem_singleton.1 hl
    exact hn ⟨o, e⟩⟩
theorem streamsIn_walk (p : Nat) (A2 : Option Addr) (acts : List Ac) (c2 : Nat) (w : World) (hp : p < m32) (hs : As w w.heap.size A2 acts) (hal : acts.length < 2 ^ 63) (hsm : ∀ x ∈ acts, x.l.length < 2 ^ 50) :
    Calls Try.prog 6 #[.int .u32 (p : Int), .slice A2 acts.length c2] w fun e w' => e = .returned (.bool true) ∧ Below w.heap.size w w' := by
  have HS := Lib.hid hs; have HP := Lib.hid hp; have HSM := Lib.hid hsm
  have CG := Lib.hid (great_any A2 acts c2 w hs hal)
  clear hs hp hsm
  go_enter Try.func6, Try.ntmps6
  go_wp2_with fail
  refine CG.out.mono ?_
  rintro e w1 ⟨b, rfl, hgr, b1⟩
  have B1 := Lib.hid b1
  clear CG b1
  cases b
  rotate_left
  · clear hgr
    go_wp2_with fail
    refine (lives27_any w1).mono ?_
    rintro e w2 ⟨rfl, b2⟩
    go_wp2_with fail
    go_ret
    exact ⟨rfl, B1.out.trans (b2.mono B1.out.size)⟩
  · have HGR : Hid (∀ x ∈ acts, x.l.length ≤ 20000) := Lib.hid fun x hx => Nat.le_trans (sumL_mem hx) ((hgr rfl).2 HSM.out)
    clear hgr HSM
    go_wp2_with fail
    refine (newin_any p w1 HP.out).mono ?_
    rintro e w2 ⟨x, g, rfl, I2, b2⟩
    have HI2 := Lib.hid I2; have B2 := Lib.hid b2
    clear I2 b2
    go_wp2_with fail
    refine (rnewin_any p w2 HP.out).mono ?_
    rintro e w3 ⟨rfl, R3, b3⟩
    obtain ⟨y, hy⟩ : ∃ y, y = w2.heap.size := ⟨_, rfl⟩
    have hap3 : ∀ k, Ft x g (.slice none 0 0) k → ¬ Fr y (.slice none 0 0) (.slice none 0 0) k := fun k hk hf => by
      have h1 := (HI2.out.lt k hk).2
      rcases hf with hf | hf | hf
      · omega
      · cases hf
      · cases hf
    have HT3 : Hid (Ti w w3 w1.heap.size x g 0 (.slice none 0 0) ⟨p, [], [], false, 0⟩ y y (.slice none 0 0) (.slice none 0 0) 0 ⟨p, [], [], false, 0⟩) := Lib.hid ⟨HI2.out.below b3, hy ▸ R3, hap3, B1.out.trans ((B2.out.trans (b3.mono B2.out.size)).mono B1.out.size), B1.out.size, hy ▸ Nat.le_trans B1.out.size B2.out.size, Nat.le_trans B2.out.size b3.size, hy ▸ b3.size⟩
    obtain ⟨n, hn⟩ : ∃ n, n = w1.heap.size := ⟨_, rfl⟩
    rw [← hy]
    rw [← hn] at HT3
    clear R3 b3 hy hn HI2 B2 B1 hap3
    go_wp2_with fail
    go_loopw [7] (fun kv wr => ∃ (k : Nat) (s : Sn) (e : Nat) (v : Value) (vr vf : Value) (lf : Nat), k ≤ acts.length ∧ kv = .int .i64 (k : Int) ∧ Hid (Ti w wr n x g e v s y y vr vf lf s)) (fun kv _ => acts.length - (intOf kv).toNat)
    case atStart => exact ⟨0, _, _, _, _, _, _, by omega, rfl, HT3⟩
    case round =>
      clear HT3
      obtain ⟨k, s, e, v, vr, vf, lf, hk, rfl, HTr⟩ := hrel
      by_cases hlt : k < acts.length
      · have d3 : decide ((k : Int) < (acts.length : Int)) = true := by simp; omega
        have HSr := HS.out.below HTr.out.bel (Nat.le_refl _)
        obtain ⟨gg, o, cc, tt, fr', rfl, hgl, kc, hsz, hxt, hcel⟩ := HSr.at hlt
        clear hcel
        have hok := HSr.2 _ (List.getElem_mem hlt)
        have HLE := Lib.hid (HGR.out _ (List.getElem_mem hlt))
        have HRA := Lib.hid (HS.out.2 _ (List.getElem_mem hlt)).rd
        obtain ⟨a, hy⟩ : ∃ a, a = acts[k] := ⟨_, rfl⟩
        rw [← hy] at hxt hok HLE HRA
        have lg := bk_lt kc
        have HOK := Lib.hid hok
        clear hok hy HSr
        go_upto_region 9 with fail
        rw [stRow_some _ _ _ _ _ _ _ _ (by simp) (Ac.row_size _) (Ac.row_ones _)]
        have a4 : Below wr.heap.size wr ((wr.alloc (.cells #[.int .u8 0, .int .u32 0, .slice none 0 0, .bool false, .int .i64 0] 34)).setRow wr.heap.size a.row) := below_setRow ((Below.refl _ _).alloc (Nat.le_refl _) _) (by simp) _
        have K4 : bk ((wr.alloc (.cells #[.int .u8 0, .int .u32 0, .slice none 0 0, .bool false, .int .i64 0] 34)).setRow wr.heap.size a.row) wr.heap.size = some (.cells a.row 34 (0, 0)) := by rw [bk_setRow_same, bk_alloc_at _ _ _ rfl]; rfl
        generalize (wr.alloc (.cells #[.int .u8 0, .int .u32 0, .slice none 0 0, .bool false, .int .i64 0] 34)).setRow wr.heap.size a.row = w5 at *
        have HT5 := Lib.hid (HTr.out.below a4)
        obtain ⟨bx, hbx⟩ : ∃ bx, bx = wr.heap.size := ⟨_, rfl⟩
        have HBF : Hid (∀ k, (Ft x g v k ∨ Fr y vr vf k) → k < bx) := Lib.hid fun k hk => by
          rcases hk with hk | hk
          · have := (HTr.out.ib.lt k hk).2; omega
          · have := (HTr.out.rb.lt k hk).2; omega
        have HAR := Lib.hid (HOK.out.rd.below a4 (by have := HTr.out.bel.size; omega))
        rw [← hbx] at K4 ⊢
        obtain ⟨e0, e1, e2, e3, e4⟩ := act_box K4
        have l5 := bk_lt K4
        obtain ⟨at', hae⟩ : ∃ at', at' = a.at' := ⟨_, rfl⟩
        have ha32 : at' < 4294967296 := hae ▸ HOK.out.a32
        obtain ⟨z, hze⟩ : ∃ z, z = a.n := ⟨_, rfl⟩
        have hzl : -9223372036854775808 ≤ z := hze ▸ HOK.out.nlo
        have hzh : z ≤ 9223372036854775807 := by have := HOK.out.nhi; rw [← hze] at this; omega
        rw [← hae] at e1
        rw [← hze] at e4
        obtain ⟨kd, hkd⟩ : ∃ kd, kd = a.kind.toNat % 3 := ⟨_, rfl⟩
        have hk1 : (a.kind.toNat : Int) % 3 = (kd : Int) := by omega
        have hk2 : (a.kind.toNat : Int).tmod 3 = (kd : Int) := by rw [Int.tmod_eq_emod_of_nonneg (by omega)]; exact hk1
        clear a4 HTr hbx kc hsz hxt lg K4 hgl hae hze hkd
        by_cases hk0 : kd = 0
        · subst hk0
          go_wp2_with fail
          refine (iread_any n x g e v s w5 HT5.out.ib HT5.out.nw z).mono ?_
          rintro r w6 ⟨u, v6, rfl, hu, I6, V6, T6⟩
          have HT6 := Lib.hid (HT5.out.inStep I6 (fun k hk => (V6 k hk).imp id And.left) (T6.weak fun k hk => .inl hk))
          have hxb : bx ≠ x := fun e => by have := HBF.out x (.inl (.inl rfl)); omega
          have e46 := (T6.cel l5 hxb 4).trans e4
          have l6 := Nat.lt_of_lt_of_le l5 T6.size
          obtain ⟨rd, hrd⟩ : ∃ rd, rd = s.reads z := ⟨_, rfl⟩
          obtain ⟨TK, hTK⟩ : ∃ TK : List UInt8, TK = s.ready.take rd := ⟨_, rfl⟩
          have hTl : TK.length = rd := by rw [hTK, List.length_take, hrd]; unfold Sn.reads; omega
          rw [← hrd, ← hTK] at hu
          obtain ⟨Au, cu, hvu, hru, hAu, hcu⟩ := Rd.of_own hu hTl.symm
          rw [hTl] at hvu hcu
          subst hvu
          have HU : Hid (∀ j, (Value.slice Au rd cu).ownBlock = some j → w5.heap.size ≤ j ∧ j < w6.heap.size ∧ ¬ Ft x g v6 j) := Lib.hid fun j hj => by
            obtain ⟨h1, h2⟩ := hu.lt j hj
            refine ⟨h1, h2, fun hf => ?_⟩
            rcases hf with hf | hf | hf
            · have := HBF.out x (.inl (.inl rfl)); omega
            · have := HBF.out g (.inl (.inr (.inl rfl))); omega
            · rcases V6 j hf with h3 | h3
              · have := HBF.out j (.inl (.inr (.inr h3))); omega
              · exact h3.2 hj
          have HOU := Lib.hid hu
          have hr8 : rd ≤ 8192 := by have := HT5.out.ib.ok.room; rw [hrd]; unfold Sn.reads; omega
          have CD := rread_any y y lf vr vf s w6 HT6.out.rb HT6.out.nw2 z ⟨hzl, hzh⟩
          rw [← hrd, ← hTK] at CD
          have HCD := Lib.hid CD
          have HTL := Lib.hid hTl
          have HW5 := Lib.hid HT5.out.bel.size
          obtain ⟨sr, hsr⟩ : ∃ sr, sr = s.read z := ⟨_, rfl⟩
          rw [← hsr] at HT6 HCD
          have HY := Lib.hid (HBF.out y (.inr (.inl rfl)))
          clear hu I6 V6 T6 CD hrd hTK hTl hru hAu hcu e0 e1 e2 e3 e4 HT5 hsr
          go_wp2_with fail
          refine HCD.out.mono ?_
          rintro r w7 ⟨u2, vr7, rfl, hu2, R7, F7, T7⟩
          have HT7 := Lib.hid (HT6.out.docStep R7 ⟨F7, fun k hk => .inl hk, T7.weak fun k hk => .inl hk⟩)
          obtain ⟨A3, c3, hv3, hr3, _, _⟩ := Rd.of_own hu2 HTL.out.symm
          rw [HTL.out] at hv3
          subst hv3
          have hu7 := own_turn (w' := w7) HOU.out fun j hj => T7.old j (HU.out j hj).2.1 fun e => by have := (HU.out j hj).1; have := HY.out; omega
          have HU7 : Hid (∀ j, (Value.slice Au rd cu).ownBlock = some j → ¬ Ft x g v6 j ∧ ¬ Fr y vr7 vf j ∧ w.heap.size ≤ j ∧ j < w7.heap.size) := Lib.hid fun j hj => by
            obtain ⟨h1, h2, h3⟩ := HU.out j hj
            refine ⟨h3, fun hf => ?_, Nat.le_trans HW5.out h1, Nat.lt_of_lt_of_le h2 T7.size⟩
            rcases hf with hf | hf | hf
            · have := HY.out; omega
            · rcases F7 j hf with h4 | h4
              · have := HBF.out j (.inr (.inr (.inl h4))); omega
              · omega
            · have := HBF.out j (.inr (.inr (.inr hf))); omega
          obtain ⟨A4, c4, hv4, hr4, _, _⟩ := Rd.of_own hu7 HTL.out.symm
          rw [HTL.out] at hv4
          cases hv4
          have CS := sameBytes_any Au A3 TK TK cu c3 w7 hr4 hr3 (by rw [HTL.out]; omega) (by rw [HTL.out]; omega)
          rw [HTL.out, beq_self_eq_true] at CS
          have HCS := Lib.hid CS
          have HO7 := Lib.hid hu7
          clear CS hr4 hr3 hu7 hu2 R7 F7 T7 HT6 HU HOU HCD
          go_wp2_with fail
          refine HCS.out.mono ?_
          rintro r w8 ⟨rfl, b8⟩
          have HT8 := Lib.hid (HT7.out.below b8)
          have HO8 := Lib.hid (own_turn HO7.out fun j hj => b8.block j (HO7.out.lt j hj).2)
          have HS8 := Lib.hid b8.size
          clear HCS b8 HT7 HO7
          go_wp2_with fail
          have a9 := (Below.refl w8.heap.size w8).alloc (Nat.le_refl _) (.cells #[.slice none 0 0] 50 (0, 0))
          have HT9 := Lib.hid (HT8.out.below a9)
          have ho9 := own_turn (w' := w8.alloc (.cells #[.slice none 0 0] 50 (0, 0))) HO8.out fun j hj => a9.block j (HO8.out.lt j hj).2
          obtain ⟨rm, rm1, rm2, rm3⟩ := Room.of_own ho9
          have hlo : ∀ j m, rg Au 0 cu j m → w.heap.size ≤ j := fun j m ⟨o', e', _⟩ => (HU7.out j (by rw [e']; rfl)).2.2.1
          have hw8 : w.heap.size ≤ w8.heap.size := HT8.out.bel.size
          refine (bytes_Bk w8.heap.size w.heap.size [] Au rd cu (w8.alloc (.cells #[.slice none 0 0] 50 (0, 0))) (Bk.new (bk_alloc_at _ _ _ rfl)) (by simp) hw8 (Nat.le_trans hw8 a9.size) rm rm1 rm2 hlo (fun l' hl' => by cases hl')).mono ?_
          rintro r w9 ⟨ib, zb, rfl, BK9, BF9, BL9⟩
          have HTA := Lib.hid (HT9.out.book BF9 (fun hf => by have := (HT8.out.ib.lt _ hf).2; omega) (fun hf => by have := (HT8.out.rb.lt _ hf).2; omega) hw8 BL9)
          have HBK := Lib.hid BK9
          have HW9 := Lib.hid (Nat.le_trans (Nat.le_trans hw8 a9.size) BL9.size)
          have HW8 := Lib.hid hw8
          clear a9 HT9 ho9 rm rm1 rm2 rm3 hlo hw8 BK9 BF9 BL9 HO8
          go_wp2_with fail
          refine (apart_Wk w8.heap.size w.heap.size _ w9 HBK.out HW8.out HW9.out (by simp)).mono ?_
          rintro r w10 ⟨rfl, W10⟩
          have HT10 := Lib.hid (HTA.out.keep (Wrt.tn W10) (fun j ⟨o', e'⟩ => (HU7.out j (by rw [e']; rfl)).1) (fun j ⟨o', e'⟩ => (HU7.out j (by rw [e']; rfl)).2.1) (fun j ⟨o', e'⟩ => (HU7.out j (by rw [e']; rfl)).2.2.1))
          clear W10 HTA HBK HT8 HU7 HW9 HW8 HS8
          obtain ⟨A20, c20, hv20, hr20, _, _⟩ := Rd.of_own HT10.out.rb.row rfl
          clear hr20
          cases hv20
          have ly20 := bk_lt HT10.out.rb.box
          have cy1 := bk_cell HT10.out.rb.box 1
          simp [rinC] at cy1
          have CN : Hid (∀ w', Below (w10).heap.size w10 w' → Calls Try.prog 10 #[.pointer (some ⟨x, 0, none⟩)] w' fun r w'' => r = .returned (.int .u32 ((sr).next : Int)) ∧ Below w'.heap.size w' w'') := Lib.hid fun w' hb => inext_any n x g e v6 _ w' (HT10.out.ib.below hb)
          have DN : Hid (∀ w', Below (w10).heap.size w10 w' → Calls Try.prog 30 #[.pointer (some ⟨y, 0, none⟩)] w' fun r w'' => r = .returned (.int .u32 ((sr).next : Int)) ∧ Below w'.heap.size w' w'') := Lib.hid fun w' hb => (rnext_any y y lf _ vf _ w' (HT10.out.rb.below hb)).mono fun r w'' q => ⟨q.1, q.2 ▸ Below.refl _ _⟩
          have CWi : Hid (∀ w', Below (w10).heap.size w10 w' → Calls Try.prog 31 #[.pointer (some ⟨x, 0, none⟩)] w' fun r w'' => r = .returned (.int .i64 ((sr).win : Int)) ∧ Below w'.heap.size w' w'') := Lib.hid fun w' hb => (iwindow_any n x g e v6 _ w' (HT10.out.ib.below hb)).mono fun r w'' q => ⟨q.1, q.2 ▸ Below.refl _ _⟩
          have DWi : Hid (∀ w', Below (w10).heap.size w10 w' → Calls Try.prog 32 #[.pointer (some ⟨y, 0, none⟩)] w' fun r w'' => r = .returned (.int .i64 ((sr).win : Int)) ∧ Below w'.heap.size w' w'') := Lib.hid fun w' hb => (rwindow_any y y lf _ vf _ w' (HT10.out.rb.below hb)).mono fun r w'' q => ⟨q.1, q.2 ▸ Below.refl _ _⟩
          have CRy : Hid (∀ w', Below (w10).heap.size w10 w' → Calls Try.prog 11 #[.pointer (some ⟨x, 0, none⟩)] w' fun r w'' => r = .returned (.int .i64 ((sr).ready.length : Int)) ∧ Below w'.heap.size w' w'') := Lib.hid fun w' hb => (iready_any n x g e v6 _ w' (HT10.out.ib.below hb)).mono fun r w'' q => ⟨q.1, q.2 ▸ Below.refl _ _⟩
          have CEn : Hid (∀ w', Below (w10).heap.size w10 w' → Calls Try.prog 15 #[.pointer (some ⟨x, 0, none⟩)] w' fun r w'' => r = .returned (.bool (sr).over) ∧ Below w'.heap.size w' w'') := Lib.hid fun w' hb => iended_any n x g e v6 _ w' (HT10.out.ib.below hb)
          have DEn : Hid (∀ w', Below (w10).heap.size w10 w' → Calls Try.prog 33 #[.pointer (some ⟨y, 0, none⟩)] w' fun r w'' => r = .returned (.bool (sr).over) ∧ Below w'.heap.size w' w'') := Lib.hid fun w' hb => (rended_any y y lf _ vf _ w' (HT10.out.rb.below hb)).mono fun r w'' q => ⟨q.1, q.2 ▸ Below.refl _ _⟩
          have COv : Hid (∀ w', Below (w10).heap.size w10 w' → Calls Try.prog 16 #[.pointer (some ⟨x, 0, none⟩)] w' fun r w'' => r = .returned (.bool ((sr).over && (sr).ready.length == 0)) ∧ Below w'.heap.size w' w'') := Lib.hid fun w' hb => iover_any n x g e v6 _ w' (HT10.out.ib.below hb)
          have DOv : Hid (∀ w', Below (w10).heap.size w10 w' → Calls Try.prog 34 #[.pointer (some ⟨y, 0, none⟩)] w' fun r w'' => r = .returned (.bool ((sr).over && (sr).ready.length == 0)) ∧ Below w'.heap.size w' w'') := Lib.hid fun w' hb => (rover_any y y lf _ vf _ w' (HT10.out.rb.below hb)).mono fun r w'' q => ⟨q.1, q.2 ▸ Below.refl _ _⟩
          obtain ⟨nx, hnx⟩ : ∃ nx, nx = (sr).next := ⟨_, rfl⟩
          obtain ⟨wi, hwi⟩ : ∃ wi, wi = (sr).win := ⟨_, rfl⟩
          obtain ⟨rl, hrl⟩ : ∃ rl, rl = (sr).ready.length := ⟨_, rfl⟩
          obtain ⟨en, hen⟩ : ∃ en, en = (sr).over := ⟨_, rfl⟩
          rw [← hrl, ← hen] at COv DOv
          obtain ⟨ov, hov⟩ : ∃ ov, ov = (en && rl == 0) := ⟨_, rfl⟩
          rw [← hnx] at CN DN
          rw [← hwi] at CWi DWi
          rw [← hrl] at CRy cy1
          rw [← hen] at CEn DEn
          rw [← hov] at COv DOv
          clear hnx hwi hrl hen hov
          go_upto_region 20 with fail
          refine wp_region_later ((w10).heap.size) (by kernel_rfl) (by kernel_rfl) ?_
          repeat (go_big_quiet_step ((rename_i xq; first | exact later_call xq (Nat.le_refl _) (CN.out xq.w xq.h) | exact later_call xq (Nat.le_refl _) (DN.out xq.w xq.h) | exact later_call xq (Nat.le_refl _) (CWi.out xq.w xq.h) | exact later_call xq (Nat.le_refl _) (DWi.out xq.w xq.h) | exact later_call xq (Nat.le_refl _) (CRy.out xq.w xq.h) | exact later_call xq (Nat.le_refl _) (CEn.out xq.w xq.h) | exact later_call xq (Nat.le_refl _) (DEn.out xq.w xq.h) | exact later_call xq (Nat.le_refl _) (COv.out xq.w xq.h) | exact later_call xq (Nat.le_refl _) (DOv.out xq.w xq.h))))
          (first | refine wpQuiet_nil ?_ | (go_big_quiet_want; (try go_big_quiet_op); trace_state; fail))
          intro wz hw'
          have bz := later_elim hw'
          clear hw'
          have HTz := Lib.hid (HT10.out.below bz)
          clear bz CN DN CWi DWi CRy CEn DEn COv DOv cy1
          go_wp2_with fail
          refine ⟨?_, ?_⟩
          rotate_left
          · simp [intOf]; omega
          · first
              | exact ⟨k + 1, _, _, _, _, _, _, by omega, by simp, HTz⟩
              | (repeat' apply Exists.intro
                 exact ⟨⟨k + 1, _, _, _, _, _, _, by omega, by simp, HTz⟩, rfl⟩)
        · have hkz : ((kd : Int) == 0) = false := by simp; omega
          obtain ⟨q, hq⟩ : ∃ q, q = (p + at') % 4294967296 := ⟨_, rfl⟩
          have hqI : ((p : Int) + (at' : Int)) % 4294967296 = (q : Int) := by omega
          have hqW : IntKind.u32.wrap ((p : Int) + (at' : Int)) = (q : Int) := by rw [IntKind.wrap_u32]; exact hqI
          have hq32 : q < m32 := hq ▸ Nat.mod_lt _ (by decide)
          have hll := HLE.out
          obtain ⟨fi, hfi⟩ : ∃ fi, fi = a.fin := ⟨_, rfl⟩
          rw [← hfi] at e3
          obtain ⟨pu, hpu⟩ : ∃ pu, pu = (s.put q a.l fi).2 := ⟨_, rfl⟩
          obtain ⟨sP, hsP⟩ : ∃ sP, sP = (s.put q a.l fi).1 := ⟨_, rfl⟩
          obtain ⟨tw', htw⟩ : ∃ tw', tw' = w5.heap.size := ⟨_, rfl⟩
          have hFt : ∀ j, Ft x g v j → j < bx := fun j hj => HBF.out j (.inl hj)
          have hFr : ∀ j, Fr y vr vf j → j < bx := fun j hj => HBF.out j (.inr hj)
          have hbt : bx < tw' := htw ▸ l5
          have CI : Hid (∀ (W : World) (vr' vf' : Value) (lf' : Nat) (s2 : Sn), Ti w W n x g e v s y y vr' vf' lf' s2 → bk W tw' = some (.cells (List.map B (tw a.l 199)).toArray 5 (0, 0)) →
              Calls Try.prog 9 #[.pointer (some ⟨x, 0, none⟩), .int .u32 (q : Int), .slice (some ⟨tw', 0, none⟩) a.l.length (a.l.length + 4), .bool fi] W fun r w' => r = .returned (.bool pu) ∧ (∃ e7 v7, Ti w w' n x g e7 v7 sP y y vr' vf' lf' s2) ∧ bk w' tw' = some (.cells (List.map B (tw a.l 199)).toArray 5 (0, 0)) ∧ ∀ o, w'.cell? ⟨bx, o, none⟩ = W.cell? ⟨bx, o, none⟩) := Lib.hid fun W vr' vf' lf' s2 hT hW => by
            refine (iput_any n x g e v s W hT.ib hT.nw q hq32 (some ⟨tw', 0, none⟩) a.l (a.l.length + 4) fi (Rd.of_bk hW (bk_lt hW) (tw_head a.l 199)) (fun _ bb o he hg => by cases he; have := hFt g (.inr (.inl rfl)); omega) (fun h => by cases h) (by omega) (by omega)).mono ?_
            rintro r w7 ⟨rfl, e7, v7, I7, V7, T7⟩
            refine ⟨by rw [hpu], ⟨e7, v7, hsP ▸ hT.inStep I7 V7 T7⟩, (T7.old tw' (bk_lt hW) (fun hf => by have := hFt _ hf; omega)).trans hW, fun o => T7.cel (Nat.lt_trans hbt (bk_lt hW)) (fun hf => by have := hFt _ hf; omega) o⟩
          have CD : Hid (∀ (W : World) (e' : Nat) (v' : Value) (s1 : Sn), Ti w W n x g e' v' s1 y y vr vf lf s → bk W tw' = some (.cells (List.map B (tw a.l 199)).toArray 5 (0, 0)) →
              Calls Try.prog 28 #[.pointer (some ⟨y, 0, none⟩), .int .u32 (q : Int), .slice a.A a.l.length a.c, .bool fi] W fun r w' => r = .returned (.bool pu) ∧ (∃ lf7 vr7 vf7, Ti w w' n x g e' v' s1 y y vr7 vf7 lf7 sP) ∧ bk w' tw' = some (.cells (List.map B (tw a.l 199)).toArray 5 (0, 0)) ∧ ∀ o, w'.cell? ⟨bx, o, none⟩ = W.cell? ⟨bx, o, none⟩) := Lib.hid fun W e' v' s1 hT hW => by
            refine (rput_any y y lf vr vf s W hT.rb hT.nw2 q hq32 a.A a.l a.c fi ((HRA.out.below hT.bel (Nat.le_refl _)).mono hT.l2) HOK.out.le (by omega)).mono ?_
            rintro r w7 ⟨rfl, lf7, vr7, vf7, R7, T7⟩
            refine ⟨by rw [hpu], ⟨lf7, vr7, vf7, hsP ▸ hT.docStep R7 T7⟩, (T7.t.old tw' (bk_lt hW) (fun hf => by have := hFr _ hf; omega)).trans hW, fun o => T7.t.cel (Nat.lt_trans hbt (bk_lt hW)) (fun hf => by have := hFr _ hf; omega) o⟩
          clear hq hFt hFr hpu hsP hfi
          go_wp2_with fail
          refine (twinBytes_any a.A a.l a.c w5 ((HRA.out.below HT5.out.bel (Nat.le_refl _)).mono HT5.out.bel.size) (by omega)).mono ?_
          rintro r w6 ⟨rfl, ht6, b6⟩
          rw [← htw] at ht6 ⊢
          have TS0 : Hid (Ti w w6.drew n x g e v s y y vr vf lf s) := Lib.hid ((HT5.out.below b6).below (Below.refl _ _).drew)
          have TW0 : Hid (bk w6.drew tw' = some (.cells (List.map B (tw a.l 199)).toArray 5 (0, 0))) := Lib.hid ht6
          have d1 := (b6.cell (p := ⟨bx, 1, none⟩) l5).trans e1
          have d2 := (b6.cell (p := ⟨bx, 2, none⟩) l5).trans e2
          have d3' := (b6.cell (p := ⟨bx, 3, none⟩) l5).trans e3
          have g1 : w6.drew.cell? ⟨bx, 1, none⟩ = some (.int .u32 (at' : Int)) := d1
          have g2 : w6.drew.cell? ⟨bx, 2, none⟩ = some (.slice a.A a.l.length a.c) := d2
          have g3 : w6.drew.cell? ⟨bx, 3, none⟩ = some (.bool fi) := d3'
          have l6 := Nat.lt_of_lt_of_le l5 b6.size
          have CL : Hid (∀ (W : World) (e' : Nat) (v' : Value) (s1 : Sn) (vr' vf' : Value) (lf' : Nat) (s2 : Sn), Ti w W n x g e' v' s1 y y vr' vf' lf' s2 → bk W tw' = some (.cells (List.map B (tw a.l 199)).toArray 5 (0, 0)) → Calls Try.prog 29 #[.slice (some ⟨tw', 0, none⟩) a.l.length (a.l.length + 4), .slice a.A a.l.length a.c] W fun r w' => r = .returned (.bool true) ∧ Below W.heap.size W w') := Lib.hid fun W e' v' s1 vr' vf' lf' s2 hT hW =>
            leftBytes_any a.A a.l a.c tw' W ((HRA.out.below hT.bel (Nat.le_refl _)).mono hT.bel.size) (by omega) hW
          clear b6 ht6 HT5 htw e0 e1 e2 e3 e4 l5 HAR HRA HOK
          go_upto_region 18 with fail
          go_region_held3 (fun w' => w'.cell? ⟨bx, 1, none⟩ = some (.int .u32 (at' : Int)) ∧ w'.cell? ⟨bx, 2, none⟩ = some (.slice a.A a.l.length a.c) ∧ w'.cell? ⟨bx, 3, none⟩ = some (.bool fi)) (first | assumption | go_keep)
            (first
              | (go_at_call 9; with_reducible refine (CI.out _ _ _ _ _ TS0.out TW0.out).mono ?_; rintro r wI ⟨rfl, ⟨eI, vI, tI⟩, wIt, hC⟩; have TSI := Lib.hid tI; have TWI := Lib.hid wIt; have k1 := (hC 1).trans g1; have k2 := (hC 2).trans g2; have k3 := (hC 3).trans g3; clear TS0 TW0 tI wIt hC CI)
              | (go_at_call 28; with_reducible refine (CD.out _ _ _ _ TS0.out TW0.out).mono ?_; rintro r wI ⟨rfl, ⟨lfD, vrD, vfD, tI⟩, wIt, hC⟩; have TSD := Lib.hid tI; have TWD := Lib.hid wIt; have k1 := (hC 1).trans g1; have k2 := (hC 2).trans g2; have k3 := (hC 3).trans g3; clear TS0 TW0 tI wIt hC CD)
              | (go_at_call 28; with_reducible refine (CD.out _ _ _ _ TSI.out TWI.out).mono ?_; rintro r wB ⟨rfl, ⟨lfD, vrD, vfD, tI⟩, wIt, hC⟩; have TSB := Lib.hid tI; have TWB := Lib.hid wIt; have m1 := (hC 1).trans k1; have m2 := (hC 2).trans k2; have m3 := (hC 3).trans k3; clear TSI TWI tI wIt hC CD)
              | (go_at_call 9; with_reducible refine (CI.out _ _ _ _ _ TSD.out TWD.out).mono ?_; rintro r wB ⟨rfl, ⟨eI, vI, tI⟩, wIt, hC⟩; have TSB := Lib.hid tI; have TWB := Lib.hid wIt; have m1 := (hC 1).trans k1; have m2 := (hC 2).trans k2; have m3 := (hC 3).trans k3; clear TSD TWD tI wIt hC CI)
              | (go_at_call 29; with_reducible refine (CL.out _ _ _ _ _ _ _ _ TSB.out TWB.out).mono ?_; rintro r wL ⟨rfl, bL⟩; have HTL := Lib.hid (TSB.out.below bL); have n1 := (bL.cell (p := ⟨bx, 1, none⟩) (Nat.lt_trans hbt (bk_lt TWB.out))).trans m1; have n2 := (bL.cell (p := ⟨bx, 2, none⟩) (Nat.lt_trans hbt (bk_lt TWB.out))).trans m2; have n3 := (bL.cell (p := ⟨bx, 3, none⟩) (Nat.lt_trans hbt (bk_lt TWB.out))).trans m3; clear TSB TWB bL CL))
          all_goals
            clear n1 n2 n3 m1 m2 m3 k1 k2 k3 g1 g2 g3
            go_wp2_with fail
            obtain ⟨A20, c20, hv20, hr20, _, _⟩ := Rd.of_own HTL.out.rb.row rfl
            clear hr20
            cases hv20
            have ly20 := bk_lt HTL.out.rb.box
            have cy1 := bk_cell HTL.out.rb.box 1
            simp [rinC] at cy1
            have CN : Hid (∀ w', Below (wL).heap.size wL w' → Calls Try.prog 10 #[.pointer (some ⟨x, 0, none⟩)] w' fun r w'' => r = .returned (.int .u32 ((sP).next : Int)) ∧ Below w'.heap.size w' w'') := Lib.hid fun w' hb => inext_any n x g eI vI _ w' (HTL.out.ib.below hb)
            have DN : Hid (∀ w', Below (wL).heap.size wL w' → Calls Try.prog 30 #[.pointer (some ⟨y, 0, none⟩)] w' fun r w'' => r = .returned (.int .u32 ((sP).next : Int)) ∧ Below w'.heap.size w' w'') := Lib.hid fun w' hb => (rnext_any y y lfD _ vfD _ w' (HTL.out.rb.below hb)).mono fun r w'' q => ⟨q.1, q.2 ▸ Below.refl _ _⟩
            have CWi : Hid (∀ w', Below (wL).heap.size wL w' → Calls Try.prog 31 #[.pointer (some ⟨x, 0, none⟩)] w' fun r w'' => r = .returned (.int .i64 ((sP).win : Int)) ∧ Below w'.heap.size w' w'') := Lib.hid fun w' hb => (iwindow_any n x g eI vI _ w' (HTL.out.ib.below hb)).mono fun r w'' q => ⟨q.1, q.2 ▸ Below.refl _ _⟩
            have DWi : Hid (∀ w', Below (wL).heap.size wL w' → Calls Try.prog 32 #[.pointer (some ⟨y, 0, none⟩)] w' fun r w'' => r = .returned (.int .i64 ((sP).win : Int)) ∧ Below w'.heap.size w' w'') := Lib.hid fun w' hb => (rwindow_any y y lfD _ vfD _ w' (HTL.out.rb.below hb)).mono fun r w'' q => ⟨q.1, q.2 ▸ Below.refl _ _⟩
            have CRy : Hid (∀ w', Below (wL).heap.size wL w' → Calls Try.prog 11 #[.pointer (some ⟨x, 0, none⟩)] w' fun r w'' => r = .returned (.int .i64 ((sP).ready.length : Int)) ∧ Below w'.heap.size w' w'') := Lib.hid fun w' hb => (iready_any n x g eI vI _ w' (HTL.out.ib.below hb)).mono fun r w'' q => ⟨q.1, q.2 ▸ Below.refl _ _⟩
            have CEn : Hid (∀ w', Below (wL).heap.size wL w' → Calls Try.prog 15 #[.pointer (some ⟨x, 0, none⟩)] w' fun r w'' => r = .returned (.bool (sP).over) ∧ Below w'.heap.size w' w'') := Lib.hid fun w' hb => iended_any n x g eI vI _ w' (HTL.out.ib.below hb)
            have DEn : Hid (∀ w', Below (wL).heap.size wL w' → Calls Try.prog 33 #[.pointer (some ⟨y, 0, none⟩)] w' fun r w'' => r = .returned (.bool (sP).over) ∧ Below w'.heap.size w' w'') := Lib.hid fun w' hb => (rended_any y y lfD _ vfD _ w' (HTL.out.rb.below hb)).mono fun r w'' q => ⟨q.1, q.2 ▸ Below.refl _ _⟩
            have COv : Hid (∀ w', Below (wL).heap.size wL w' → Calls Try.prog 16 #[.pointer (some ⟨x, 0, none⟩)] w' fun r w'' => r = .returned (.bool ((sP).over && (sP).ready.length == 0)) ∧ Below w'.heap.size w' w'') := Lib.hid fun w' hb => iover_any n x g eI vI _ w' (HTL.out.ib.below hb)
            have DOv : Hid (∀ w', Below (wL).heap.size wL w' → Calls Try.prog 34 #[.pointer (some ⟨y, 0, none⟩)] w' fun r w'' => r = .returned (.bool ((sP).over && (sP).ready.length == 0)) ∧ Below w'.heap.size w' w'') := Lib.hid fun w' hb => (rover_any y y lfD _ vfD _ w' (HTL.out.rb.below hb)).mono fun r w'' q => ⟨q.1, q.2 ▸ Below.refl _ _⟩
            obtain ⟨nx, hnx⟩ : ∃ nx, nx = (sP).next := ⟨_, rfl⟩
            obtain ⟨wi, hwi⟩ : ∃ wi, wi = (sP).win := ⟨_, rfl⟩
            obtain ⟨rl, hrl⟩ : ∃ rl, rl = (sP).ready.length := ⟨_, rfl⟩
            obtain ⟨en, hen⟩ : ∃ en, en = (sP).over := ⟨_, rfl⟩
            rw [← hrl, ← hen] at COv DOv
            obtain ⟨ov, hov⟩ : ∃ ov, ov = (en && rl == 0) := ⟨_, rfl⟩
            rw [← hnx] at CN DN
            rw [← hwi] at CWi DWi
            rw [← hrl] at CRy cy1
            rw [← hen] at CEn DEn
            rw [← hov] at COv DOv
            clear hnx hwi hrl hen hov
            go_upto_region 20 with fail
            refine wp_region_later ((wL).heap.size) (by kernel_rfl) (by kernel_rfl) ?_
            repeat (go_big_quiet_step ((rename_i xq; first | exact later_call xq (Nat.le_refl _) (CN.out xq.w xq.h) | exact later_call xq (Nat.le_refl _) (DN.out xq.w xq.h) | exact later_call xq (Nat.le_refl _) (CWi.out xq.w xq.h) | exact later_call xq (Nat.le_refl _) (DWi.out xq.w xq.h) | exact later_call xq (Nat.le_refl _) (CRy.out xq.w xq.h) | exact later_call xq (Nat.le_refl _) (CEn.out xq.w xq.h) | exact later_call xq (Nat.le_refl _) (DEn.out xq.w xq.h) | exact later_call xq (Nat.le_refl _) (COv.out xq.w xq.h) | exact later_call xq (Nat.le_refl _) (DOv.out xq.w xq.h))))
            (first | refine wpQuiet_nil ?_ | (go_big_quiet_want; (try go_big_quiet_op); trace_state; fail))
            intro wz hw'
            have bz := later_elim hw'
            clear hw'
            have HTz := Lib.hid (HTL.out.below bz)
            clear bz CN DN CWi DWi CRy CEn DEn COv DOv cy1
            go_wp2_with fail
            refine ⟨?_, ?_⟩
            rotate_left
            · simp [intOf]; omega
            · first
                | exact ⟨k + 1, _, _, _, _, _, _, by omega, by simp, HTz⟩
                | (repeat' apply Exists.intro
                   exact ⟨⟨k + 1, _, _, _, _, _, _, by omega, by simp, HTz⟩, rfl⟩)
      · obtain rfl : k = acts.length := by omega
        have d3 : decide ((acts.length : Int) < (acts.length : Int)) = false := by simp
        have FB := Lib.hid HTr.out.bel
        clear HTr
        go_wp2_with fail
        refine (lives27_any wr).mono ?_
        rintro r w5 ⟨rfl, b5⟩
        go_wp2_with fail
        go_ret
        exact ⟨rfl, FB.out.trans (b5.mono FB.out.size)⟩
end Go.Proofs.Ytjnfdpakpdahkaa

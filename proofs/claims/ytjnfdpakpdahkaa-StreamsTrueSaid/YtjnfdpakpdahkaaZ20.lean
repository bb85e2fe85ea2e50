/- Streams: what is read is a beginning of the text: the walk. -/
import Derived.Test.YtjnfdpakpdahkaaZ16
import Derived.Test.YtjnfdpakpdahkaaZ15
import Derived.Test.YtjnfdpakpdahkaaZ19
namespace Go.Proofs.Ytjnfdpakpdahkaa
open Go.RowKit
set_option maxRecDepth 100000
set_option maxHeartbeats 2000000
attribute [local irreducible] Ac.row
theorem Tn.cell' {G : Nat → Prop} {w w' : World} (h : Tn G w w') {b : Nat} (hb : b < w.heap.size) (hG : ¬ G b) (o : Nat) : w'.cell? ⟨b, o, none⟩ = w.cell? ⟨b, o, none⟩ :=
  World.cell?_of_block (a := ⟨b, o, none⟩) (h.old b hb hG)
/-- All that the walk holds: the end, the text of which it reads, what was got, apart. -/
structure Ts (w0 : World) (n x g p : Nat) (t : List UInt8) (w : World) (e : Nat) (v : Value) (s : Sn) (u : Value) (G : Nat) : Prop where
  ib : InB w n x g e v s
  tr : Tr p t G s
  row : w.ownsRow n 5 1 u G ((t.take G).map B)
  apart : ∀ k, u.ownBlock = some k → ¬ Ft x g v k
  bel : Below w0.heap.size w0 w
  le : w0.heap.size ≤ n
  nw : n ≤ w.heap.size
theorem Ts.below {w0 w w' : World} {n x g p e G : Nat} {t : List UInt8} {v u : Value} {s : Sn} (h : Ts w0 n x g p t w e v s u G) (hb : Below w.heap.size w w') : Ts w0 n x g p t w' e v s u G :=
  ⟨h.ib.below hb, h.tr, own_turn h.row fun k hk => hb.block k (h.row.lt k hk).2, h.apart, h.bel.trans (hb.mono h.bel.size), h.le, Nat.le_trans h.nw hb.size⟩
theorem Ts.put {w0 w w' : World} {n x g p e e' G : Nat} {t : List UInt8} {v v' u : Value} {s s' : Sn} (h : Ts w0 n x g p t w e v s u G) (ht : Tr p t G s') (hi : InB w' n x g e' v' s') (hv : ∀ k, v'.ownBlock = some k → v.ownBlock = some k ∨ w.heap.size ≤ k) (hT : Tn (Ft x g v) w w') :
    Ts w0 n x g p t w' e' v' s' u G :=
  ⟨hi, ht, own_turn h.row fun k hk => hT.old k (h.row.lt k hk).2 (h.apart k hk), fun k hk hf => by
    rcases hf with hf | hf | hf
    · exact h.apart k hk (.inl hf)
    · exact h.apart k hk (.inr (.inl hf))
    · rcases hv k hf with h1 | h1
      · exact h.apart k hk (.inr (.inr h1))
      · have := (h.row.lt k hk).2; omega, h.bel.trans (hT.below (fun k hk => Nat.le_trans h.le (h.ib.lt k hk).1) h.bel.size), h.le, Nat.le_trans h.nw hT.size⟩
theorem Ts.read {w0 w w1 w2 : World} {n x g p e G : Nat} {t : List UInt8} {v v1 u u2 uu : Value} {s : Sn} {m : Int} (h : Ts w0 n x g p t w e v s u G) (hi : InB w1 n x g e v1 (s.read m)) (hv : ∀ k, v1.ownBlock = some k → v.ownBlock = some k ∨ (w.heap.size ≤ k ∧ uu.ownBlock ≠ some k)) (hT : Tn (fun k => k = x) w w1)
    (ho : w2.ownsRow n 5 1 u2 (G + s.reads m) ((t.take (G + s.reads m)).map B)) (hg : w1.grownBy w2 u.ownBlock) (ha : u2.ownBlock = u.ownBlock ∨ u2.ownBlock = some w1.heap.size) :
    Ts w0 n x g p t w2 e v1 (s.read m) u2 (G + s.reads m) := by
  have hap : ∀ k, u.ownBlock = some k → ¬ Ft x g v1 k := fun k hk hf => by
    rcases hf with hf | hf | hf
    · exact h.apart k hk (.inl hf)
    · exact h.apart k hk (.inr (.inl hf))
    · rcases hv k hf with h1 | h1
      · exact h.apart k hk (.inr (.inr h1))
      · have := (h.row.lt k hk).2; omega
  have B1 := hT.below (n := w0.heap.size) (fun k hk => hk ▸ Nat.le_trans h.le h.ib.nx) h.bel.size
  refine ⟨hi.keep (Tn.grown (F := fun k => u.ownBlock = some k) hg fun k hk => hk) fun k hk => hap k hk, h.tr.read m, ho, fun k hk => ?_, h.bel.trans (B1.grown hg (Nat.le_trans h.bel.size hT.size) fun k hk => Nat.le_trans h.le (h.row.lt k hk).1), h.le, Nat.le_trans (Nat.le_trans h.nw hT.size) hg.size⟩
  rcases ha with ha | ha
  · exact hap k (ha ▸ hk)
  · rw [ha] at hk
    cases hk
    exact fun hf => by have := (hi.lt _ hf).2; omega
theorem streamsTrue_long (p : Nat) (A A2 : Option Addr) (k c : Nat) (acts : List Ac) (c2 : Nat) (w : World) (h : 8000 < k) (hk : k < 2 ^ 63) (hs : As w w.heap.size A2 acts) (hal : acts.length < 2 ^ 63) :
    Calls Try.prog 4 #[.int .u32 (p : Int), .slice A k c, .slice A2 acts.length c2] w fun e w' => e = .returned (.bool true) ∧ Below w.heap.size w w' := by
  have CG := Lib.hid (great_any A2 acts c2 w hs hal)
  have d1 : decide ((k : Int) > 8000) = true := by simp; omega
  clear h
  go_enter Try.func4, Try.ntmps4
  go_wp2_with fail
  refine CG.out.mono ?_
  rintro e w1 ⟨b, rfl, _, b1⟩
  have LV := Lib.hid (lives27_any w1)
  clear CG
  cases b
  all_goals
    go_wp2_with fail
    refine LV.out.mono ?_
    rintro e w2 ⟨rfl, b2⟩
    go_wp2_with fail
    go_ret
    exact ⟨rfl, b1.trans (b2.mono b1.size)⟩
theorem streamsTrue_walk (p : Nat) (A A2 : Option Addr) (l : List UInt8) (acts : List Ac) (c c2 : Nat) (w : World) (hp : p < m32) (hr : Rd w w.heap.size A l) (hA : A = none → l = [] ∧ c = 0) (hc : l.length ≤ c) (hl : l.length ≤ 8000) (hs : As w w.heap.size A2 acts) (hal : acts.length < 2 ^ 63) :
    Calls Try.prog 4 #[.int .u32 (p : Int), .slice A l.length c, .slice A2 acts.length c2] w fun e w' => e = .returned (.bool true) ∧ Below w.heap.size w w' := by
  have HR := Lib.hid hr; have HA := Lib.hid hA; have HS := Lib.hid hs; have HP := Lib.hid hp
  obtain ⟨L, hL⟩ : ∃ L, L = l.length := ⟨_, rfl⟩
  rw [← hL] at hc hl ⊢
  have HL := Lib.hid hL.symm
  have CG := Lib.hid (great_any A2 acts c2 w hs hal)
  have dL : decide ((L : Int) > 8000) = false := by simp; omega
  clear hr hA hs hp hL
  go_enter Try.func4, Try.ntmps4
  go_wp2_with fail
  refine CG.out.mono ?_
  rintro e w1 ⟨b, rfl, _, b1⟩
  have B1 := Lib.hid b1
  clear CG b1
  cases b
  rotate_left
  · go_wp2_with fail
    refine (lives27_any w1).mono ?_
    rintro e w2 ⟨rfl, b2⟩
    go_wp2_with fail
    go_ret
    exact ⟨rfl, B1.out.trans (b2.mono B1.out.size)⟩
  · go_wp2_with fail
    refine (newin_any p w1 HP.out).mono ?_
    rintro e w2 ⟨x, g, rfl, I2, b2⟩
    obtain ⟨n, hn⟩ : ∃ n, n = w1.heap.size := ⟨_, rfl⟩
    rw [← hn] at I2
    have HT2 : Hid (Ts w n x g p l w2 0 (.slice none 0 0) ⟨p, [], [], false, 0⟩ (.slice none 0 0) 0) := Lib.hid ⟨I2, Tr.start HP.out l, by rw [List.take_zero]; exact World.ownsRow_nil _ _ _ _, fun k hk => (by cases hk), B1.out.trans (b2.mono B1.out.size), hn ▸ B1.out.size, hn ▸ b2.size⟩
    clear I2 b2 hn B1
    go_wp2_with fail
    go_loopw [8, 10] (fun gv kv wr => ∃ (k G : Nat) (s : Sn) (e : Nat) (v : Value) (Ag : Option Addr) (cg : Nat), k ≤ acts.length ∧ kv = .int .i64 (k : Int) ∧ gv = .slice Ag G cg ∧ Hid (Ts w n x g p l wr e v s (.slice Ag G cg) G)) (fun _ kv _ => acts.length - (intOf kv).toNat)
    case atStart => exact ⟨0, 0, _, 0, .slice none 0 0, none, 0, by omega, rfl, rfl, HT2⟩
    case round =>
      clear HT2
      obtain ⟨k, G, s, e, v, Ag, cg, hk, rfl, rfl, HTr⟩ := hrel
      have hGle := HTr.out.tr.le
      by_cases hlt : k < acts.length
      · have d3 : decide ((k : Int) < (acts.length : Int)) = true := by simp; omega
        have HSr := HS.out.below HTr.out.bel (Nat.le_refl _)
        obtain ⟨gg, o, cc, tt, fr', rfl, hgl, kc, hsz, hxt, hcel⟩ := HSr.at hlt
        clear hcel
        have hok := HSr.2 _ (List.getElem_mem hlt)
        obtain ⟨y, hy⟩ : ∃ y, y = acts[k] := ⟨_, rfl⟩
        rw [← hy] at hxt hok
        have lg := bk_lt kc
        have HOK := Lib.hid hok
        clear hok hy HSr
        go_upto_region 12 with fail
        rw [stRow_some _ _ _ _ _ _ _ _ (by simp) (Ac.row_size _) (Ac.row_ones _)]
        have a4 : Below wr.heap.size wr ((wr.alloc (.cells #[.int .u8 0, .int .u32 0, .slice none 0 0, .bool false, .int .i64 0] 34)).setRow wr.heap.size y.row) := below_setRow ((Below.refl _ _).alloc (Nat.le_refl _) _) (by simp) _
        have K4 : bk ((wr.alloc (.cells #[.int .u8 0, .int .u32 0, .slice none 0 0, .bool false, .int .i64 0] 34)).setRow wr.heap.size y.row) wr.heap.size = some (.cells y.row 34 (0, 0)) := by rw [bk_setRow_same, bk_alloc_at _ _ _ rfl]; rfl
        generalize (wr.alloc (.cells #[.int .u8 0, .int .u32 0, .slice none 0 0, .bool false, .int .i64 0] 34)).setRow wr.heap.size y.row = w5 at *
        have HT5 := Lib.hid (HTr.out.below a4)
        obtain ⟨bx, hbx⟩ : ∃ bx, bx = wr.heap.size := ⟨_, rfl⟩
        have hbF : ∀ k, Ft x g v k → k ≠ bx := fun k hk => by have := (HTr.out.ib.lt k hk).2; omega
        rw [← hbx] at K4 ⊢
        obtain ⟨e0, e1, e2, e3, e4⟩ := act_box K4
        have l5 := bk_lt K4
        obtain ⟨a, hae⟩ : ∃ a, a = y.at' := ⟨_, rfl⟩
        have ha32 : a < 4294967296 := hae ▸ HOK.out.a32
        obtain ⟨z, hze⟩ : ∃ z, z = y.n := ⟨_, rfl⟩
        have hzl : -9223372036854775808 ≤ z := hze ▸ HOK.out.nlo
        have hzh : z ≤ 9223372036854775807 := by have := HOK.out.nhi; rw [← hze] at this; omega
        obtain ⟨fi, hfi⟩ : ∃ fi, fi = y.fin := ⟨_, rfl⟩
        rw [← hae] at e1
        rw [← hze] at e4
        rw [← hfi] at e3
        obtain ⟨fr, hfr⟩ : ∃ fr, fr = a % (L + 1) := ⟨_, rfl⟩
        have hfrL : fr ≤ L := by have := Nat.mod_lt a (show 0 < L + 1 by omega); omega
        have hm1 : (a : Int) % ((L : Int) + 1) = (fr : Int) := by rw [show ((L : Int) + 1) = ((L + 1 : Nat) : Int) by omega, hfr]; rfl
        have hm2 : (a : Int).tmod ((L : Int) + 1) = (fr : Int) := by rw [Int.tmod_eq_emod_of_nonneg (by omega)]; exact hm1
        have hLc : ((L : Int) + 1) % 4294967296 = (L : Int) + 1 := by omega
        obtain ⟨mx, hmxe⟩ : ∃ mx, mx = z.toNat := ⟨_, rfl⟩
        have hmx : (if (0 : Int) < z then z else 0) = (mx : Int) := by subst hmxe; split <;> omega
        obtain ⟨mr, hmr⟩ : ∃ mr, mr = mx % 500 := ⟨_, rfl⟩
        have hmr1 : (mx : Int) % 500 = (mr : Int) := by omega
        have hmr2 : (mx : Int).tmod 500 = (mr : Int) := by rw [Int.tmod_eq_emod_of_nonneg (by omega)]; exact hmr1
        have hmr5 : mr < 500 := by omega
        obtain ⟨tq, htq⟩ : ∃ tq, tq = min L (fr + mr) := ⟨_, rfl⟩
        have htqI : (if (fr : Int) + (mr : Int) < (L : Int) then (fr : Int) + (mr : Int) else (L : Int)) = (tq : Int) := by split <;> omega
        have htqL : fr ≤ tq ∧ tq ≤ L := by omega
        have hftI : (fr : Int) ≤ (tq : Int) := by omega
        have htcI : (tq : Int) ≤ (c : Int) := by omega
        obtain ⟨K, hK⟩ : ∃ K, K = tq - fr := ⟨_, rfl⟩
        have hKe : tq - fr = K := hK.symm
        obtain ⟨qf, hqf⟩ : ∃ qf, qf = (p + fr) % m32 := ⟨_, rfl⟩
        have hqfI : ((p : Int) + (fr : Int)) % 4294967296 = (qf : Int) := by subst hqf; unfold m32; omega
        have hfrc : (fr : Int) % 4294967296 = (fr : Int) := by omega
        obtain ⟨tb, htb⟩ : ∃ tb, tb = (tq == L) := ⟨_, rfl⟩
        have htbI : ((tq : Int) == (L : Int)) = tb := by rw [htb]; exact Bool.eq_iff_iff.2 (by simp only [beq_iff_eq]; omega)
        have hPl : ((l.drop fr).take K).length = K := by rw [List.length_take, List.length_drop, HL.out]; omega
        have CP : Hid (∀ (w6 : World), Below w5.heap.size w5 w6 → ∀ (ff : Bool) (X : Option Addr) (cx : Nat), (ff = true → tq = L) → Rd w6 w6.heap.size X ((l.drop fr).take K) → (X = none → (l.drop fr).take K = [] ∧ cx = 0) → K ≤ cx → (0 < K → ∀ bb o, X = some ⟨bb, o, none⟩ → bb ≠ g) →
            Calls Try.prog 9 #[.pointer (some ⟨x, 0, none⟩), .int .u32 (qf : Int), .slice X K cx, .bool ff] w6 fun r w7 => (∃ b, r = .returned (.bool b)) ∧ (∃ s7 e7 v7, Hid (Ts w n x g p l w7 e7 v7 s7 (.slice Ag G cg) G)) ∧ (∀ o, w7.cell? ⟨bx, o, none⟩ = w6.cell? ⟨bx, o, none⟩) ∧ w6.heap.size ≤ w7.heap.size) := Lib.hid fun w6 b6 ff X cx hff hX hXn hKc hXg => by
          have H6 := HT5.out.below b6
          have := iput_any n x g e v s w6 H6.ib H6.nw qf (hqf ▸ Nat.mod_lt _ (by decide)) X ((l.drop fr).take K) cx ff hX (by rw [hPl]; exact hXg) hXn (by rw [hPl]; exact hKc) (by rw [hPl]; omega)
          rw [hPl] at this
          refine this.mono ?_
          rintro r w7 ⟨rfl, e7, v7, I7, V7, T7⟩
          have ht := H6.tr.put (by rw [HL.out]; exact hl) fr K (by rw [HL.out]; omega) ff (fun h => by rw [HL.out]; have := hff h; omega)
          rw [← hqf] at ht
          exact ⟨⟨_, rfl⟩, ⟨_, e7, v7, Lib.hid (H6.put ht I7 V7 T7)⟩, fun o => T7.cell' (Nat.lt_of_lt_of_le l5 b6.size) (fun hf => hbF bx hf rfl) o, T7.size⟩
        have HX1 : Hid (c = fr → ∀ w6, Below w5.heap.size w5 w6 → ∀ ff, (ff = true → tq = L) → Calls Try.prog 9 #[.pointer (some ⟨x, 0, none⟩), .int .u32 (qf : Int), .slice A K 0, .bool ff] w6 fun r w7 => (∃ b, r = .returned (.bool b)) ∧ (∃ s7 e7 v7, Hid (Ts w n x g p l w7 e7 v7 s7 (.slice Ag G cg) G)) ∧ (∀ o, w7.cell? ⟨bx, o, none⟩ = w6.cell? ⟨bx, o, none⟩) ∧ w6.heap.size ≤ w7.heap.size) := Lib.hid fun hcf w6 b6 ff hff =>
          CP.out w6 b6 ff A 0 hff (fun h0 => by rw [hPl] at h0; omega) (fun _ => ⟨List.eq_nil_of_length_eq_zero (by rw [hPl]; omega), rfl⟩) (by omega) (fun h0 => by omega)
        have HX2 : Hid (¬ c = fr → ∀ w6, Below w5.heap.size w5 w6 → ∀ ff, (ff = true → tq = L) → Calls Try.prog 9 #[.pointer (some ⟨x, 0, none⟩), .int .u32 (qf : Int), .slice (Option.map (fun x => x.add fr) A) K (c - fr), .bool ff] w6 fun r w7 => (∃ b, r = .returned (.bool b)) ∧ (∃ s7 e7 v7, Hid (Ts w n x g p l w7 e7 v7 s7 (.slice Ag G cg) G)) ∧ (∀ o, w7.cell? ⟨bx, o, none⟩ = w6.cell? ⟨bx, o, none⟩) ∧ w6.heap.size ≤ w7.heap.size) := Lib.hid fun hcf w6 b6 ff hff => by
          have h1 := (HR.out.adv (c := c) (m := fr) (by rw [HL.out]; exact hc))
          unfold adv at h1
          rw [if_neg hcf] at h1
          have h2 := h1.take (m := K)
          have B6 := HT5.out.bel.trans (b6.mono HT5.out.bel.size)
          refine CP.out w6 b6 ff _ _ hff ((h2.below B6 (Nat.le_refl _)).mono B6.size) (fun h0 => ?_) (by omega) (fun h0 => ?_)
          · have h3 := HA.out (by simpa using h0)
            refine ⟨by rw [h3.1]; simp, by omega⟩
          · exact h2.far (Nat.le_trans HT5.out.le HT5.out.ib.ng) (by rw [hPl]; exact h0)
        have HTQ := Lib.hid htb
        have hGl2 : G ≤ 8000 := by have := HL.out; omega
        obtain ⟨kd, hkd⟩ : ∃ kd, kd = y.kind.toNat % 2 := ⟨_, rfl⟩
        have hk1 : (y.kind.toNat : Int) % 2 = (kd : Int) := by omega
        have hk2 : (y.kind.toNat : Int).tmod 2 = (kd : Int) := by rw [Int.tmod_eq_emod_of_nonneg (by omega)]; exact hk1
        obtain ⟨m3, hm3⟩ : ∃ m3, m3 = mx % 300 := ⟨_, rfl⟩
        have h31 : (mx : Int) % 300 = (m3 : Int) := by omega
        have h32 : (mx : Int).tmod 300 = (m3 : Int) := by rw [Int.tmod_eq_emod_of_nonneg (by omega)]; exact h31
        have hbx7 : bx ≠ x := fun e9 => hbF x (.inl rfl) e9.symm
        clear a4 HTr hbx kc hsz hxt lg K4 hgl hae hze hfi e2 HOK hfr hmxe hmr htq hK hqf htb hPl hbF CP hkd hm3 htqL hGle
        go_upto_region 12 with fail
        by_cases hcf : c = fr
        · have HXX := HX1.out hcf
          clear HX1 HX2
          subst hcf
          cases fi
          · skip
            refine wp_region_later_tail (w5.heap.size) 16 (by kernel_rfl) (by kernel_rfl) ?_
            simp only [List.take_succ_cons, List.take_zero, List.drop_succ_cons, List.drop_zero]
            repeat (go_big_quiet_step ((fail)))
            (first | refine wpQuiet_nil ?_ | (go_big_quiet_want; (try go_big_quiet_op); trace_state; fail))
            intro w6 hw'
            have b6 := later_elim hw'
            clear hw'
            have C7 := Lib.hid (HXX w6 b6 false (fun h => by cases h))
            have k0 := (b6.cell (p := ⟨bx, 0, none⟩) l5).trans e0
            have k4 := (b6.cell (p := ⟨bx, 4, none⟩) l5).trans e4
            have l6 := Nat.lt_of_lt_of_le l5 b6.size
            clear b6 e0 e4 e1 e3 l5 HT5
            go_wp2_with fail
            with_reducible refine C7.out.mono ?_
            rintro r7 w7 ⟨⟨bv, rfl⟩, ⟨s7, e7, v7, HT7⟩, hc7, hz7⟩
            have f0 := (hc7 0).trans k0
            have f4 := (hc7 4).trans k4
            have l7 := Nat.lt_of_lt_of_le l6 hz7
            clear C7 k0 k4 l6 hc7 hz7
            by_cases hk0 : kd = 0
            · subst hk0
              go_wp2_with fail
              refine (iread_any n x g e7 v7 s7 w7 HT7.out.ib HT7.out.nw (m3 : Int)).mono ?_
              rintro e w8 ⟨uu, v8, rfl, hou, I8, V8, T8⟩
              have hrl : s7.reads (m3 : Int) ≤ s7.ready.length := by unfold Sn.reads; omega
              have hgot := HT7.out.tr.got (m3 : Int)
              have FIN : Hid (∀ (w9 : World) (u2 : Value), w9.ownsRow n 5 1 u2 (G + s7.reads (m3 : Int)) ((l.take (G + s7.reads (m3 : Int))).map B) → w8.grownBy w9 (Value.slice Ag G cg).ownBlock → (u2.ownBlock = (Value.slice Ag G cg).ownBlock ∨ u2.ownBlock = some w8.heap.size) → Ts w n x g p l w9 e7 v8 (s7.read (m3 : Int)) u2 (G + s7.reads (m3 : Int))) := Lib.hid fun w9 u2 h1 h2 h3 => HT7.out.read I8 V8 T8 h1 h2 h3
              obtain ⟨rd, hrd⟩ : ∃ rd, rd = s7.reads (m3 : Int) := ⟨_, rfl⟩
              rw [← hrd] at hou hgot hrl FIN
              obtain ⟨RD, hRD⟩ : ∃ RD : List UInt8, RD = s7.ready.take rd := ⟨_, rfl⟩
              have hRl : RD.length = rd := by rw [hRD, List.length_take]; omega
              obtain ⟨LG, hLG⟩ : ∃ LG : List UInt8, LG = l.take G := ⟨_, rfl⟩
              have hLl : LG.length = G := by rw [hLG, List.length_take]; have := HL.out; have := HT7.out.tr.le; omega
              rw [← hRD] at hou hgot
              rw [← hLG] at hgot
              obtain ⟨Au, cu, rfl, hru, hAu, hcu⟩ := Rd.of_own hou hRl.symm
              have hog := own_turn (w' := w8) HT7.out.row fun j hj => T8.old j (HT7.out.row.lt j hj).2 fun hf => HT7.out.apart j hj (.inl hf)
              rw [← hLG] at hog
              have hrd8 : rd ≤ 8192 := by have := HT7.out.ib.ok.room; omega
              have HOG : Hid (w8.ownsRow n 5 1 (.slice Ag G cg) LG.length (LG.map B)) := Lib.hid (by rw [hLl]; exact hog)
              have HRU := Lib.hid hru; have HAU := Lib.hid hAu; have HRL := Lib.hid hRl; have HLL := Lib.hid hLl; have HGOT := Lib.hid hgot
              have HNW := Lib.hid (Nat.le_trans HT7.out.nw T8.size)
              have T84 := (T8.cell' l7 (fun e9 => hbx7 e9) 4).trans f4
              rw [hRl]
              clear hou hrl hgot hrd hRD hLG hRl hLl hru hAu hcu hog I8 V8 T8 f0 f4 HT7
              go_wp2_with (at_builtin; refine wpList_app rfl _ _ rfl n (.slice Ag G cg) LG RD rd rfl HOG.out Au cu rfl HRL.out.symm HRU.out HAU.out HNW.out (by rw [HRL.out, HLL.out]; omega) ?_)
              intro A9 c9 w9 ho9 hg9 ha9
              obtain ⟨G2, hG2⟩ : ∃ G2, G2 = G + rd := ⟨_, rfl⟩
              have ho9' : w9.ownsRow n 5 1 (.slice A9 (G + rd) c9) (G + rd) ((l.take (G + rd)).map B) := by rw [← HGOT.out]; simpa [appB, HRL.out, HLL.out] using ho9
              rw [HLL.out, HRL.out] at ha9 ⊢
              have ht9 := FIN.out w9 (.slice A9 (G + rd) c9) ho9' hg9 ha9
              rw [← hG2] at ht9 ⊢
              have HT9 := Lib.hid ht9
              clear ht9 ho9 ho9' hg9 ha9 hG2 FIN HOG HRU HAU HRL HLL HGOT HNW
              obtain ⟨R, hR⟩ : ∃ R, R = ((s7.read (m3 : Int))).ready.length := ⟨_, rfl⟩
              have hle15 := HT9.out.tr.le
              have CR := iready_any n x g e7 v8 (s7.read (m3 : Int)) w9 HT9.out.ib
              rw [← hR] at CR hle15
              obtain ⟨A15, c15, hv15, hr15, hA15, hc15⟩ := Rd.of_own HT9.out.row (by rw [List.length_take]; have := HL.out; omega)
              have hGl : (l.take G2).length = G2 := by rw [List.length_take]; have := HL.out; omega
              rw [hGl] at hv15
              cases hv15
              have CS := sameBytes_any A9 A (l.take G2) (l.take G2) c9 c w9 hr15 ((HR.out.take.below HT9.out.bel (Nat.le_refl _)).mono HT9.out.bel.size) (by rw [hGl]; have := HL.out; omega) (by rw [hGl]; have := HL.out; omega)
              rw [hGl, beq_self_eq_true] at CS
              have HCR := Lib.hid CR
              have HCS := Lib.hid CS
              have hGL : G2 ≤ L := by have := HL.out; omega
              have hsum : (G2 : Int) + (R : Int) ≤ (L : Int) := by have := HL.out; omega
              have hGc : (G2 : Int) ≤ (c : Int) := by omega
              have hGm : (G2 : Int) ≤ 8000 := by omega
              have hRm : (R : Int) ≤ 8000 := by omega
              clear CR CS hr15 hA15 hc15 hGl hR hle15
              go_wp2_with fail
              refine HCR.out.mono ?_
              rintro e wa ⟨rfl, rfl⟩
              go_wp2_with fail
              refine HCS.out.mono ?_
              rintro e wb ⟨rfl, bb⟩
              have HTb := Lib.hid (HT9.out.below bb)
              clear bb HCR HCS
              go_wp2_with fail
              refine ⟨?_, ?_⟩
              rotate_left
              · simp [intOf]; omega
              · first
                  | exact ⟨k + 1, G2, (s7.read (m3 : Int)), e7, v8, A9, c9, by omega, by simp, rfl, HTb⟩
                  | (repeat' apply Exists.intro
                     exact ⟨⟨k + 1, G2, (s7.read (m3 : Int)), e7, v8, A9, c9, by omega, by simp, rfl, HTb⟩, rfl⟩)
            · have hkz : ((kd : Int) == 0) = false := by simp; omega
              obtain ⟨R, hR⟩ : ∃ R, R = (s7).ready.length := ⟨_, rfl⟩
              have hle15 := HT7.out.tr.le
              have CR := iready_any n x g e7 v7 s7 w7 HT7.out.ib
              rw [← hR] at CR hle15
              obtain ⟨A15, c15, hv15, hr15, hA15, hc15⟩ := Rd.of_own HT7.out.row (by rw [List.length_take]; have := HL.out; omega)
              have hGl : (l.take G).length = G := by rw [List.length_take]; have := HL.out; omega
              rw [hGl] at hv15
              cases hv15
              have CS := sameBytes_any Ag A (l.take G) (l.take G) cg c w7 hr15 ((HR.out.take.below HT7.out.bel (Nat.le_refl _)).mono HT7.out.bel.size) (by rw [hGl]; have := HL.out; omega) (by rw [hGl]; have := HL.out; omega)
              rw [hGl, beq_self_eq_true] at CS
              have HCR := Lib.hid CR
              have HCS := Lib.hid CS
              have hGL : G ≤ L := by have := HL.out; omega
              have hsum : (G : Int) + (R : Int) ≤ (L : Int) := by have := HL.out; omega
              have hGc : (G : Int) ≤ (c : Int) := by omega
              have hGm : (G : Int) ≤ 8000 := by omega
              have hRm : (R : Int) ≤ 8000 := by omega
              clear CR CS hr15 hA15 hc15 hGl hR hle15
              go_wp2_with fail
              refine HCR.out.mono ?_
              rintro e wa ⟨rfl, rfl⟩
              go_wp2_with fail
              refine HCS.out.mono ?_
              rintro e wb ⟨rfl, bb⟩
              have HTb := Lib.hid (HT7.out.below bb)
              clear bb HCR HCS
              go_wp2_with fail
              refine ⟨?_, ?_⟩
              rotate_left
              · simp [intOf]; omega
              · first
                  | exact ⟨k + 1, G, s7, e7, v7, Ag, cg, by omega, by simp, rfl, HTb⟩
                  | (repeat' apply Exists.intro
                     exact ⟨⟨k + 1, G, s7, e7, v7, Ag, cg, by omega, by simp, rfl, HTb⟩, rfl⟩)
          · skip
            refine wp_region_later_tail (w5.heap.size) 16 (by kernel_rfl) (by kernel_rfl) ?_
            simp only [List.take_succ_cons, List.take_zero, List.drop_succ_cons, List.drop_zero]
            repeat (go_big_quiet_step ((fail)))
            (first | refine wpQuiet_nil ?_ | (go_big_quiet_want; (try go_big_quiet_op); trace_state; fail))
            intro w6 hw'
            have b6 := later_elim hw'
            clear hw'
            have C7 := Lib.hid (HXX w6 b6 tb (fun h => by have := HTQ.out; rw [h] at this; simpa using this.symm))
            have k0 := (b6.cell (p := ⟨bx, 0, none⟩) l5).trans e0
            have k4 := (b6.cell (p := ⟨bx, 4, none⟩) l5).trans e4
            have l6 := Nat.lt_of_lt_of_le l5 b6.size
            clear b6 e0 e4 e1 e3 l5 HT5
            go_wp2_with fail
            with_reducible refine C7.out.mono ?_
            rintro r7 w7 ⟨⟨bv, rfl⟩, ⟨s7, e7, v7, HT7⟩, hc7, hz7⟩
            have f0 := (hc7 0).trans k0
            have f4 := (hc7 4).trans k4
            have l7 := Nat.lt_of_lt_of_le l6 hz7
            clear C7 k0 k4 l6 hc7 hz7
            by_cases hk0 : kd = 0
            · subst hk0
              go_wp2_with fail
              refine (iread_any n x g e7 v7 s7 w7 HT7.out.ib HT7.out.nw (m3 : Int)).mono ?_
              rintro e w8 ⟨uu, v8, rfl, hou, I8, V8, T8⟩
              have hrl : s7.reads (m3 : Int) ≤ s7.ready.length := by unfold Sn.reads; omega
              have hgot := HT7.out.tr.got (m3 : Int)
              have FIN : Hid (∀ (w9 : World) (u2 : Value), w9.ownsRow n 5 1 u2 (G + s7.reads (m3 : Int)) ((l.take (G + s7.reads (m3 : Int))).map B) → w8.grownBy w9 (Value.slice Ag G cg).ownBlock → (u2.ownBlock = (Value.slice Ag G cg).ownBlock ∨ u2.ownBlock = some w8.heap.size) → Ts w n x g p l w9 e7 v8 (s7.read (m3 : Int)) u2 (G + s7.reads (m3 : Int))) := Lib.hid fun w9 u2 h1 h2 h3 => HT7.out.read I8 V8 T8 h1 h2 h3
              obtain ⟨rd, hrd⟩ : ∃ rd, rd = s7.reads (m3 : Int) := ⟨_, rfl⟩
              rw [← hrd] at hou hgot hrl FIN
              obtain ⟨RD, hRD⟩ : ∃ RD : List UInt8, RD = s7.ready.take rd := ⟨_, rfl⟩
              have hRl : RD.length = rd := by rw [hRD, List.length_take]; omega
              obtain ⟨LG, hLG⟩ : ∃ LG : List UInt8, LG = l.take G := ⟨_, rfl⟩
              have hLl : LG.length = G := by rw [hLG, List.length_take]; have := HL.out; have := HT7.out.tr.le; omega
              rw [← hRD] at hou hgot
              rw [← hLG] at hgot
              obtain ⟨Au, cu, rfl, hru, hAu, hcu⟩ := Rd.of_own hou hRl.symm
              have hog := own_turn (w' := w8) HT7.out.row fun j hj => T8.old j (HT7.out.row.lt j hj).2 fun hf => HT7.out.apart j hj (.inl hf)
              rw [← hLG] at hog
              have hrd8 : rd ≤ 8192 := by have := HT7.out.ib.ok.room; omega
              have HOG : Hid (w8.ownsRow n 5 1 (.slice Ag G cg) LG.length (LG.map B)) := Lib.hid (by rw [hLl]; exact hog)
              have HRU := Lib.hid hru; have HAU := Lib.hid hAu; have HRL := Lib.hid hRl; have HLL := Lib.hid hLl; have HGOT := Lib.hid hgot
              have HNW := Lib.hid (Nat.le_trans HT7.out.nw T8.size)
              have T84 := (T8.cell' l7 (fun e9 => hbx7 e9) 4).trans f4
              rw [hRl]
              clear hou hrl hgot hrd hRD hLG hRl hLl hru hAu hcu hog I8 V8 T8 f0 f4 HT7
              go_wp2_with (at_builtin; refine wpList_app rfl _ _ rfl n (.slice Ag G cg) LG RD rd rfl HOG.out Au cu rfl HRL.out.symm HRU.out HAU.out HNW.out (by rw [HRL.out, HLL.out]; omega) ?_)
              intro A9 c9 w9 ho9 hg9 ha9
              obtain ⟨G2, hG2⟩ : ∃ G2, G2 = G + rd := ⟨_, rfl⟩
              have ho9' : w9.ownsRow n 5 1 (.slice A9 (G + rd) c9) (G + rd) ((l.take (G + rd)).map B) := by rw [← HGOT.out]; simpa [appB, HRL.out, HLL.out] using ho9
              rw [HLL.out, HRL.out] at ha9 ⊢
              have ht9 := FIN.out w9 (.slice A9 (G + rd) c9) ho9' hg9 ha9
              rw [← hG2] at ht9 ⊢
              have HT9 := Lib.hid ht9
              clear ht9 ho9 ho9' hg9 ha9 hG2 FIN HOG HRU HAU HRL HLL HGOT HNW
              obtain ⟨R, hR⟩ : ∃ R, R = ((s7.read (m3 : Int))).ready.length := ⟨_, rfl⟩
              have hle15 := HT9.out.tr.le
              have CR := iready_any n x g e7 v8 (s7.read (m3 : Int)) w9 HT9.out.ib
              rw [← hR] at CR hle15
              obtain ⟨A15, c15, hv15, hr15, hA15, hc15⟩ := Rd.of_own HT9.out.row (by rw [List.length_take]; have := HL.out; omega)
              have hGl : (l.take G2).length = G2 := by rw [List.length_take]; have := HL.out; omega
              rw [hGl] at hv15
              cases hv15
              have CS := sameBytes_any A9 A (l.take G2) (l.take G2) c9 c w9 hr15 ((HR.out.take.below HT9.out.bel (Nat.le_refl _)).mono HT9.out.bel.size) (by rw [hGl]; have := HL.out; omega) (by rw [hGl]; have := HL.out; omega)
              rw [hGl, beq_self_eq_true] at CS
              have HCR := Lib.hid CR
              have HCS := Lib.hid CS
              have hGL : G2 ≤ L := by have := HL.out; omega
              have hsum : (G2 : Int) + (R : Int) ≤ (L : Int) := by have := HL.out; omega
              have hGc : (G2 : Int) ≤ (c : Int) := by omega
              have hGm : (G2 : Int) ≤ 8000 := by omega
              have hRm : (R : Int) ≤ 8000 := by omega
              clear CR CS hr15 hA15 hc15 hGl hR hle15
              go_wp2_with fail
              refine HCR.out.mono ?_
              rintro e wa ⟨rfl, rfl⟩
              go_wp2_with fail
              refine HCS.out.mono ?_
              rintro e wb ⟨rfl, bb⟩
              have HTb := Lib.hid (HT9.out.below bb)
              clear bb HCR HCS
              go_wp2_with fail
              refine ⟨?_, ?_⟩
              rotate_left
              · simp [intOf]; omega
              · first
                  | exact ⟨k + 1, G2, (s7.read (m3 : Int)), e7, v8, A9, c9, by omega, by simp, rfl, HTb⟩
                  | (repeat' apply Exists.intro
                     exact ⟨⟨k + 1, G2, (s7.read (m3 : Int)), e7, v8, A9, c9, by omega, by simp, rfl, HTb⟩, rfl⟩)
            · have hkz : ((kd : Int) == 0) = false := by simp; omega
              obtain ⟨R, hR⟩ : ∃ R, R = (s7).ready.length := ⟨_, rfl⟩
              have hle15 := HT7.out.tr.le
              have CR := iready_any n x g e7 v7 s7 w7 HT7.out.ib
              rw [← hR] at CR hle15
              obtain ⟨A15, c15, hv15, hr15, hA15, hc15⟩ := Rd.of_own HT7.out.row (by rw [List.length_take]; have := HL.out; omega)
              have hGl : (l.take G).length = G := by rw [List.length_take]; have := HL.out; omega
              rw [hGl] at hv15
              cases hv15
              have CS := sameBytes_any Ag A (l.take G) (l.take G) cg c w7 hr15 ((HR.out.take.below HT7.out.bel (Nat.le_refl _)).mono HT7.out.bel.size) (by rw [hGl]; have := HL.out; omega) (by rw [hGl]; have := HL.out; omega)
              rw [hGl, beq_self_eq_true] at CS
              have HCR := Lib.hid CR
              have HCS := Lib.hid CS
              have hGL : G ≤ L := by have := HL.out; omega
              have hsum : (G : Int) + (R : Int) ≤ (L : Int) := by have := HL.out; omega
              have hGc : (G : Int) ≤ (c : Int) := by omega
              have hGm : (G : Int) ≤ 8000 := by omega
              have hRm : (R : Int) ≤ 8000 := by omega
              clear CR CS hr15 hA15 hc15 hGl hR hle15
              go_wp2_with fail
              refine HCR.out.mono ?_
              rintro e wa ⟨rfl, rfl⟩
              go_wp2_with fail
              refine HCS.out.mono ?_
              rintro e wb ⟨rfl, bb⟩
              have HTb := Lib.hid (HT7.out.below bb)
              clear bb HCR HCS
              go_wp2_with fail
              refine ⟨?_, ?_⟩
              rotate_left
              · simp [intOf]; omega
              · first
                  | exact ⟨k + 1, G, s7, e7, v7, Ag, cg, by omega, by simp, rfl, HTb⟩
                  | (repeat' apply Exists.intro
                     exact ⟨⟨k + 1, G, s7, e7, v7, Ag, cg, by omega, by simp, rfl, HTb⟩, rfl⟩)
        · have HXX := HX2.out hcf
          clear HX1 HX2
          cases fi
          · skip
            refine wp_region_later_tail (w5.heap.size) 16 (by kernel_rfl) (by kernel_rfl) ?_
            simp only [List.take_succ_cons, List.take_zero, List.drop_succ_cons, List.drop_zero]
            repeat (go_big_quiet_step ((fail)))
            (first | refine wpQuiet_nil ?_ | (go_big_quiet_want; (try go_big_quiet_op); trace_state; fail))
            intro w6 hw'
            have b6 := later_elim hw'
            clear hw'
            have C7 := Lib.hid (HXX w6 b6 false (fun h => by cases h))
            have k0 := (b6.cell (p := ⟨bx, 0, none⟩) l5).trans e0
            have k4 := (b6.cell (p := ⟨bx, 4, none⟩) l5).trans e4
            have l6 := Nat.lt_of_lt_of_le l5 b6.size
            clear b6 e0 e4 e1 e3 l5 HT5
            go_wp2_with fail
            with_reducible refine C7.out.mono ?_
            rintro r7 w7 ⟨⟨bv, rfl⟩, ⟨s7, e7, v7, HT7⟩, hc7, hz7⟩
            have f0 := (hc7 0).trans k0
            have f4 := (hc7 4).trans k4
            have l7 := Nat.lt_of_lt_of_le l6 hz7
            clear C7 k0 k4 l6 hc7 hz7
            by_cases hk0 : kd = 0
            · subst hk0
              go_wp2_with fail
              refine (iread_any n x g e7 v7 s7 w7 HT7.out.ib HT7.out.nw (m3 : Int)).mono ?_
              rintro e w8 ⟨uu, v8, rfl, hou, I8, V8, T8⟩
              have hrl : s7.reads (m3 : Int) ≤ s7.ready.length := by unfold Sn.reads; omega
              have hgot := HT7.out.tr.got (m3 : Int)
              have FIN : Hid (∀ (w9 : World) (u2 : Value), w9.ownsRow n 5 1 u2 (G + s7.reads (m3 : Int)) ((l.take (G + s7.reads (m3 : Int))).map B) → w8.grownBy w9 (Value.slice Ag G cg).ownBlock → (u2.ownBlock = (Value.slice Ag G cg).ownBlock ∨ u2.ownBlock = some w8.heap.size) → Ts w n x g p l w9 e7 v8 (s7.read (m3 : Int)) u2 (G + s7.reads (m3 : Int))) := Lib.hid fun w9 u2 h1 h2 h3 => HT7.out.read I8 V8 T8 h1 h2 h3
              obtain ⟨rd, hrd⟩ : ∃ rd, rd = s7.reads (m3 : Int) := ⟨_, rfl⟩
              rw [← hrd] at hou hgot hrl FIN
              obtain ⟨RD, hRD⟩ : ∃ RD : List UInt8, RD = s7.ready.take rd := ⟨_, rfl⟩
              have hRl : RD.length = rd := by rw [hRD, List.length_take]; omega
              obtain ⟨LG, hLG⟩ : ∃ LG : List UInt8, LG = l.take G := ⟨_, rfl⟩
              have hLl : LG.length = G := by rw [hLG, List.length_take]; have := HL.out; have := HT7.out.tr.le; omega
              rw [← hRD] at hou hgot
              rw [← hLG] at hgot
              obtain ⟨Au, cu, rfl, hru, hAu, hcu⟩ := Rd.of_own hou hRl.symm
              have hog := own_turn (w' := w8) HT7.out.row fun j hj => T8.old j (HT7.out.row.lt j hj).2 fun hf => HT7.out.apart j hj (.inl hf)
              rw [← hLG] at hog
              have hrd8 : rd ≤ 8192 := by have := HT7.out.ib.ok.room; omega
              have HOG : Hid (w8.ownsRow n 5 1 (.slice Ag G cg) LG.length (LG.map B)) := Lib.hid (by rw [hLl]; exact hog)
              have HRU := Lib.hid hru; have HAU := Lib.hid hAu; have HRL := Lib.hid hRl; have HLL := Lib.hid hLl; have HGOT := Lib.hid hgot
              have HNW := Lib.hid (Nat.le_trans HT7.out.nw T8.size)
              have T84 := (T8.cell' l7 (fun e9 => hbx7 e9) 4).trans f4
              rw [hRl]
              clear hou hrl hgot hrd hRD hLG hRl hLl hru hAu hcu hog I8 V8 T8 f0 f4 HT7
              go_wp2_with (at_builtin; refine wpList_app rfl _ _ rfl n (.slice Ag G cg) LG RD rd rfl HOG.out Au cu rfl HRL.out.symm HRU.out HAU.out HNW.out (by rw [HRL.out, HLL.out]; omega) ?_)
              intro A9 c9 w9 ho9 hg9 ha9
              obtain ⟨G2, hG2⟩ : ∃ G2, G2 = G + rd := ⟨_, rfl⟩
              have ho9' : w9.ownsRow n 5 1 (.slice A9 (G + rd) c9) (G + rd) ((l.take (G + rd)).map B) := by rw [← HGOT.out]; simpa [appB, HRL.out, HLL.out] using ho9
              rw [HLL.out, HRL.out] at ha9 ⊢
              have ht9 := FIN.out w9 (.slice A9 (G + rd) c9) ho9' hg9 ha9
              rw [← hG2] at ht9 ⊢
              have HT9 := Lib.hid ht9
              clear ht9 ho9 ho9' hg9 ha9 hG2 FIN HOG HRU HAU HRL HLL HGOT HNW
              obtain ⟨R, hR⟩ : ∃ R, R = ((s7.read (m3 : Int))).ready.length := ⟨_, rfl⟩
              have hle15 := HT9.out.tr.le
              have CR := iready_any n x g e7 v8 (s7.read (m3 : Int)) w9 HT9.out.ib
              rw [← hR] at CR hle15
              obtain ⟨A15, c15, hv15, hr15, hA15, hc15⟩ := Rd.of_own HT9.out.row (by rw [List.length_take]; have := HL.out; omega)
              have hGl : (l.take G2).length = G2 := by rw [List.length_take]; have := HL.out; omega
              rw [hGl] at hv15
              cases hv15
              have CS := sameBytes_any A9 A (l.take G2) (l.take G2) c9 c w9 hr15 ((HR.out.take.below HT9.out.bel (Nat.le_refl _)).mono HT9.out.bel.size) (by rw [hGl]; have := HL.out; omega) (by rw [hGl]; have := HL.out; omega)
              rw [hGl, beq_self_eq_true] at CS
              have HCR := Lib.hid CR
              have HCS := Lib.hid CS
              have hGL : G2 ≤ L := by have := HL.out; omega
              have hsum : (G2 : Int) + (R : Int) ≤ (L : Int) := by have := HL.out; omega
              have hGc : (G2 : Int) ≤ (c : Int) := by omega
              have hGm : (G2 : Int) ≤ 8000 := by omega
              have hRm : (R : Int) ≤ 8000 := by omega
              clear CR CS hr15 hA15 hc15 hGl hR hle15
              go_wp2_with fail
              refine HCR.out.mono ?_
              rintro e wa ⟨rfl, rfl⟩
              go_wp2_with fail
              refine HCS.out.mono ?_
              rintro e wb ⟨rfl, bb⟩
              have HTb := Lib.hid (HT9.out.below bb)
              clear bb HCR HCS
              go_wp2_with fail
              refine ⟨?_, ?_⟩
              rotate_left
              · simp [intOf]; omega
              · first
                  | exact ⟨k + 1, G2, (s7.read (m3 : Int)), e7, v8, A9, c9, by omega, by simp, rfl, HTb⟩
                  | (repeat' apply Exists.intro
                     exact ⟨⟨k + 1, G2, (s7.read (m3 : Int)), e7, v8, A9, c9, by omega, by simp, rfl, HTb⟩, rfl⟩)
            · have hkz : ((kd : Int) == 0) = false := by simp; omega
              obtain ⟨R, hR⟩ : ∃ R, R = (s7).ready.length := ⟨_, rfl⟩
              have hle15 := HT7.out.tr.le
              have CR := iready_any n x g e7 v7 s7 w7 HT7.out.ib
              rw [← hR] at CR hle15
              obtain ⟨A15, c15, hv15, hr15, hA15, hc15⟩ := Rd.of_own HT7.out.row (by rw [List.length_take]; have := HL.out; omega)
              have hGl : (l.take G).length = G := by rw [List.length_take]; have := HL.out; omega
              rw [hGl] at hv15
              cases hv15
              have CS := sameBytes_any Ag A (l.take G) (l.take G) cg c w7 hr15 ((HR.out.take.below HT7.out.bel (Nat.le_refl _)).mono HT7.out.bel.size) (by rw [hGl]; have := HL.out; omega) (by rw [hGl]; have := HL.out; omega)
              rw [hGl, beq_self_eq_true] at CS
              have HCR := Lib.hid CR
              have HCS := Lib.hid CS
              have hGL : G ≤ L := by have := HL.out; omega
              have hsum : (G : Int) + (R : Int) ≤ (L : Int) := by have := HL.out; omega
              have hGc : (G : Int) ≤ (c : Int) := by omega
              have hGm : (G : Int) ≤ 8000 := by omega
              have hRm : (R : Int) ≤ 8000 := by omega
              clear CR CS hr15 hA15 hc15 hGl hR hle15
              go_wp2_with fail
              refine HCR.out.mono ?_
              rintro e wa ⟨rfl, rfl⟩
              go_wp2_with fail
              refine HCS.out.mono ?_
              rintro e wb ⟨rfl, bb⟩
              have HTb := Lib.hid (HT7.out.below bb)
              clear bb HCR HCS
              go_wp2_with fail
              refine ⟨?_, ?_⟩
              rotate_left
              · simp [intOf]; omega
              · first
                  | exact ⟨k + 1, G, s7, e7, v7, Ag, cg, by omega, by simp, rfl, HTb⟩
                  | (repeat' apply Exists.intro
                     exact ⟨⟨k + 1, G, s7, e7, v7, Ag, cg, by omega, by simp, rfl, HTb⟩, rfl⟩)
          · skip
            refine wp_region_later_tail (w5.heap.size) 16 (by kernel_rfl) (by kernel_rfl) ?_
            simp only [List.take_succ_cons, List.take_zero, List.drop_succ_cons, List.drop_zero]
            repeat (go_big_quiet_step ((fail)))
            (first | refine wpQuiet_nil ?_ | (go_big_quiet_want; (try go_big_quiet_op); trace_state; fail))
            intro w6 hw'
            have b6 := later_elim hw'
            clear hw'
            have C7 := Lib.hid (HXX w6 b6 tb (fun h => by have := HTQ.out; rw [h] at this; simpa using this.symm))
            have k0 := (b6.cell (p := ⟨bx, 0, none⟩) l5).trans e0
            have k4 := (b6.cell (p := ⟨bx, 4, none⟩) l5).trans e4
            have l6 := Nat.lt_of_lt_of_le l5 b6.size
            clear b6 e0 e4 e1 e3 l5 HT5
            go_wp2_with fail
            with_reducible refine C7.out.mono ?_
            rintro r7 w7 ⟨⟨bv, rfl⟩, ⟨s7, e7, v7, HT7⟩, hc7, hz7⟩
            have f0 := (hc7 0).trans k0
            have f4 := (hc7 4).trans k4
            have l7 := Nat.lt_of_lt_of_le l6 hz7
            clear C7 k0 k4 l6 hc7 hz7
            by_cases hk0 : kd = 0
            · subst hk0
              go_wp2_with fail
              refine (iread_any n x g e7 v7 s7 w7 HT7.out.ib HT7.out.nw (m3 : Int)).mono ?_
              rintro e w8 ⟨uu, v8, rfl, hou, I8, V8, T8⟩
              have hrl : s7.reads (m3 : Int) ≤ s7.ready.length := by unfold Sn.reads; omega
              have hgot := HT7.out.tr.got (m3 : Int)
              have FIN : Hid (∀ (w9 : World) (u2 : Value), w9.ownsRow n 5 1 u2 (G + s7.reads (m3 : Int)) ((l.take (G + s7.reads (m3 : Int))).map B) → w8.grownBy w9 (Value.slice Ag G cg).ownBlock → (u2.ownBlock = (Value.slice Ag G cg).ownBlock ∨ u2.ownBlock = some w8.heap.size) → Ts w n x g p l w9 e7 v8 (s7.read (m3 : Int)) u2 (G + s7.reads (m3 : Int))) := Lib.hid fun w9 u2 h1 h2 h3 => HT7.out.read I8 V8 T8 h1 h2 h3
              obtain ⟨rd, hrd⟩ : ∃ rd, rd = s7.reads (m3 : Int) := ⟨_, rfl⟩
              rw [← hrd] at hou hgot hrl FIN
              obtain ⟨RD, hRD⟩ : ∃ RD : List UInt8, RD = s7.ready.take rd := ⟨_, rfl⟩
              have hRl : RD.length = rd := by rw [hRD, List.length_take]; omega
              obtain ⟨LG, hLG⟩ : ∃ LG : List UInt8, LG = l.take G := ⟨_, rfl⟩
              have hLl : LG.length = G := by rw [hLG, List.length_take]; have := HL.out; have := HT7.out.tr.le; omega
              rw [← hRD] at hou hgot
              rw [← hLG] at hgot
              obtain ⟨Au, cu, rfl, hru, hAu, hcu⟩ := Rd.of_own hou hRl.symm
              have hog := own_turn (w' := w8) HT7.out.row fun j hj => T8.old j (HT7.out.row.lt j hj).2 fun hf => HT7.out.apart j hj (.inl hf)
              rw [← hLG] at hog
              have hrd8 : rd ≤ 8192 := by have := HT7.out.ib.ok.room; omega
              have HOG : Hid (w8.ownsRow n 5 1 (.slice Ag G cg) LG.length (LG.map B)) := Lib.hid (by rw [hLl]; exact hog)
              have HRU := Lib.hid hru; have HAU := Lib.hid hAu; have HRL := Lib.hid hRl; have HLL := Lib.hid hLl; have HGOT := Lib.hid hgot
              have HNW := Lib.hid (Nat.le_trans HT7.out.nw T8.size)
              have T84 := (T8.cell' l7 (fun e9 => hbx7 e9) 4).trans f4
              rw [hRl]
              clear hou hrl hgot hrd hRD hLG hRl hLl hru hAu hcu hog I8 V8 T8 f0 f4 HT7
              go_wp2_with (at_builtin; refine wpList_app rfl _ _ rfl n (.slice Ag G cg) LG RD rd rfl HOG.out Au cu rfl HRL.out.symm HRU.out HAU.out HNW.out (by rw [HRL.out, HLL.out]; omega) ?_)
              intro A9 c9 w9 ho9 hg9 ha9
              obtain ⟨G2, hG2⟩ : ∃ G2, G2 = G + rd := ⟨_, rfl⟩
              have ho9' : w9.ownsRow n 5 1 (.slice A9 (G + rd) c9) (G + rd) ((l.take (G + rd)).map B) := by rw [← HGOT.out]; simpa [appB, HRL.out, HLL.out] using ho9
              rw [HLL.out, HRL.out] at ha9 ⊢
              have ht9 := FIN.out w9 (.slice A9 (G + rd) c9) ho9' hg9 ha9
              rw [← hG2] at ht9 ⊢
              have HT9 := Lib.hid ht9
              clear ht9 ho9 ho9' hg9 ha9 hG2 FIN HOG HRU HAU HRL HLL HGOT HNW
              obtain ⟨R, hR⟩ : ∃ R, R = ((s7.read (m3 : Int))).ready.length := ⟨_, rfl⟩
              have hle15 := HT9.out.tr.le
              have CR := iready_any n x g e7 v8 (s7.read (m3 : Int)) w9 HT9.out.ib
              rw [← hR] at CR hle15
              obtain ⟨A15, c15, hv15, hr15, hA15, hc15⟩ := Rd.of_own HT9.out.row (by rw [List.length_take]; have := HL.out; omega)
              have hGl : (l.take G2).length = G2 := by rw [List.length_take]; have := HL.out; omega
              rw [hGl] at hv15
              cases hv15
              have CS := sameBytes_any A9 A (l.take G2) (l.take G2) c9 c w9 hr15 ((HR.out.take.below HT9.out.bel (Nat.le_refl _)).mono HT9.out.bel.size) (by rw [hGl]; have := HL.out; omega) (by rw [hGl]; have := HL.out; omega)
              rw [hGl, beq_self_eq_true] at CS
              have HCR := Lib.hid CR
              have HCS := Lib.hid CS
              have hGL : G2 ≤ L := by have := HL.out; omega
              have hsum : (G2 : Int) + (R : Int) ≤ (L : Int) := by have := HL.out; omega
              have hGc : (G2 : Int) ≤ (c : Int) := by omega
              have hGm : (G2 : Int) ≤ 8000 := by omega
              have hRm : (R : Int) ≤ 8000 := by omega
              clear CR CS hr15 hA15 hc15 hGl hR hle15
              go_wp2_with fail
              refine HCR.out.mono ?_
              rintro e wa ⟨rfl, rfl⟩
              go_wp2_with fail
              refine HCS.out.mono ?_
              rintro e wb ⟨rfl, bb⟩
              have HTb := Lib.hid (HT9.out.below bb)
              clear bb HCR HCS
              go_wp2_with fail
              refine ⟨?_, ?_⟩
              rotate_left
              · simp [intOf]; omega
              · first
                  | exact ⟨k + 1, G2, (s7.read (m3 : Int)), e7, v8, A9, c9, by omega, by simp, rfl, HTb⟩
                  | (repeat' apply Exists.intro
                     exact ⟨⟨k + 1, G2, (s7.read (m3 : Int)), e7, v8, A9, c9, by omega, by simp, rfl, HTb⟩, rfl⟩)
            · have hkz : ((kd : Int) == 0) = false := by simp; omega
              obtain ⟨R, hR⟩ : ∃ R, R = (s7).ready.length := ⟨_, rfl⟩
              have hle15 := HT7.out.tr.le
              have CR := iready_any n x g e7 v7 s7 w7 HT7.out.ib
              rw [← hR] at CR hle15
              obtain ⟨A15, c15, hv15, hr15, hA15, hc15⟩ := Rd.of_own HT7.out.row (by rw [List.length_take]; have := HL.out; omega)
              have hGl : (l.take G).length = G := by rw [List.length_take]; have := HL.out; omega
              rw [hGl] at hv15
              cases hv15
              have CS := sameBytes_any Ag A (l.take G) (l.take G) cg c w7 hr15 ((HR.out.take.below HT7.out.bel (Nat.le_refl _)).mono HT7.out.bel.size) (by rw [hGl]; have := HL.out; omega) (by rw [hGl]; have := HL.out; omega)
              rw [hGl, beq_self_eq_true] at CS
              have HCR := Lib.hid CR
              have HCS := Lib.hid CS
              have hGL : G ≤ L := by have := HL.out; omega
              have hsum : (G : Int) + (R : Int) ≤ (L : Int) := by have := HL.out; omega
              have hGc : (G : Int) ≤ (c : Int) := by omega
              have hGm : (G : Int) ≤ 8000 := by omega
              have hRm : (R : Int) ≤ 8000 := by omega
              clear CR CS hr15 hA15 hc15 hGl hR hle15
              go_wp2_with fail
              refine HCR.out.mono ?_
              rintro e wa ⟨rfl, rfl⟩
              go_wp2_with fail
              refine HCS.out.mono ?_
              rintro e wb ⟨rfl, bb⟩
              have HTb := Lib.hid (HT7.out.below bb)
              clear bb HCR HCS
              go_wp2_with fail
              refine ⟨?_, ?_⟩
              rotate_left
              · simp [intOf]; omega
              · first
                  | exact ⟨k + 1, G, s7, e7, v7, Ag, cg, by omega, by simp, rfl, HTb⟩
                  | (repeat' apply Exists.intro
                     exact ⟨⟨k + 1, G, s7, e7, v7, Ag, cg, by omega, by simp, rfl, HTb⟩, rfl⟩)
      · obtain rfl : k = acts.length := by omega
        have d3 : decide ((acts.length : Int) < (acts.length : Int)) = false := by simp
        have CP := iput_any n x g e v s wr HTr.out.ib HTr.out.nw p HP.out A l c true ((HR.out.below HTr.out.bel (Nat.le_refl _)).mono HTr.out.bel.size) (HR.out.far (Nat.le_trans HTr.out.le HTr.out.ib.ng)) HA.out (by rw [HL.out]; exact hc) (by rw [HL.out]; omega)
        rw [HL.out] at CP
        have HCP := Lib.hid CP
        obtain ⟨s5, hs5, t5, ho5, hl5, hn5⟩ := HTr.out.tr.last HP.out (by rw [HL.out]; exact hl)
        have H5 : Hid (∀ (w5 : World) (e5 : Nat) (v5 : Value), InB w5 n x g e5 v5 (s.put p l true).1 → (∀ k, v5.ownBlock = some k → v.ownBlock = some k ∨ wr.heap.size ≤ k) → Tn (Ft x g v) wr w5 → Ts w n x g p l w5 e5 v5 s5 (.slice Ag G cg) G) := Lib.hid fun w5 e5 v5 i5 h5 T5 => HTr.out.put t5 (hs5 ▸ i5) h5 T5
        have HO5 := Lib.hid (And.intro ho5 (And.intro hl5 hn5))
        clear CP t5 hs5 ho5 hl5 hn5 HTr hGle
        go_wp2_with fail
        refine HCP.out.mono ?_
        rintro r w5 ⟨rfl, e5, v5, I5, V5, T5⟩
        have HT5 := Lib.hid (H5.out w5 e5 v5 I5 V5 T5)
        clear I5 V5 T5 H5 HCP
        go_wp2_with fail
        refine (iread_any n x g e5 v5 s5 w5 HT5.out.ib HT5.out.nw 9000).mono ?_
        rintro r w8 ⟨uu, v8, rfl, hou, I8, V8, T8⟩
        have hrd : s5.reads 9000 = s5.ready.length := by have := HO5.out.2.1; have := HL.out; unfold Sn.reads; omega
        have hgot := HT5.out.tr.got 9000
        have FIN : Hid (∀ (w9 : World) (u2 : Value), w9.ownsRow n 5 1 u2 (G + s5.reads 9000) ((l.take (G + s5.reads 9000)).map B) → w8.grownBy w9 (Value.slice Ag G cg).ownBlock → (u2.ownBlock = (Value.slice Ag G cg).ownBlock ∨ u2.ownBlock = some w8.heap.size) → Ts w n x g p l w9 e5 v8 (s5.read 9000) u2 (G + s5.reads 9000)) := Lib.hid fun w9 u2 h1 h2 h3 => HT5.out.read I8 V8 T8 h1 h2 h3
        obtain ⟨s6, hs6⟩ : ∃ s6, s6 = s5.read 9000 := ⟨_, rfl⟩
        have h6a : s6.over = true := by rw [hs6]; exact HO5.out.1
        have h6b : s6.ready.length = 0 := by rw [hs6]; unfold Sn.read; rw [hrd]; simp
        have h6c : s6.next = ((p + l.length) % m32 + 1) % m32 := by rw [hs6]; exact HO5.out.2.2
        have hGr : G + s5.reads 9000 = L := by rw [hrd, HO5.out.2.1, HL.out]
        rw [← hs6] at FIN
        obtain ⟨rd, hrde⟩ : ∃ rd, rd = s5.reads 9000 := ⟨_, rfl⟩
        rw [← hrde] at hou hgot hrd FIN hGr
        obtain ⟨RD, hRD⟩ : ∃ RD : List UInt8, RD = s5.ready.take rd := ⟨_, rfl⟩
        have hRl : RD.length = rd := by rw [hRD, List.length_take]; omega
        obtain ⟨LG, hLG⟩ : ∃ LG : List UInt8, LG = l.take G := ⟨_, rfl⟩
        have hLl : LG.length = G := by rw [hLG, List.length_take]; have := HL.out; omega
        rw [← hRD, ← hLG] at hgot
        rw [← hRD] at hou
        obtain ⟨Au, cu, rfl, hru, hAu, hcu⟩ := Rd.of_own hou hRl.symm
        have hog := own_turn (w' := w8) HT5.out.row fun j hj => T8.old j (HT5.out.row.lt j hj).2 fun hf => HT5.out.apart j hj (.inl hf)
        rw [← hLG] at hog
        have hrd8 : rd ≤ 8192 := by omega
        have HOG : Hid (w8.ownsRow n 5 1 (.slice Ag G cg) LG.length (LG.map B)) := Lib.hid (by rw [hLl]; exact hog)
        have HRU := Lib.hid hru; have HAU := Lib.hid hAu; have HRL := Lib.hid hRl; have HLL := Lib.hid hLl; have HGOT := Lib.hid hgot
        have HNW := Lib.hid (Nat.le_trans HT5.out.nw T8.size)
        have HGR := Lib.hid hGr
        have H6 := Lib.hid (And.intro h6a (And.intro h6b h6c))
        rw [hRl]
        clear hou hgot hrd hrde hRD hLG hRl hLl hru hAu hcu hog I8 V8 T8 HT5 HO5 hs6 h6a h6b h6c hGr
        go_wp2_with (at_builtin; refine wpList_app rfl _ _ rfl n (.slice Ag G cg) LG RD rd rfl HOG.out Au cu rfl HRL.out.symm HRU.out HAU.out HNW.out (by rw [HRL.out, HLL.out]; have := HGR.out; omega) ?_)
        intro A9 c9 w9 ho9 hg9 ha9
        have ho9' : w9.ownsRow n 5 1 (.slice A9 (G + rd) c9) (G + rd) ((l.take (G + rd)).map B) := by rw [← HGOT.out]; simpa [appB, HRL.out, HLL.out] using ho9
        rw [HLL.out, HRL.out] at ha9 ⊢
        have ht9 := FIN.out w9 (.slice A9 (G + rd) c9) ho9' hg9 ha9
        rw [HGR.out] at ht9 ⊢
        have HT9 := Lib.hid ht9
        clear ht9 ho9 ho9' hg9 ha9 FIN HOG HRU HAU HRL HLL HGOT HNW HGR
        have CE := iended_any n x g e5 v8 s6 w9 HT9.out.ib
        rw [H6.out.1] at CE
        have HCE := Lib.hid CE
        obtain ⟨q, hq⟩ : ∃ q, q = (p + L) % m32 := ⟨_, rfl⟩
        obtain ⟨q1, hq1⟩ : ∃ q1, q1 = (q + 1) % m32 := ⟨_, rfl⟩
        have hQI : ((p : Int) + (L : Int)) % 4294967296 = (q : Int) := by subst hq; unfold m32; omega
        have hQ1I : ((q : Int) + 1) % 4294967296 = (q1 : Int) := by subst hq1; unfold m32; omega
        have hLm : (L : Int) % 4294967296 = (L : Int) := by omega
        have HN6 := Lib.hid (show s6.next = q1 by rw [H6.out.2.2, HL.out, hq1, hq])
        clear CE hq hq1
        go_wp2_with fail
        refine HCE.out.mono ?_
        rintro r w10 ⟨rfl, b10⟩
        have HT10 := Lib.hid (HT9.out.below b10)
        clear HCE HT9 b10
        have CO := iover_any n x g e5 v8 s6 w10 HT10.out.ib
        rw [H6.out.1, H6.out.2.1] at CO
        have HCO := Lib.hid CO
        clear CO
        go_wp2_with fail
        refine HCO.out.mono ?_
        rintro r w11 ⟨rfl, b11⟩
        have HT11 := Lib.hid (HT10.out.below b11)
        clear HCO HT10 b11
        have CN := inext_any n x g e5 v8 s6 w11 HT11.out.ib
        rw [HN6.out] at CN
        have HCN := Lib.hid CN
        clear CN
        go_wp2_with fail
        refine HCN.out.mono ?_
        rintro r w12 ⟨rfl, b12⟩
        have HT12 := Lib.hid (HT11.out.below b12)
        clear HCN HT11 b12
        obtain ⟨A15, c15, hv15, hr15, hA15, hc15⟩ := Rd.of_own HT12.out.row (by rw [List.length_take]; have := HL.out; omega)
        have hGl : l.take L = l := by rw [← HL.out]; exact List.take_length
        rw [hGl, HL.out] at hv15
        cases hv15
        rw [hGl] at hr15
        have CS := sameBytes_any A9 A l l c9 c w12 hr15 ((HR.out.below HT12.out.bel (Nat.le_refl _)).mono HT12.out.bel.size) (by have := HL.out; omega) (by have := HL.out; omega)
        rw [HL.out, beq_self_eq_true] at CS
        have HCS := Lib.hid CS
        clear CS hr15 hA15 hc15 hGl
        go_wp2_with fail
        refine HCS.out.mono ?_
        rintro r w13 ⟨rfl, b13⟩
        have HT13 := Lib.hid (HT12.out.below b13)
        clear HCS HT12 b13
        go_wp2_with fail
        refine (lives27_any w13).mono ?_
        rintro r w14 ⟨rfl, b14⟩
        have F14 := Lib.hid (HT13.out.bel.trans (b14.mono HT13.out.bel.size))
        clear HT13 b14
        go_wp2_with fail
        go_ret
        exact ⟨rfl, F14.out⟩
end Go.Proofs.Ytjnfdpakpdahkaa

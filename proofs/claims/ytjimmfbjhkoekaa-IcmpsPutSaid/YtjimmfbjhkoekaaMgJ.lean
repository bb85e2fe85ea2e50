import Derived.Test.YtjimmfbjhkoekaaMgI
/- Icmps: a list of addresses, put. -/
namespace Go.Proofs.Ytjimmfbjhkoekaa
open Go.RowKit
set_option maxRecDepth 100000
set_option maxHeartbeats 1000000
def mkTo2 (X : Prop) (k : Nat → Nat → Prop) : Value → Value → Prop
  | .int .i64 l, .int .i64 c => if 0 ≤ l ∧ l ≤ c ∧ c ≤ 1048576 then k l.toNat c.toNat else X
  | _, _ => X
@[go_sem] theorem mkTo2_int (X : Prop) (k : Nat → Nat → Prop) (l c : Int) : mkTo2 X k (.int .i64 l) (.int .i64 c) = if 0 ≤ l ∧ l ≤ c ∧ c ≤ 1048576 then k l.toNat c.toNat else X := rfl
theorem wp_mk2 {P : Program} (ty e : TypeId) (z : Value) (s b : Nat) (f : Nat → Array Value) (he : P.underlying ty = some (.slice e)) (hi : (P.info? e).map (fun i => (i.zero, i.size, i.bytes)) = some (some z, s, b)) (hb : b ≤ 1024) (hf : ∀ c, madeCells z.cells (c * s) = f c)
    (dst : Option Tmp) (x y : Operand) (t : TypeId) (pos : String) (af : Array Edge) (g : Option (Nat × Bool)) (a : Act) (w : World) (K : Act → World → Prop) (Q : Exit → Act → World → Prop) :
    Oper.wp P ⟨dst, .makeSlice ty x y, t, pos, af, g⟩ a w K Q = mkTo2 (wpHid P ⟨dst, .makeSlice ty x y, t, pos, af, g⟩ a w K Q)
      (fun n c => K (a.put dst (.slice (some ⟨w.heap.size, 0, none⟩) n c)) (w.alloc (.cells (f c) e))) (a.eval x) (a.eval y) := by
  obtain ⟨i, hi1, hz, hs, hb'⟩ := info_parts hi
  unfold mkTo2
  split
  · rename_i l c h1 h2
    split
    · rename_i h
      have hr := run_make (P := P) w ty e i _ he hi1 hz .i64 .i64 l c h.1 h.2.1 (by
        rw [hb']
        have h1 : (b : Int) * c ≤ 1024 * 1048576 := Int.mul_le_mul (by omega) h.2.2 (by omega) (by omega)
        omega) (by omega)
      rw [hs, hf] at hr
      unfold Oper.wp execOp
      simp only [h1, h2, Sem.run_bind, hr, Result.andThen_ok]
      rfl
    · unfold wpHid; rfl
  · unfold wpHid; rfl
theorem infoAd : (Try.prog.info? 23).map (fun i => (i.zero, i.size, i.bytes)) = some (some (.agg (Array.replicate 16 (.int .u8 0))), 16, 16) := by kernel_rfl
@[go_sem ↓] theorem mkAddrs (dst : Option Tmp) (x y : Operand) (t : TypeId) (pos : String) (af : Array Edge) (g : Option (Nat × Bool)) (a : Act) (w : World) (K : Act → World → Prop) (Q : Exit → Act → World → Prop) :
    Oper.wp Try.prog ⟨dst, .makeSlice 30 x y, t, pos, af, g⟩ a w K Q = mkTo2 (wpHid Try.prog ⟨dst, .makeSlice 30 x y, t, pos, af, g⟩ a w K Q)
      (fun n c => K (a.put dst (.slice (some ⟨w.heap.size, 0, none⟩) n c)) (w.alloc (.cells (Array.replicate (c * 16) (B 0)) 23))) (a.eval x) (a.eval y) :=
  wp_mk2 30 23 _ 16 16 (fun c => Array.replicate (c * 16) (B 0)) Try.underlying30 infoAd (by decide) (fun c => (show madeCells (Array.replicate 16 (Value.int .u8 0)) (c * 16) = _ from (madeZ 16 _ (by decide)).trans (by simp))) dst x y t pos af g a w K Q
abbrev adr (z : List UInt8) : Array Value := (z.map B).toArray
theorem PS.fresh {w0 w : World} {n gp go : Nat} {v0 v : Value} {L : List UInt8} (h : PS w0 w n gp v0 v L) (hg : ¬ Fp gp v go) (hw : w0.heap.size ≤ go) (hn : n ≤ go) (c : Array Value) : PS w0 (w.setRow go c) n gp v0 v L :=
  ⟨h.pu.keep (F := fun k => k = go) ((Tn.refl _ _).setRow (.inl rfl)) fun k hk => by subst hk; exact hg, h.nw, h.t.setRow (.inr hw), h.bl.trans ⟨rfl, rfl, rfl, by simp [World.setRow], fun k hk => bk_setRow_other _ _ _ _ (by omega)⟩⟩
theorem take_flat {ss : List (List UInt8)} {k : Nat} (h : k < ss.length) : (ss.take (k + 1)).flatten = (ss.take k).flatten ++ ss[k] := by
  rw [List.take_succ_eq_append_getElem h, List.flatten_append]; simp
/-- What putting a list of addresses leaves. -/
def Put2 (w : World) (n gp bl ol : Nat) (v : Value) (cur : Array Value) (t : TypeId) (L : List UInt8) (w' : World) : Prop := ∃ v' val, PU w' n gp v' L ∧ (∀ k, v'.ownBlock = some k → v.ownBlock = some k ∨ w.heap.size ≤ k) ∧ Tn (fun k => Fp gp v k ∨ k = bl) w w' ∧ bk w' bl = some (.cells (cur.setIfInBounds ol val) t (0, 0))
theorem adr_flat (ss : List (List UInt8)) : (ss.map fun z => (adr z).toList).flatten = ss.flatten.map B := by
  rw [List.map_flatten]
theorem adr_at {ss : List (List UInt8)} (h16 : ∀ z ∈ ss, z.length = 16) {k : Nat} (hk : k < ss.length) {w : World} {g n : Nat} {t : TypeId} {fr : Nat × Nat} (hb : bk w g = some (.cells (ss.flatten.map B).toArray t fr)) (hg : g < n) : Rd w n (some ⟨g, k * 16, none⟩) ss[k] := fun _ =>
  ⟨g, k * 16, rfl, hg, fun j hj => by
    have hz := h16 _ (List.getElem_mem hk)
    have e1 : (k * 16 + j) / 16 = k := by omega
    have e2 : (k * 16 + j) % 16 = j := by omega
    rw [bk_cell hb, List.getElem?_toArray, ← adr_flat, flat_at (fun z => (adr z).toList) 16 (by decide) ss (k * 16 + j) (fun z hz => by simpa using h16 z hz) (by rw [e1]; exact hk)]
    simp only [e1, e2]
    simp [hj]⟩
theorem flat16 {ss : List (List UInt8)} (h16 : ∀ z ∈ ss, z.length = 16) : ss.flatten.length = ss.length * 16 := by
  have := flat_len (fun z : List UInt8 => z) 16 ss h16
  simpa using this
theorem take_flat_le {ss : List (List UInt8)} (h16 : ∀ z ∈ ss, z.length = 16) (k : Nat) : (ss.take k).flatten.length ≤ ss.length * 16 := by
  rw [flat16 fun z hz => h16 z (List.mem_of_mem_take hz), List.length_take]
  exact Nat.mul_le_mul_right _ (Nat.min_le_right _ _)
theorem addrs_put (n gp bl ol : Nat) (f : FuncId) (cap : Array Value) (SA : Option Addr) (ss : List (List UInt8)) (sc : Nat) (X : List UInt8) (v : Value) (L : List UInt8) (cur : Array Value) (t : TypeId) (w : World)
    (h : PU w n gp v L) (hbl : ¬ Fp gp v bl) (hb : bk w bl = some (.cells cur t (0, 0))) (hc : cur[ol]? = some (.slice SA ss.length sc)) (hss : Rws 16 adr w n SA ss) (h16 : ∀ z ∈ ss, z.length = 16) (hll : ss.length < 65536)
    (hE : ∀ w, (callFunc f cap).run Try.prog w = .ok (.enter f cap) w)
    (hcl : ∀ W v1, PS w W n gp v v1 (L ++ nb 2 ss.length) → Calls Try.prog f cap W fun e w' => e = .returned (.tuple #[]) ∧ Put1 W n gp v1 (L ++ nb 2 ss.length ++ X) false w') (hl : L.length + X.length < 2 ^ 24) :
    Calls Try.prog 61 #[sideP gp, .pointer (some ⟨bl, ol, none⟩), .func (.func f) #[] cap] w fun e w' => e = .returned (.tuple #[]) ∧ Put2 w n gp bl ol v cur t (L ++ nb 2 ss.length ++ X ++ ss.flatten) w' := by
  have c0 : w.cell? ⟨bl, ol, none⟩ = some (.slice SA ss.length sc) := by rw [bk_cell hb, hc]
  have lb := bk_lt hb
  have P0 := Lib.hid (PS.start h)
  have P0n : Hid (n ≤ w.heap.size) := Lib.hid P0.out.nle
  have HB := Lib.hid hb; have HBL := Lib.hid hbl; have HSS := Lib.hid hss; have H16 := Lib.hid h16; have HCL := Lib.hid hcl; have HL := Lib.hid hl; have HC := Lib.hid hc
  obtain ⟨N, hN⟩ : ∃ N, N = ss.length := ⟨_, rfl⟩
  have HN := Lib.hid hN
  rw [← hN] at c0 hll
  clear h hb hbl hss h16 hcl hl hc hN
  go_enter Try.func61, Try.ntmps61
  have c1 : w.drew.cell? ⟨bl, ol, none⟩ = some (.slice SA N sc) := c0
  have HK : Hid (∀ {w' : World} {v' : Value} {L' : List UInt8}, PS w w' n gp v v' L' → w'.cell? ⟨bl, ol, none⟩ = some (.slice SA N sc)) := Lib.hid fun q => by rw [bk_cell (q.t.keep HBL.out HB.out), HC.out, HN.out]
  go_upto_region 0 with fail
  have PD := Lib.hid ((P0).out.below (w' := (w).drew) (by (repeat (first | exact Below.refl _ _ | assumption | refine Below.drew ?_ | refine bdrewN ?_ _ | refine Below.alloc ?_ (by first | omega | (simp <;> omega) | (simp only [World.size_alloc] <;> omega)) _ | refine below_setRow ?_ (by first | omega | (simp <;> omega)) _ | refine Below.setCell ?_ (by first | omega | (simp <;> omega)) _))))
  have C := Lib.hid (pcount_put n gp N _ _ _ PD.out.pu (by omega) (by have := HL.out; omega))
  go_region_held3 (fun w' => w'.cell? ⟨bl, ol, none⟩ = some (.slice SA N sc)) (first | assumption | go_keep) ((go_at_call 95; with_reducible refine C.out.mono ?_; rintro e w1 ⟨rfl, p1⟩; obtain ⟨v1, h1, f1⟩ := PD.out.put p1; have P1 := Lib.hid h1; have F1 := Lib.hid f1; have c2 := HK.out h1; clear p1 h1 f1 C PD))
  have CB := Lib.hid (HCL.out w1 v1 (by rw [← HN.out]; exact P1.out))
  rw [← HN.out] at CB
  clear c1 c0 c2 P0 F1
  go_wp2_with fail
  refine CB.out.mono ?_
  rintro e w2 ⟨rfl, p2⟩
  obtain ⟨v2, h2, _⟩ := P1.out.put p2
  have P2 := Lib.hid h2
  have c3 := HK.out h2
  have lb2 : bl < w2.heap.size := Nat.lt_of_lt_of_le lb h2.t.size
  have hN20 : (N : Int) ≤ 1048576 := by omega
  clear p2 h2 CB P1
  go_upto_region 3 with fail
  obtain ⟨go, hgo⟩ : ∃ g, g = w2.heap.size := ⟨_, rfl⟩
  have k3 : bk (w2.alloc (.cells (Array.replicate (N * 16) (B 0)) 23)) go = some (.cells (Array.replicate (N * 16) (B 0)) 23 (0, 0)) := bk_alloc_at _ _ _ hgo
  have b3 : Below w2.heap.size w2 (w2.alloc (.cells (Array.replicate (N * 16) (B 0)) 23)) := (by (repeat (first | exact Below.refl _ _ | assumption | refine Below.drew ?_ | refine bdrewN ?_ _ | refine Below.alloc ?_ (by first | omega | (simp <;> omega) | (simp only [World.size_alloc] <;> omega)) _ | refine below_setRow ?_ (by first | omega | (simp <;> omega)) _ | refine Below.setCell ?_ (by first | omega | (simp <;> omega)) _)))
  have c4 : (w2.alloc (.cells (Array.replicate (N * 16) (B 0)) 23)).cell? ⟨bl, ol, none⟩ = some (.slice SA N sc) := (b3.cell (p := ⟨bl, ol, none⟩) lb2).trans c3
  have lb3 := Nat.lt_of_lt_of_le lb2 b3.size
  have P3 := Lib.hid (P2.out.below b3)
  have GF : Hid (¬ Fp gp v2 go) := Lib.hid fun e => by have := (P2.out.pu.lt go e).2; omega
  have hblo : Hid (bl ≠ go ∧ w.heap.size ≤ go) := Lib.hid (by have := P2.out.t.size; omega)
  rw [← hgo]
  clear b3 hgo P2 c3 lb2
  generalize w2.alloc (.cells (Array.replicate (N * 16) (B 0)) 23) = w3 at *
  obtain ⟨CS, hCS⟩ : ∃ C, C = ss.flatten.map B := ⟨_, rfl⟩
  obtain ⟨Z0, hZ0⟩ : ∃ Z, Z = Array.replicate (N * 16) (B 0) := ⟨_, rfl⟩
  rw [← hZ0] at k3
  have hlen : CS.length = N * 16 := by rw [hCS, List.length_map, flat16 H16.out, ← HN.out]
  have CP : Hid (CS.length = Nat.min N N * 16 ∧ (0 < Nat.min N N → some (⟨go, 0, none⟩ : Addr) = some ⟨go, 0, none⟩ ∧ ∃ ad, SA = some ad ∧ ∀ j v, CS[j]? = some v → w3.cell? (ad.add j) = some v)) := Lib.hid ⟨by rw [hlen]; show N * 16 = min N N * 16; rw [Nat.min_self], fun h0 => ⟨rfl, by
    have := (HSS.out.below P3.out.bl (Nat.le_refl _)).cells (fun z hz => by simp [H16.out z hz]) (by decide) (by rw [← HN.out]; exact Nat.lt_of_lt_of_le h0 (Nat.min_le_left _ _))
    rw [adr_flat] at this
    rw [hCS]
    exact this⟩⟩
  have HSP : Hid (spl Z0.toList 0 CS = CS.toArray) := Lib.hid (by
    unfold spl
    rw [List.take_zero, List.nil_append, List.drop_of_length_le (by rw [hlen, hZ0]; simp), List.append_nil])
  have HFI : Hid (0 + CS.length ≤ Z0.size ∧ ∀ v ∈ CS, v.oneCell' = true) := Lib.hid ⟨by rw [hlen, hZ0]; simp, by rw [hCS]; exact ones_mem (ones_map _)⟩
  have HCS := Lib.hid hCS
  clear hCS hZ0 hlen
  go_wp2_with (with_reducible refine wpList_copyS rfl _ _ _ _ rfl 23 16 Try.underlying30 (by kernel_rfl) (some ⟨go, 0, none⟩) SA N N N sc rfl rfl go 0 _ _ k3 CS CP.out.1 CP.out.2 HFI.out.1 HFI.out.2 ?_)
  rw [HSP.out]
  have P4 := Lib.hid (P3.out.fresh GF.out hblo.out.2 (by have := hblo.out.2; have := P0n.out; omega) CS.toArray)
  have k4 : bk (w3.setRow go CS.toArray) go = some (.cells CS.toArray 23 (0, 0)) := by rw [bk_setRow_same, k3]; rfl
  have K4 := Lib.hid k4
  clear k3 P3 CP HSP HFI c4 lb3 k4
  generalize w3.setRow go CS.toArray = w4 at *
  obtain ⟨L3, hL3⟩ : ∃ L', L' = L ++ nb 2 N ++ X := ⟨_, rfl⟩
  rw [← hL3] at P4
  have HL3 := Lib.hid hL3
  have HLL : Hid (L3.length < 2 ^ 25) := Lib.hid (by rw [hL3, List.length_append, List.length_append, nb_length]; have := HL.out; omega)
  have P5 : Hid (PS w4 w4 n gp v2 v2 (L3 ++ (ss.take 0).flatten)) := Lib.hid (by rw [List.take_zero, List.flatten_nil, List.append_nil]; exact PS.start P4.out.pu)
  clear hL3
  go_loopw [29] (fun i wr => ∃ (k : Nat) (v' : Value), k ≤ N ∧ i = .int .i64 (k : Int) ∧ Hid (PS w4 wr n gp v2 v' (L3 ++ (ss.take k).flatten))) (fun i _ => N - (intOf i).toNat)
  case atStart => exact ⟨0, v2, by omega, rfl, P5⟩
  case round =>
    clear P5
    obtain ⟨k, v', hk, rfl, PR⟩ := hrel
    by_cases hlt : k < N
    · have d1 : decide ((k : Int) < (N : Int)) = true := by simp; omega
      have hks : k < ss.length := by rw [← HN.out]; exact hlt
      have HZ : Hid (ss[k].length = 16 ∧ (ss.take (k + 1)).flatten = (ss.take k).flatten ++ ss[k]) := Lib.hid ⟨H16.out _ (List.getElem_mem hks), take_flat hks⟩
      have HR : Hid (∀ W, bk W go = some (.cells CS.toArray 23 (0, 0)) → Rd W W.heap.size (some ⟨go, k * 16, none⟩) ss[k]) := Lib.hid fun W hW => by rw [HCS.out] at hW; exact adr_at H16.out hks hW (bk_lt hW)
      have HLK : Hid ((L3 ++ (ss.take k).flatten).length < 2 ^ 40) := Lib.hid (by rw [List.length_append]; have h1 := HLL.out; have h2 := take_flat_le H16.out k; have h3 := HN.out; omega)
      obtain ⟨z, hz⟩ : ∃ z, z = ss[k] := ⟨_, rfl⟩
      rw [← hz] at HZ HR
      clear hz hks
      go_upto_region 7 with fail
      have PD := Lib.hid ((PR).out.below (w' := (wr).drew) (by (repeat (first | exact Below.refl _ _ | assumption | refine Below.drew ?_ | refine bdrewN ?_ _ | refine Below.alloc ?_ (by first | omega | (simp <;> omega) | (simp only [World.size_alloc] <;> omega)) _ | refine below_setRow ?_ (by first | omega | (simp <;> omega)) _ | refine Below.setCell ?_ (by first | omega | (simp <;> omega)) _))))
      have C := Lib.hid (paddr_put n gp go (k * 16) z _ _ _ PD.out.pu HZ.out.1 (HR.out _ (PD.out.t.keep GF.out K4.out)) HLK.out)
      go_region_held3 (fun w' => True) (first | assumption | go_keep) ((go_at_call 94; with_reducible refine C.out.mono ?_; rintro e w6 ⟨rfl, p1⟩; obtain ⟨v6, h1, f1⟩ := PD.out.put p1; have P6 := Lib.hid h1; have F6 := Lib.hid f1; clear p1 h1 f1 C PD))
      have P7 : Hid (PS w4 w6 n gp v2 v6 (L3 ++ (ss.take (k + 1)).flatten)) := Lib.hid (by rw [HZ.out.2, ← List.append_assoc]; exact P6.out)
      clear P6 F6 PR HR HZ HLK
      go_wp2_with fail
      go_roundw
      case rel => exact ⟨k + 1, v6, by omega, by go_num, P7⟩
      case measure => simp [intOf]; omega
    · obtain rfl : k = N := by omega
      have d1 : decide ((k : Int) < (k : Int)) = false := by simp
      obtain ⟨vf, hf, _⟩ := P4.out.put PR.out.done
      have hL9 : Hid (L3 ++ (ss.take k).flatten = L ++ nb 2 ss.length ++ X ++ ss.flatten) := Lib.hid (by rw [HL3.out, HN.out, List.take_length])
      have kb := hf.t.keep HBL.out HB.out
      have q1 := bk_lt kb
      have q2 := bk_frozen kb ol
      have q3 := HK.out hf
      have hvf : ¬ Fp gp vf bl := fun e => by
        rcases e with e | e
        · exact HBL.out (.inl e)
        · rcases hf.nw bl e with q | q
          · exact HBL.out (.inr q)
          · omega
      have FX : Hid (∀ x, Put2 w n gp bl ol v cur t (L3 ++ (ss.take k).flatten) (wr.setCell ⟨bl, ol, none⟩ x)) := Lib.hid fun x => ⟨vf, x, hf.pu.keep (F := fun j => j = bl) ((Tn.refl _ _).set (.inl rfl)) (fun j hj => by subst hj; exact hvf), hf.nw, (hf.t.mono fun j hj => .inl hj).set (.inl (.inr rfl)), by rw [bk_setCell_same, kb]; rfl⟩
      clear hf kb hvf PR P4
      go_wp2_with fail
      go_end0
      exact ⟨rfl, by rw [← hL9.out]; exact FX.out _⟩
end Go.Proofs.Ytjimmfbjhkoekaa
/- Icmps: a report, put. -/
namespace Go.Proofs.Ytjimmfbjhkoekaa
open Go.RowKit
set_option maxRecDepth 100000
set_option maxHeartbeats 1000000
theorem PS.put2 {w0 w w' : World} {n gp bl ol : Nat} {v0 v : Value} {cur : Array Value} {t : TypeId} {L L' : List UInt8} (h : PS w0 w n gp v0 v L) (p : Put2 w n gp bl ol v cur t L' w') : Put2 w0 n gp bl ol v0 cur t L' w' := by
  obtain ⟨v', x, h1, h2, h3, h4⟩ := p
  have hs := h.t.size
  refine ⟨v', x, h1, fun k hk => ?_, (h.t.mono fun k e => .inl e).trans h3 fun j hj => ?_, h4⟩
  · rcases h2 k hk with q | q
    · exact h.nw k q
    · exact .inr (by omega)
  · rcases hj with (rfl | hj) | hj
    · exact .inl (.inl (.inl rfl))
    · rcases h.nw j hj with q | q
      · exact .inl (.inl (.inr q))
      · exact .inr q
    · exact .inl (.inr hj)
theorem Put2.from {w w0 w' : World} {n gp bl ol : Nat} {v : Value} {cur : Array Value} {t : TypeId} {L : List UInt8} (hb : Below w.heap.size w w0) (p : Put2 w0 n gp bl ol v cur t L w') : Put2 w n gp bl ol v cur t L w' := by
  obtain ⟨v', x, h1, h2, h3, h4⟩ := p
  have hs := hb.size
  exact ⟨v', x, h1, fun k hk => (h2 k hk).imp id fun q => by omega, (Tn.of (F := fun k => Fp gp v k ∨ k = bl) hb).trans h3 fun j hj => .inl hj, h4⟩
theorem two_cells {w0 w : World} {n gp bs br : Nat} {v0 v a b : Value} {t t' : TypeId} {L : List UInt8} (h : PS w0 w n gp v0 v L) (h1 : ¬ Fp gp v0 bs) (k1 : bk w0 bs = some (.cells #[a] t (0, 0))) (h2 : ¬ Fp gp v0 br) (k2 : bk w0 br = some (.cells #[b] t' (0, 0))) : w.cell? ⟨bs, 0, none⟩ = some a ∧ w.cell? ⟨br, 0, none⟩ = some b :=
  ⟨(bk_cell (h.t.keep h1 k1) 0).trans rfl, (bk_cell (h.t.keep h2 k2) 0).trans rfl⟩
theorem record1_put (n gp go o bs br : Nat) (z : List UInt8) (v : Value) (L : List UInt8) (w : World) (h : PU w n gp v L) (ks : bk w bs = some (.cells #[sideP gp] 103 (0, 0))) (kr : bk w br = some (.cells #[.pointer (some ⟨go, o, none⟩)] 119 (0, 0))) (hbs : ¬ Fp gp v bs) (hbr : ¬ Fp gp v br) (hz : z.length = 16) (hr : Rd w w.heap.size (some ⟨go, o + 1, none⟩) z) (hl : L.length < 2 ^ 30) :
    Calls Try.prog 75 #[.pointer (some ⟨bs, 0, none⟩), .pointer (some ⟨br, 0, none⟩)] w fun e w' => e = .returned (.tuple #[]) ∧ Put1 w n gp v (L ++ z) false w' := by
  have P0 := Lib.hid (PS.start h)
  have KS := Lib.hid ks; have KR := Lib.hid kr; have HL := Lib.hid hl; have HZ := Lib.hid hz; have HR := Lib.hid hr; have HBS := Lib.hid hbs; have HBR := Lib.hid hbr
  have c1 : w.drew.cell? ⟨bs, 0, none⟩ = some (sideP gp) := (bk_cell ks 0).trans rfl
  have c2 : w.drew.cell? ⟨br, 0, none⟩ = some (.pointer (some ⟨go, o, none⟩)) := (bk_cell kr 0).trans rfl
  have l1 := bk_lt ks; have l2 := bk_lt kr
  clear h ks kr hl hz hr hbs hbr
  go_enter Try.func75, Try.ntmps75
  go_upto_region 0 with fail
  have PD := Lib.hid ((P0).out.below (w' := (w).drew) (by (repeat (first | exact Below.refl _ _ | assumption | refine Below.drew ?_ | refine bdrewN ?_ _ | refine Below.alloc ?_ (by first | omega | (simp <;> omega) | (simp only [World.size_alloc] <;> omega)) _ | refine below_setRow ?_ (by first | omega | (simp <;> omega)) _ | refine Below.setCell ?_ (by first | omega | (simp <;> omega)) _))))
  have C := Lib.hid (paddr_put n gp go (o + 1) z _ _ _ PD.out.pu HZ.out HR.out (by have := HL.out; omega))
  go_region_held3 (fun w' => w'.cell? ⟨bs, 0, none⟩ = some (sideP gp) ∧ w'.cell? ⟨br, 0, none⟩ = some (.pointer (some ⟨go, o, none⟩))) (first | assumption | go_keep) ((go_at_call 94; with_reducible refine C.out.mono ?_; rintro e w1 ⟨rfl, p1⟩; obtain ⟨v1, h1, f1⟩ := PD.out.put p1; have P1 := Lib.hid h1; have F1 := Lib.hid f1; obtain ⟨s1, s2⟩ := two_cells h1 HBS.out KS.out HBR.out KR.out; clear p1 h1 f1 C PD))
  all_goals
    go_end0
    exact ⟨rfl, P1.out.done⟩
end Go.Proofs.Ytjimmfbjhkoekaa
/- Icmps: a report, put, whole. -/
namespace Go.Proofs.Ytjimmfbjhkoekaa
open Go.RowKit
set_option maxRecDepth 100000
set_option maxHeartbeats 1000000
theorem e75 (bs br : Nat) (w : World) : (callFunc 75 #[.pointer (some ⟨bs, 0, none⟩), .pointer (some ⟨br, 0, none⟩)]).run Try.prog w = .ok (.enter 75 #[.pointer (some ⟨bs, 0, none⟩), .pointer (some ⟨br, 0, none⟩)]) w := by kernel_rfl
/-- A report lies at o of a block. -/
structure RcAt (cur : Array Value) (o : Nat) (x : Rv) : Prop where
  k : cur[o]? = some (B x.kind)
  g : ∀ j (h : j < x.g.length), cur[o + 1 + j]? = some (B x.g[j])
  s : cur[o + 17]? = some (.slice x.A x.s.length x.c)
theorem PS.off {w0 w : World} {n gp b : Nat} {v0 v : Value} {L : List UInt8} (h : PS w0 w n gp v0 v L) (h0 : ¬ Fp gp v0 b) (hb : b < w0.heap.size) : ¬ Fp gp v b := fun e => by
  rcases e with e | e
  · exact h0 (.inl e)
  · rcases h.nw b e with q | q
    · exact h0 (.inr q)
    · omega
theorem RcAt.rd {cur : Array Value} {o go : Nat} {x : Rv} {w : World} {t : TypeId} {fr : Nat × Nat} (h : RcAt cur o x) (hb : bk w go = some (.cells cur t fr)) : Rd w w.heap.size (some ⟨go, o + 1, none⟩) x.g := fun _ =>
  ⟨go, o + 1, rfl, bk_lt hb, fun j hj => by rw [bk_cell hb]; exact h.g j hj⟩
theorem record_put (n gp go o : Nat) (x : Rv) (v : Value) (L : List UInt8) (cur : Array Value) (t : TypeId) (w : World)
    (h : PU w n gp v L) (hgo : ¬ Fp gp v go) (hb : bk w go = some (.cells cur t (0, 0))) (hx : RcAt cur o x) (hss : Rws 16 adr w n x.A x.s) (h16 : ∀ z ∈ x.s, z.length = 16) (hll : x.s.length < 65536) (hl : L.length < 2 ^ 22) :
    Calls Try.prog 63 #[sideP gp, .pointer (some ⟨go, o, none⟩)] w fun e w' => e = .returned (.tuple #[]) ∧ Put2 w n gp go (o + 17) v cur t (L ++ nb 1 x.kind.toNat ++ nb 1 0 ++ nb 2 x.s.length ++ x.g ++ x.s.flatten) w' := by
  obtain ⟨W, hW⟩ : ∃ W, W = ((w.alloc (.cells #[sideP gp] 103)).alloc (.cells #[.pointer (some ⟨go, o, none⟩)] 119)).alloc (.cells #[.int .u8 0] 5) := ⟨_, rfl⟩
  have b0 : Below w.heap.size w W := by rw [hW]; exact (by (repeat (first | exact Below.refl _ _ | assumption | refine Below.drew ?_ | refine bdrewN ?_ _ | refine Below.alloc ?_ (by first | omega | (simp <;> omega) | (simp only [World.size_alloc] <;> omega)) _ | refine below_setRow ?_ (by first | omega | (simp <;> omega)) _ | refine Below.setCell ?_ (by first | omega | (simp <;> omega)) _)))
  obtain ⟨bs, hbs⟩ : ∃ b, b = w.heap.size := ⟨_, rfl⟩
  have ks : bk W bs = some (.cells #[sideP gp] 103 (0, 0)) := by rw [hW, hbs, bk_alloc_past _ _ _ (by simp <;> omega), bk_alloc_past _ _ _ (by simp)]; exact bk_alloc_at _ _ _ rfl
  have kr : bk W (bs + 1) = some (.cells #[.pointer (some ⟨go, o, none⟩)] 119 (0, 0)) := by rw [hW, hbs, bk_alloc_past _ _ _ (by simp)]; exact bk_alloc_at _ _ _ (by simp)
  have km : bk W (bs + 1 + 1) = some (.cells #[.int .u8 0] 5 (0, 0)) := by rw [hW, hbs]; exact bk_alloc_at _ _ _ (by simp)
  have P0 := Lib.hid (PS.start (h.below b0))
  have hfr : ∀ k, bs ≤ k → ¬ Fp gp v k := fun k hk e => by have := (h.lt k e).2; omega
  have HBS := Lib.hid (hfr bs (by omega)); have HBR := Lib.hid (hfr (bs + 1) (by omega)); have HBM := Lib.hid (hfr (bs + 1 + 1) (by omega))
  have HNE : Hid (bs ≠ go ∧ bs + 1 ≠ go ∧ bs + 1 + 1 ≠ go) := Lib.hid (by have := bk_lt hb; omega)
  have KS := Lib.hid ks; have KR := Lib.hid kr; have KM := Lib.hid km; have B0 := Lib.hid b0; have HGO := Lib.hid hgo; have HX := Lib.hid hx; have H16 := Lib.hid h16; have HL := Lib.hid hl; have HW := Lib.hid hW; have HLL := Lib.hid hll
  have kb := bk_keep b0 (bk_lt hb) hb
  have KB := Lib.hid kb; have HSS := Lib.hid (hss.below b0 (by have := h.lt gp (.inl rfl); omega))
  have HBSE := Lib.hid hbs
  clear h hgo hb hx hss h16 hl b0 ks kr km hW hfr hbs hll
  go_enter Try.func63, Try.ntmps63
  go_upto_region 2 with fail
  rw [← HW.out, ← HBSE.out]
  clear HW
  have c1 : W.drew.cell? ⟨bs, 0, none⟩ = some (sideP gp) := (bk_cell KS.out 0).trans rfl
  have c2 : W.drew.cell? ⟨bs + 1, 0, none⟩ = some (.pointer (some ⟨go, o, none⟩)) := (bk_cell KR.out 0).trans rfl
  have l1 := bk_lt KS.out; have l2 := bk_lt KR.out
  go_upto_region 2 with fail
  have PD := Lib.hid ((P0).out.below (w' := (W).drew) (by (repeat (first | exact Below.refl _ _ | assumption | refine Below.drew ?_ | refine bdrewN ?_ _ | refine Below.alloc ?_ (by first | omega | (simp <;> omega) | (simp only [World.size_alloc] <;> omega)) _ | refine below_setRow ?_ (by first | omega | (simp <;> omega)) _ | refine Below.setCell ?_ (by first | omega | (simp <;> omega)) _))))
  have C := Lib.hid (pone_put n gp go o x.kind _ _ _ PD.out.pu ((bk_cell (PD.out.t.keep HGO.out KB.out) o).trans HX.out.k) (bk_lt (PD.out.t.keep HGO.out KB.out)) (by have := HL.out; omega))
  go_region_held3 (fun w' => w'.cell? ⟨bs, 0, none⟩ = some (sideP gp) ∧ w'.cell? ⟨bs + 1, 0, none⟩ = some (.pointer (some ⟨go, o, none⟩))) (first | assumption | go_keep) ((go_at_call 98; with_reducible refine C.out.mono ?_; rintro e w1 ⟨rfl, p1⟩; obtain ⟨v1, h1, f1⟩ := PD.out.put p1; have P1 := Lib.hid h1; have F1 := Lib.hid f1; obtain ⟨s1, s2⟩ := two_cells h1 HBS.out KS.out HBR.out KR.out; clear p1 h1 f1 C PD))
  all_goals
    have l1' : bs < w1.heap.size := Nat.lt_of_lt_of_le l1 P1.out.t.size
    have s1' : w1.cell? ⟨bs, 0, none⟩ = some (sideP gp) := (bk_cell (P1.out.t.keep HBS.out KS.out) 0).trans rfl
    clear c1 c2 P0 F1
    have C := Lib.hid (pone_put n gp (bs + 1 + 1) 0 0 _ _ _ P1.out.pu ((bk_cell (P1.out.t.keep HBM.out KM.out) 0).trans rfl) (bk_lt (P1.out.t.keep HBM.out KM.out)) (by simp only [List.length_append, nb_length]; have := HL.out; omega))
    go_wp2_with fail
    refine C.out.mono ?_
    rintro e w2 ⟨rfl, p1⟩
    obtain ⟨v2, h1, f1⟩ := (P1).out.put p1
    have P2 := Lib.hid h1
    have F2 := Lib.hid f1
    clear p1 h1 f1 C
    clear P1 F2 s1' l1'
    have l1' : bs < w2.heap.size := Nat.lt_of_lt_of_le l1 P2.out.t.size
    have l2' : bs + 1 < w2.heap.size := Nat.lt_of_lt_of_le l2 P2.out.t.size
    have c1 : w2.drew.cell? ⟨bs, 0, none⟩ = some (sideP gp) := (bk_cell (P2.out.t.keep HBS.out KS.out) 0).trans rfl
    have c2 : w2.drew.cell? ⟨bs + 1, 0, none⟩ = some (.pointer (some ⟨go, o, none⟩)) := (bk_cell (P2.out.t.keep HBR.out KR.out) 0).trans rfl
    have hgl : go < w2.drew.heap.size := bk_lt (P2.out.t.keep HGO.out KB.out)
    go_upto_region 4 with fail
    have PD := Lib.hid (P2.out.below (w' := w2.drew) (by (repeat (first | exact Below.refl _ _ | assumption | refine Below.drew ?_ | refine bdrewN ?_ _ | refine Below.alloc ?_ (by first | omega | (simp <;> omega) | (simp only [World.size_alloc] <;> omega)) _ | refine below_setRow ?_ (by first | omega | (simp <;> omega)) _ | refine Below.setCell ?_ (by first | omega | (simp <;> omega)) _))))
    have C := Lib.hid (addrs_put n gp go (o + 17) 75 #[.pointer (some ⟨bs, 0, none⟩), .pointer (some ⟨bs + 1, 0, none⟩)] x.A x.s x.c x.g _ _ cur t w2.drew PD.out.pu (PD.out.off HGO.out (bk_lt KB.out)) (PD.out.t.keep HGO.out KB.out) HX.out.s (HSS.out.below PD.out.bl (Nat.le_refl _)) H16.out HLL.out (fun w => e75 bs (bs + 1) w)
      (fun W' v' hp => record1_put n gp go o bs (bs + 1) x.g v' _ W' hp.pu (hp.t.keep (PD.out.off HBS.out (bk_lt KS.out)) (PD.out.t.keep HBS.out KS.out)) (hp.t.keep (PD.out.off HBR.out (bk_lt KR.out)) (PD.out.t.keep HBR.out KR.out)) (hp.off (PD.out.off HBS.out (bk_lt KS.out)) (bk_lt (PD.out.t.keep HBS.out KS.out))) (hp.off (PD.out.off HBR.out (bk_lt KR.out)) (bk_lt (PD.out.t.keep HBR.out KR.out))) x.hg (HX.out.rd (hp.t.keep (PD.out.off HGO.out (bk_lt KB.out)) (PD.out.t.keep HGO.out KB.out))) (by simp only [List.length_append, nb_length]; have := HL.out; omega)) (by simp only [List.length_append, nb_length]; have := HL.out; have := x.hg; omega))
    have HKS : Hid (∀ {w'' : World} {L' : List UInt8}, Put2 w2.drew n gp go (o + 17) v2 cur t L' w'' → w''.cell? ⟨bs, 0, none⟩ = some (sideP gp) ∧ w''.cell? ⟨bs + 1, 0, none⟩ = some (.pointer (some ⟨go, o, none⟩)) ∧ bs < w''.heap.size) := Lib.hid fun q => by
      obtain ⟨v', y, q1, q2, q3, q4⟩ := q
      have k1 := q3.keep (fun e => e.elim (PD.out.off HBS.out (bk_lt KS.out)) HNE.out.1) (PD.out.t.keep HBS.out KS.out)
      have k2 := q3.keep (fun e => e.elim (PD.out.off HBR.out (bk_lt KR.out)) HNE.out.2.1) (PD.out.t.keep HBR.out KR.out)
      exact ⟨(bk_cell k1 0).trans rfl, (bk_cell k2 0).trans rfl, bk_lt k1⟩
    go_region_held3 (fun w' => w'.cell? ⟨bs, 0, none⟩ = some (sideP gp) ∧ w'.cell? ⟨bs + 1, 0, none⟩ = some (.pointer (some ⟨go, o, none⟩))) (first | assumption | go_keep)
      ((go_at_call 61; with_reducible refine C.out.mono ?_; rintro e w3 ⟨rfl, p3⟩; have P3 := Lib.hid p3; obtain ⟨t1, t2, t3⟩ := HKS.out p3; clear p3 C))
    clear c1 c2 hgl l1' l2' HKS
    have FX : Hid (Put2 w n gp go (o + 17) v cur t (L ++ nb 1 x.kind.toNat ++ nb 1 0 ++ nb 2 x.s.length ++ x.g ++ x.s.flatten) w3) := Lib.hid (Put2.from B0.out (PD.out.put2 P3.out))
    clear P3 PD P2
    go_wp2_with fail
    refine (pover_put gp _ w3).mono ?_
    rintro e w4 ⟨rfl, rfl⟩
    go_wp2_with fail
    go_end0
    exact ⟨rfl, FX.out⟩
end Go.Proofs.Ytjimmfbjhkoekaa
/- Icmps: parts, put: reports, echoes, routers, neighbors. -/
namespace Go.Proofs.Ytjimmfbjhkoekaa
open Go.RowKit
set_option maxRecDepth 100000
set_option maxHeartbeats 1000000
/-- What putting parts leaves. -/
def Put3 (w : World) (n gp gm : Nat) (v : Value) (L : List UInt8) (w' : World) : Prop := ∃ v', PU w' n gp v' L ∧ (∀ k, v'.ownBlock = some k → v.ownBlock = some k ∨ w.heap.size ≤ k) ∧ Tn (fun k => Fp gp v k ∨ k = gm) w w'
theorem Put1.to3 {w w' : World} {n gp gm : Nat} {v : Value} {L : List UInt8} {f : Bool} (h : Put1 w n gp v L f w') : Put3 w n gp gm v L w' := by
  obtain ⟨v', h1, _, h2, h3⟩ := h
  exact ⟨v', h1, h2, h3.mono fun k e => .inl e⟩
theorem Put2.to3 {w w' : World} {n gp gm ol : Nat} {v : Value} {cur : Array Value} {t : TypeId} {L : List UInt8} (h : Put2 w n gp gm ol v cur t L w') : Put3 w n gp gm v L w' := by
  obtain ⟨v', x, h1, h2, h3, _⟩ := h
  exact ⟨v', h1, h2, h3⟩
theorem eq3 {w w' : World} {n gp gm : Nat} {v : Value} {L L' : List UInt8} (h : Put3 w n gp gm v L w') (e : L = L') : Put3 w n gp gm v L' w' := e ▸ h
theorem p133_put (n gp gm : Nat) (m : Mv) (v : Value) (L : List UInt8) (w : World) (h : PU w n gp v L) (hf : Full v L) (hgm : gm < n) (hm : bk w gm = some (.cells (mC m) 33 (0, 0))) (hok : MvOk w n m) (hl : L.length < 2 ^ 20 ∧ m.os.length < 2 ^ 30 ∧ (optsB (m.os.map Ov.pl)).length < 2 ^ 30) (hk : m.kind = 133) :
    Calls Try.prog 31 #[sideP gp, .pointer (some ⟨gm, 0, none⟩)] w fun e w' => e = .returned (.bool true) ∧ Put3 w n gp gm v (L ++ partB m.pl) w' := by
  have c0 : w.cell? ⟨gm, 0, none⟩ = some (.int .u8 133) := by rw [bk_cell hm, mC_0, hk]; rfl
  have lm := bk_lt hm
  have C := Lib.hid (nb133_put n gp gm m v L w h hf hgm hm hok hl hk)
  have HE : Hid (∀ {w' : World} {L' : List UInt8}, L' = L ++ partB m.pl → Put1 w n gp v L' false w' → Put3 w n gp gm v (L ++ partB m.pl) w') := Lib.hid fun e q => e ▸ q.to3
  have HQ : Hid (m.pl.kind = 133) := Lib.hid hk
  clear h hf hok hl hk
  go_enter Try.func31, Try.ntmps31
  go_wp2_with fail
  refine C.out.mono ?_
  rintro e w1 ⟨rfl, p1⟩
  have FX := Lib.hid (HE.out (by unfold partB; rw [HQ.out]; (have dd := dumP m ⟨0, none, [], 0⟩; simp [List.replicate, Mv.pl, Ov.pl] at dd ⊢)) p1)
  clear p1 C
  go_wp2_with fail
  go_ret
  exact ⟨rfl, FX.out⟩
theorem p135_put (n gp gm : Nat) (m : Mv) (v : Value) (L : List UInt8) (w : World) (h : PU w n gp v L) (hf : Full v L) (hgm : gm < n) (hm : bk w gm = some (.cells (mC m) 33 (0, 0))) (hok : MvOk w n m) (hl : L.length < 2 ^ 20 ∧ m.os.length < 2 ^ 30 ∧ (optsB (m.os.map Ov.pl)).length < 2 ^ 30) (hk : m.kind = 135) :
    Calls Try.prog 31 #[sideP gp, .pointer (some ⟨gm, 0, none⟩)] w fun e w' => e = .returned (.bool true) ∧ Put3 w n gp gm v (L ++ partB m.pl) w' := by
  have c0 : w.cell? ⟨gm, 0, none⟩ = some (.int .u8 135) := by rw [bk_cell hm, mC_0, hk]; rfl
  have lm := bk_lt hm
  have C := Lib.hid (nb135_put n gp gm m v L w h hf hgm hm hok hl hk)
  have HE : Hid (∀ {w' : World} {L' : List UInt8}, L' = L ++ partB m.pl → Put1 w n gp v L' false w' → Put3 w n gp gm v (L ++ partB m.pl) w') := Lib.hid fun e q => e ▸ q.to3
  have HQ : Hid (m.pl.kind = 135) := Lib.hid hk
  clear h hf hok hl hk
  go_enter Try.func31, Try.ntmps31
  go_wp2_with fail
  refine C.out.mono ?_
  rintro e w1 ⟨rfl, p1⟩
  have FX := Lib.hid (HE.out (by unfold partB; rw [HQ.out]; (have dd := dumP m ⟨0, none, [], 0⟩; simp [List.replicate, Mv.pl, Ov.pl] at dd ⊢)) p1)
  clear p1 C
  go_wp2_with fail
  go_ret
  exact ⟨rfl, FX.out⟩
theorem p136_put (n gp gm : Nat) (m : Mv) (v : Value) (L : List UInt8) (w : World) (h : PU w n gp v L) (_hf : Full v L) (hgm : gm < n) (hm : bk w gm = some (.cells (mC m) 33 (0, 0))) (hok : MvOk w n m) (hl : L.length < 2 ^ 20 ∧ m.os.length < 2 ^ 30 ∧ (optsB (m.os.map Ov.pl)).length < 2 ^ 30) (hk : m.kind = 136) :
    Calls Try.prog 31 #[sideP gp, .pointer (some ⟨gm, 0, none⟩)] w fun e w' => e = .returned (.bool true) ∧ Put3 w n gp gm v (L ++ partB m.pl) w' := by
  have c0 : w.cell? ⟨gm, 0, none⟩ = some (.int .u8 136) := by rw [bk_cell hm, mC_0, hk]; rfl
  have lm := bk_lt hm
  have C := Lib.hid (nb136_put n gp gm m v L w h hgm hm hok hl hk)
  have HE : Hid (∀ {w' : World} {L' : List UInt8}, L' = L ++ partB m.pl → Put1 w n gp v L' false w' → Put3 w n gp gm v (L ++ partB m.pl) w') := Lib.hid fun e q => e ▸ q.to3
  have HQ : Hid (m.pl.kind = 136) := Lib.hid hk
  clear h _hf hok hl hk
  go_enter Try.func31, Try.ntmps31
  go_wp2_with fail
  refine C.out.mono ?_
  rintro e w1 ⟨rfl, p1⟩
  have FX := Lib.hid (HE.out (by unfold partB; rw [HQ.out]; (have dd := dumP m ⟨0, none, [], 0⟩; simp [nb1, List.replicate, Mv.pl, Ov.pl] at dd ⊢)) p1)
  clear p1 C
  go_wp2_with fail
  go_ret
  exact ⟨rfl, FX.out⟩
theorem p137_put (n gp gm : Nat) (m : Mv) (v : Value) (L : List UInt8) (w : World) (h : PU w n gp v L) (hf : Full v L) (hgm : gm < n) (hm : bk w gm = some (.cells (mC m) 33 (0, 0))) (hok : MvOk w n m) (hl : L.length < 2 ^ 20 ∧ m.os.length < 2 ^ 30 ∧ (optsB (m.os.map Ov.pl)).length < 2 ^ 30) (hk : m.kind = 137) :
    Calls Try.prog 31 #[sideP gp, .pointer (some ⟨gm, 0, none⟩)] w fun e w' => e = .returned (.bool true) ∧ Put3 w n gp gm v (L ++ partB m.pl) w' := by
  have c0 : w.cell? ⟨gm, 0, none⟩ = some (.int .u8 137) := by rw [bk_cell hm, mC_0, hk]; rfl
  have lm := bk_lt hm
  have C := Lib.hid (nb137_put n gp gm m v L w h hf hgm hm hok hl hk)
  have HE : Hid (∀ {w' : World} {L' : List UInt8}, L' = L ++ partB m.pl → Put1 w n gp v L' false w' → Put3 w n gp gm v (L ++ partB m.pl) w') := Lib.hid fun e q => e ▸ q.to3
  have HQ : Hid (m.pl.kind = 137) := Lib.hid hk
  clear h hf hok hl hk
  go_enter Try.func31, Try.ntmps31
  go_wp2_with fail
  refine C.out.mono ?_
  rintro e w1 ⟨rfl, p1⟩
  have FX := Lib.hid (HE.out (by unfold partB; rw [HQ.out]; (have dd := dumP m ⟨0, none, [], 0⟩; simp [List.replicate, Mv.pl, Ov.pl] at dd ⊢)) p1)
  clear p1 C
  go_wp2_with fail
  go_ret
  exact ⟨rfl, FX.out⟩
end Go.Proofs.Ytjimmfbjhkoekaa

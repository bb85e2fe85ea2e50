/- The hash. -/
import Derived.Test.YtmdalmegogfanaaDoorI2
import Derived.Test.YtmdalmegogfanaaDoorS4
import Derived.Test.YtmdalmegogfanaaDoorS6
namespace Go.Proofs.YtmdalmegogfanaaDoor
open Go.RowKit Go.Shelf
attribute [local go_sem] Oper.semAt_some
set_option maxRecDepth 100000
@[go_sem ↓] theorem ldB32 (dst : Option Tmp) (x : Operand) (t : TypeId) (pos : String) (af : Array Edge) (g : Option (Nat × Bool)) (a : Act) (w : World) (K : Act → World → Prop) (Q : Exit → Act → World → Prop) :
    Oper.wp Tryd.prog ⟨dst, .load 37 x, t, pos, af, g⟩ a w K Q = ldPtr (wpHid Tryd.prog ⟨dst, .load 37 x, t, pos, af, g⟩ a w K Q) 32 w (fun c => K (a.put dst (.agg c)) w) (a.eval x) :=
  wp_load_bk 37 32 _ Tryd.underlying37 rfl (by kernel_rfl) dst x t pos af g a w K Q
@[go_sem ↓] theorem stB32 (dst : Option Tmp) (x y : Operand) (t : TypeId) (pos : String) (af : Array Edge) (g : Option (Nat × Bool)) (a : Act) (w : World) (K : Act → World → Prop) (Q : Exit → Act → World → Prop) :
    Oper.wp Tryd.prog ⟨dst, .store 37 x y, t, pos, af, g⟩ a w K Q = stPtr (wpHid Tryd.prog ⟨dst, .store 37 x y, t, pos, af, g⟩ a w K Q) 32 w (fun w' => K (a.put dst undef) w') (a.eval x) (a.eval y) :=
  wp_store_bk 37 32 (by kernel_rfl) dst x y t pos af g a w K Q
@[go_sem ↓] theorem qlB32 (dst : Option Tmp) (x : Operand) (t : TypeId) (pos : String) (af : Array Edge) (g : Option (Nat × Bool)) (a : Act) (m : Nat) (W : World) (K : Act → Prop) :
    Oper.quiet Tryd.prog ⟨dst, .load 37 x, t, pos, af, g⟩ a (fun w' => ∃ x : Later m W, w' = x.w) K =
      ldLater (quietHid Tryd.prog ⟨dst, .load 37 x, t, pos, af, g⟩ a (fun w' => ∃ x : Later m W, w' = x.w) K) m 32 W (fun c => K (a.put dst (.agg c))) (a.eval x) :=
  quiet_load_bk 37 32 _ Tryd.underlying37 rfl (by kernel_rfl) dst x t pos af g a m W K
theorem chunk_in (n : Nat) (a : Option Addr) (len cap : Nat) (w : World) :
    CallsIn Fence.wide n Tryd.prog 25 #[.slice a len cap, .int .i64 64] w fun e w' => e = .returned (.func (.func 35) #[] #[.pointer (some ⟨w.heap.size, 0, none⟩), .pointer (some ⟨w.heap.size + 1, 0, none⟩)]) ∧ w' = (w.alloc (.cells #[.slice a len cap] 35)).alloc (.cells #[.int .i64 64] 3) := by
  refine callsIn_of_wp Tryd.func25 rfl trivial ?_ rfl
  simp only [Tryd.ntmps25, List.size_toArray, List.length_cons, List.length_nil, Nat.reduceAdd, Nat.reduceSub, Array.replicate_succ, Array.replicate_zero, List.push_toArray, List.append_toArray, List.nil_append, List.cons_append]
  gi_wp2
  go_ret
  exact ⟨rfl, rfl⟩
/-- The padded bytes, their parts, the hash. -/
def zlen (n : Nat) : Nat := (119 - n % 64) % 64
def pad (b : List UInt8) : List UInt8 := b ++ [128] ++ List.replicate (zlen b.length) 0 ++ nb 8 (8 * b.length)
def prt (L : List UInt8) (x : Nat) : List UInt8 := (L.drop (64 * x)).take 64
def hsh (L : List UInt8) (m : Nat) (xs : List Nat) : S8 := xs.foldl (fun s x => mix s (prt L (x % m))) H0
def digest (b : List UInt8) : List UInt8 := (hsh (pad b) ((pad b).length / 64) (List.range ((pad b).length / 64))).ls.flatMap fun x => nb 4 x.toNat
theorem pad_length (b : List UInt8) : (pad b).length = b.length + 9 + zlen b.length := by simp [pad, nb_length]; omega
theorem pad_64 (b : List UInt8) : (pad b).length % 64 = 0 := by rw [pad_length]; unfold zlen; omega
theorem chunk_stops (n : Nat) (hn : 1 ≤ n) (n₀ p c m : Nat) (w : World) (hp : p < n₀) (hm : m < 2 ^ 30) (hc : 64 * m ≤ c) (hc' : c < 2 ^ 62) (hsz : n₀ + 2 < w.heap.size)
    (hBs : w.cell? ⟨n₀ + 1, 0, none⟩ = some (.slice (some ⟨p, 0, none⟩) (64 * m) c)) (hBn : w.cell? ⟨n₀ + 2, 0, none⟩ = some (.int .i64 64)) :
    SeqStopsK Fence.wide n Tryd.prog 35 #[.pointer (some ⟨n₀ + 1, 0, none⟩), .pointer (some ⟨n₀ + 2, 0, none⟩)] (crow p m) (KpC n₀) (fun ys => ys = List.range m) (fun pre => ∃ k, k ≤ m ∧ pre = List.range k) m w := fun l J Jx W hW hJ _ hY h0 =>
  chunk1_in n hn l n₀ p c m J Jx hp hm hc hc' (fun pre A k h => hJ pre A _ none h ⟨rfl, rfl, rfl, Nat.le_refl _, fun _ _ _ => rfl⟩ (fun r e => by cases e)) hY W ((hW.cell (p := ⟨n₀ + 1, 0, none⟩) (by show n₀ + 1 < _; omega)).trans hBs) ((hW.cell (p := ⟨n₀ + 2, 0, none⟩) (by show n₀ + 2 < _; omega)).trans hBn) h0
theorem clone_own (A : Option Addr) (b : List UInt8) (c : Nat) (w : World) (h : Rd w w.heap.size A b) (hA : A = none → b = [] ∧ c = 0) (hl : b.length < 2 ^ 46) :
    Calls Tryd.prog 24 #[.slice A b.length c] w fun e w' => ∃ v, e = .returned v ∧ w'.ownsRow w.heap.size 5 1 v b.length (b.map B) ∧ Below w.heap.size w w' := by
  cases A with
  | none =>
    obtain ⟨rfl, rfl⟩ := hA rfl
    refine (clone_nil w).mono ?_
    rintro e w' ⟨rfl, hb⟩
    exact ⟨_, rfl, World.ownsRow_nil _ _ _ _, hb⟩
  | some ad =>
    refine (clone_any ad b c w h hl).mono ?_
    rintro e w' ⟨v, rfl, ho, _, hb⟩
    exact ⟨v, rfl, ho, hb⟩
theorem KeepsOthers.of_below {W W' : World} (h : Below W.heap.size W W') : KeepsOthers W W' :=
  ⟨h.size, fun k _ hk _ => (h.block k (Array.getElem?_eq_some_iff.1 hk).1).trans hk⟩
theorem KeepsOthers.setRow_at {W : World} {g : Nat} {c : Array Value} {t : TypeId} {fr : Nat × Nat} (h : bk W g = some (.cells c t fr)) (c' : Array Value) : KeepsOthers W (W.setRow g c') :=
  ⟨by simp [World.setRow], fun k o hk ho => by
    have hne : k ≠ g := fun e => by
      subst e
      have h' : W.heap[k]? = some (.cells c t fr) := h
      rw [hk] at h'
      cases h'
      cases ho
    exact (bk_setRow_other _ _ _ _ hne).trans hk⟩
theorem cell_of_bk {w w' : World} {b : Nat} (h : bk w' b = bk w b) (o : Nat) : w'.cell? ⟨b, o, none⟩ = w.cell? ⟨b, o, none⟩ := by
  have h' : w'.heap[b]? = w.heap[b]? := h
  simp only [World.cell?, h']
def padj (b : List UInt8) (j : Nat) : List UInt8 := b ++ [128] ++ List.replicate j 0
theorem padj_zero (b : List UInt8) : padj b 0 = b ++ [128] := by simp [padj]
theorem padj_succ (b : List UInt8) (j : Nat) : padj b (j + 1) = padj b j ++ [0] := by simp [padj, List.replicate_succ']
theorem padj_length (b : List UInt8) (j : Nat) : (padj b j).length = b.length + 1 + j := by simp [padj]; omega
def dg (r : S8) (k : Nat) : List UInt8 := (r.ls.take k).flatMap fun x => nb 4 x.toNat
theorem dg_length (r : S8) (k : Nat) (h : k ≤ 8) : (dg r k).length = 4 * k := by
  obtain rfl | rfl | rfl | rfl | rfl | rfl | rfl | rfl | rfl : k = 0 ∨ k = 1 ∨ k = 2 ∨ k = 3 ∨ k = 4 ∨ k = 5 ∨ k = 6 ∨ k = 7 ∨ k = 8 := by omega
  all_goals simp [dg, S8.ls, nb_length]
theorem dg_succ (r : S8) (k : Nat) (h : k < 8) : dg r (k + 1) = dg r k ++ nb 4 (r.ls.getD k 0).toNat := by
  unfold dg
  have hl : k < r.ls.length := h
  rw [List.take_succ_eq_append_getElem hl, List.flatMap_append, List.getD_eq_getElem?_getD, List.getElem?_eq_getElem hl]
  simp
def slen : Value → Nat
  | .slice _ n _ => n
  | _ => 0
set_option maxHeartbeats 2000000 in
theorem sum_in (n : Nat) (hn : 4 ≤ n) (A : Option Addr) (b : List UInt8) (c : Nat) (w : World) (h : Rd w w.heap.size A b) (hA : A = none → b = [] ∧ c = 0) (hl : b.length < 2 ^ 30) (hg : GE w) :
    CallsIn Fence.wide n Tryd.prog 12 #[.slice A b.length c] w fun e w' => e = .returned (.agg ((digest b).map B).toArray) ∧ Below w.heap.size w w' := by
  have h1 : 1 ≤ n := by omega
  have hmo : Tryd.prog.follows .mixedOrders = true := by kernel_rfl
  have RI := Lib.hid h; have HA := Lib.hid hA; have HG := Lib.hid hg
  clear h hA hg
  refine callsIn_of_wp_marks Tryd.func12 rfl trivial ?_ rfl
  simp only [Tryd.ntmps12, List.size_toArray, List.length_cons, List.length_nil, Nat.reduceAdd, Nat.reduceSub, Array.replicate_succ, Array.replicate_zero, List.push_toArray, List.append_toArray, List.nil_append, List.cons_append]
  refine wpIn_wide.2 ?_
  obtain ⟨Z, hZ⟩ : ∃ Z, Z = List.replicate 32 (0 : UInt8) := ⟨_, rfl⟩
  have hz32 : (#[Value.int IntKind.u8 0, Value.int IntKind.u8 0, Value.int IntKind.u8 0, Value.int IntKind.u8 0, Value.int IntKind.u8 0, Value.int IntKind.u8 0, Value.int IntKind.u8 0, Value.int IntKind.u8 0, Value.int IntKind.u8 0, Value.int IntKind.u8 0, Value.int IntKind.u8 0, Value.int IntKind.u8 0, Value.int IntKind.u8 0, Value.int IntKind.u8 0, Value.int IntKind.u8 0, Value.int IntKind.u8 0, Value.int IntKind.u8 0, Value.int IntKind.u8 0, Value.int IntKind.u8 0, Value.int IntKind.u8 0, Value.int IntKind.u8 0, Value.int IntKind.u8 0, Value.int IntKind.u8 0, Value.int IntKind.u8 0, Value.int IntKind.u8 0, Value.int IntKind.u8 0, Value.int IntKind.u8 0, Value.int IntKind.u8 0, Value.int IntKind.u8 0, Value.int IntKind.u8 0, Value.int IntKind.u8 0, Value.int IntKind.u8 0] : Array Value) = (Z.map B).toArray := by rw [hZ]; rfl
  have HZ := Lib.hid hZ
  clear hZ
  go_upto_region 1 with fail
  clear hz32
  have a0 := (Below.refl w.heap.size w).alloc (Nat.le_refl _) (.cells (Z.map B).toArray 37 (0, 0))
  have KR := Lib.hid (bk_alloc_at w (.cells (Z.map B).toArray 37 (0, 0)) _ rfl)
  have F := Lib.hid a0
  replace RI := Lib.hid ((RI.out.below a0 (Nat.le_refl _)).mono a0.size)
  have hgw : 1 < w.heap.size := by obtain ⟨t, fr, h⟩ := HG.out.each; exact bk_lt h
  clear a0
  generalize w.alloc (.cells (Z.map B).toArray 37 (0, 0)) = w0 at *
  have n0 := bk_lt KR.out
  have C := Lib.hid (clone_own A b c w0 RI.out HA.out (by omega))
  obtain ⟨Lb, hLb⟩ : ∃ L, L = b.length := ⟨_, rfl⟩
  have HLB := Lib.hid hLb
  rw [← hLb] at C hl ⊢
  clear hLb
  go_wp2_with fail
  refine C.out.mono ?_
  rintro e w1 ⟨v, rfl, ho, b1⟩
  replace KR := Lib.hid (bk_keep b1 n0 KR.out)
  replace F := Lib.hid (F.out.trans (b1.mono F.out.size))
  have HO := Lib.hid ho
  have s1 := b1.size
  clear C b1 ho
  go_wp2_with (at_builtin; refine append_rd rfl _ _ rfl w0.heap.size v Lb (b.map B) rfl (HO.out.alloc _) (some ⟨w1.heap.size, 0, none⟩) [128] 1 rfl (fun h => by cases h) (Rd.lit w1 [128] 5) (by simp; omega) (by simp; omega) ?_)
  intro v2 w2 hown hgrow
  have b2a : Below w1.heap.size w1 (w1.alloc (.cells ([128].map B).toArray 5 (0, 0))) := (Below.refl _ _).alloc (Nat.le_refl _) _
  have b2 : Below w0.heap.size w1 w2 := (b2a.mono s1).trans ((Below.refl w0.heap.size _).grown hgrow (by have := b2a.size; omega) (fun k hk => (HO.out.lt k hk).1))
  have ho2 : w2.ownsRow w0.heap.size 5 1 v2 (Lb + 1) ((padj b 0).map B) := by
    have h := hown
    rw [padj_zero]
    exact h
  have hbl : (padj b 0).length = Lb + 1 := by rw [padj_length, HLB.out]
  obtain ⟨A2, c2, rfl, _, _, _⟩ := Rd.of_own ho2 hbl.symm
  rw [hbl] at ho2 ⊢
  replace KR := Lib.hid (bk_keep b2 n0 KR.out)
  replace F := Lib.hid (F.out.trans (b2.mono (Nat.le_of_lt n0)))
  have HO2 := Lib.hid ho2
  have s2 : w0.heap.size ≤ w2.heap.size := Nat.le_trans s1 b2.size
  clear hown hgrow b2a b2 ho2 hbl HO
  go_wp2_with fail
  go_loopw [3] (fun v wr => ∃ (j : Nat) (A' : Option Addr) (c' : Nat), j ≤ zlen Lb ∧ v = .slice A' (Lb + 1 + j) c' ∧ Hid (wr.ownsRow w0.heap.size 5 1 (.slice A' (Lb + 1 + j) c') (Lb + 1 + j) ((padj b j).map B)) ∧ Hid (Below w0.heap.size w2 wr)) (fun v _ => zlen Lb + Lb + 1 - slen v)
  case atStart => exact ⟨0, A2, c2, Nat.zero_le _, rfl, HO2, Lib.hid (Below.refl _ _)⟩
  case round =>
    obtain ⟨j, A', c', hj, rfl, HOX, HB⟩ := hrel
    have hzl : zlen Lb < 64 := Nat.mod_lt _ (by decide)
    have nl := HB.out.size
    obtain ⟨N, hN⟩ : ∃ N, N = Lb + 1 + j := ⟨_, rfl⟩
    rw [← hN] at HOX ⊢
    by_cases hjz : j < zlen Lb
    · have hm : N % 64 ≠ 56 := by rw [hN]; unfold zlen at hjz; omega
      have y1 : ((N : Int) % 64 != 56) = true := by simp; omega
      have y2 : ((N : Int).tmod 64 != 56) = true := by rw [Int.tmod_eq_emod_of_nonneg (by omega)]; exact y1
      have HNN := Lib.hid hN
      have hNb : N < 2 ^ 31 := by omega
      clear hN
      go_wp2_with (at_builtin; refine append_rd rfl _ _ rfl w0.heap.size (.slice A' N c') N ((padj b j).map B) rfl (HOX.out.alloc _) (some ⟨wr.heap.size, 0, none⟩) [0] 1 rfl (fun h => by cases h) (Rd.lit wr [0] 5) (by simp; omega) (by simp; omega) ?_)
      intro v3 w3 hown hgrow
      have b3a : Below wr.heap.size wr (wr.alloc (.cells ([0].map B).toArray 5 (0, 0))) := (Below.refl _ _).alloc (Nat.le_refl _) _
      have b3 : Below w0.heap.size wr w3 := (b3a.mono (by omega)).trans ((Below.refl w0.heap.size _).grown hgrow (by have := b3a.size; omega) (fun k hk => (HOX.out.lt k hk).1))
      have ho3 : w3.ownsRow w0.heap.size 5 1 v3 (Lb + 1 + (j + 1)) ((padj b (j + 1)).map B) := by
        have h := hown
        rw [show Lb + 1 + (j + 1) = N + 1 by rw [HNN.out]; rfl, padj_succ]
        exact h
      have hbl : (padj b (j + 1)).length = Lb + 1 + (j + 1) := by rw [padj_length, HLB.out]
      obtain ⟨A4, c4, rfl, _, _, _⟩ := Rd.of_own ho3 hbl.symm
      rw [hbl] at ho3 ⊢
      have HO4 := Lib.hid ho3
      have HB4 := Lib.hid (HB.out.trans b3)
      clear hown hgrow b3a b3 ho3 hbl
      go_wp2_with fail
      go_roundw
      case rel => exact ⟨j + 1, A4, c4, by omega, rfl, HO4, HB4⟩
      case measure =>
        show zlen Lb + Lb + 1 - (Lb + 1 + (j + 1)) < zlen Lb + Lb + 1 - N
        have := HNN.out
        omega
    · have hm : N % 64 = 56 := by rw [hN]; unfold zlen at hj hjz; omega
      have y1 : ((N : Int) % 64 != 56) = false := by simp; omega
      have y2 : ((N : Int).tmod 64 != 56) = false := by rw [Int.tmod_eq_emod_of_nonneg (by omega)]; exact y1
      obtain rfl : j = zlen Lb := by omega
      obtain ⟨X, hX⟩ : ∃ X, X = padj b (zlen Lb) := ⟨_, rfl⟩
      have hXl : X.length = N := by rw [hX, padj_length, ← HLB.out, hN]
      rw [← hX] at HOX
      have e8 : (Lb : Int) * 8 = ((8 * Lb : Nat) : Int) := by push_cast; omega
      obtain ⟨Ax, cx, ex, hRx, hNx, _⟩ := Rd.of_own HOX.out hXl.symm
      cases ex
      have C := put_any A' X c' (8 * Lb) 8 wr hRx hNx (by omega) (by omega) (by decide)
      rw [show wid 8 = 8 from rfl] at C
      have HC := Lib.hid C
      have hPad : X ++ nb 8 (8 * Lb) = pad b := by rw [hX]; unfold pad padj; rw [HLB.out]
      have HPAD := Lib.hid hPad
      have HXN := Lib.hid hN
      have hN31 : X.length < 2 ^ 31 := by omega
      have hN56 : X.length % 64 = 56 := hm
      replace F := Lib.hid (F.out.trans (HB.out.mono (Nat.le_of_lt n0)))
      replace KR := Lib.hid (bk_keep HB.out n0 KR.out)
      clear C hPad hX hN hRx hNx HOX HB HO2
      go_wp2_with fail
      refine HC.out.mono ?_
      rintro e w4 ⟨p, cur, rfl, hp, hk, hle, htk, b4⟩
      have RP := Lib.hid (Rd.of_take hk htk (bk_lt hk))
      replace KR := Lib.hid (bk_keep b4 (bk_lt KR.out) KR.out)
      replace F := Lib.hid (F.out.trans (b4.mono F.out.size))
      rw [HPAD.out] at RP
      have lp := bk_lt hk
      obtain ⟨tF, frF, kF⟩ := (HG.out.below F.out hgw).first
      have lF := bk_lt kF
      have hH8 : H0.row.size = 8 := rfl
      obtain ⟨H, hH⟩ : ∃ H, H = H0 := ⟨_, rfl⟩
      have HH := Lib.hid hH
      rw [← hH] at kF hH8
      clear hk hle htk b4 HC hH
      go_upto_region 6 with fail
      obtain ⟨n₀, hn0⟩ : ∃ n₀, n₀ = w4.heap.size := ⟨_, rfl⟩
      have K5 : Hid (bk (w4.alloc (.cells H.row 56 (0, 0))) n₀ = some (.cells H.row 56 (0, 0))) := Lib.hid (bk_alloc_at _ _ _ hn0)
      have a5 : Below n₀ w4 (w4.alloc (.cells H.row 56 (0, 0))) := (Below.refl _ _).alloc (by omega) _
      have z5 : (w4.alloc (.cells H.row 56 (0, 0))).heap.size = n₀ + 1 := by simp [hn0]
      rw [← hn0] at lp ⊢
      have B5 := Lib.hid a5
      have Z5 := Lib.hid z5
      have HN0 := Lib.hid hn0
      clear kF lF hH8 a5 z5 hn0
      generalize w4.alloc (.cells H.row 56 (0, 0)) = w5 at *
      obtain ⟨M, hM⟩ : ∃ M, M = X.length + 8 := ⟨_, rfl⟩
      obtain ⟨mm, hmm⟩ : ∃ m, m = M / 64 := ⟨_, rfl⟩
      have hM64 : M = 64 * mm := by omega
      rw [← hM]
      have hPM : (pad b).length = M := by rw [← HPAD.out, List.length_append, nb_length, hM]
      have HPM := Lib.hid hPM
      have hMb : M < 2 ^ 32 := by omega
      have hmb : mm < 2 ^ 26 := by omega
      have hm0 : 0 < mm := by omega
      have HM := Lib.hid hM; have HMM := Lib.hid hM64
      clear hPM hM hmm hM64
      have C := (callsIn_wide (n := 3)).1 (chunk_in 3 (some ⟨p, 0, none⟩) M M w5)
      have HC := Lib.hid C
      clear C
      go_wp2_with fail
      refine HC.out.mono ?_
      rintro e w7 ⟨rfl, rfl⟩
      rw [Z5.out]
      go_wp2_with fail
      have L6 : (w5.alloc (.cells #[.slice (some ⟨p, 0, none⟩) M M] 35)).heap.size = n₀ + 1 + 1 := by simp [Z5.out]
      have c1' : ((w5.alloc (.cells #[.slice (some ⟨p, 0, none⟩) M M] 35)).alloc (.cells #[.int .i64 64] 3)).cell? ⟨n₀ + 1, 0, none⟩ = some (.slice (some ⟨p, 0, none⟩) (64 * mm) M) := by
        rw [bk_cell ((bk_alloc_past _ _ _ (by rw [L6]; omega)).trans (bk_alloc_at _ _ _ Z5.out.symm)), ← HMM.out]; rfl
      have c2' : ((w5.alloc (.cells #[.slice (some ⟨p, 0, none⟩) M M] 35)).alloc (.cells #[.int .i64 64] 3)).cell? ⟨n₀ + 2, 0, none⟩ = some (.int .i64 64) := by
        rw [bk_cell (bk_alloc_at _ _ _ (by rw [L6]))]; rfl
      have b7 : Below (n₀ + 1) w5 ((w5.alloc (.cells #[.slice (some ⟨p, 0, none⟩) M M] 35)).alloc (.cells #[.int .i64 64] 3)) := ((Below.refl _ _).alloc (by rw [Z5.out]; exact Nat.le_refl _) _).alloc (by rw [L6]; omega) _
      have z7 : ((w5.alloc (.cells #[.slice (some ⟨p, 0, none⟩) M M] 35)).alloc (.cells #[.int .i64 64] 3)).heap.size = n₀ + 3 := by simp [Z5.out]
      have K7 := Lib.hid (bk_keep b7 (Nat.lt_succ_self _) K5.out)
      have B7 := Lib.hid (B5.out.trans (b7.mono (Nat.le_succ _)))
      clear L6 b7 HC K5 B5
      generalize (w5.alloc (.cells #[.slice (some ⟨p, 0, none⟩) M M] 35)).alloc (.cells #[.int .i64 64] 3) = w7 at *
      rw [show n₀ + 1 + 1 = n₀ + 2 by omega]
      have hp' : p < n₀ := lp
      refine (wpIn_wide (n := n)).1 ?_
      refine wpIn_rangeFunc_ownF rfl h1 (gf := 35) (lb := #[.pointer (some ⟨n₀ + 1, 0, none⟩), .pointer (some ⟨n₀ + 2, 0, none⟩)]) rfl trivial (enters_of Tryd.func35 (by kernel_rfl) rfl)
        (chunk_stops (n - 1) (by omega) n₀ p M mm w7 hp' (by omega) (by rw [HMM.out]; exact Nat.le_refl _) (by omega) (by omega) c1' c2') (fun h k => h.trans k) (fun W l o o' hle hl _ _ => KpC.put (by omega) hl) (Below.refl _ _) (fun _ => rfl)
        (fun pre W => bk W n₀ = some (.cells (hsh (pad b) mm pre).row 56 (0, 0)) ∧ Below n₀ w4 W ∧ n₀ + 3 ≤ W.heap.size)
        (fun _ _ _ => False)
        ?hI (fun _ _ _ _ _ hs _ _ => hs) ?h0
        (fun x => { tmps := #[.slice A Lb c, undef, .pointer (some ⟨w.heap.size, 0, none⟩), .slice (some ⟨p, 0, none⟩) M M, .pointer (some ⟨n₀, 0, none⟩), .slice (some ⟨p, 64 * (x % mm), none⟩) 64 64, undef, undef, undef, .slice A Lb c, v, .slice (some ⟨w1.heap.size, 0, none⟩) 1 1, .slice A2 (Lb + 1) c2, .slice A' X.length c', .int .i64 X.length, .int .i64 ((X.length : Int) % 64), .bool false, u17, u18, u19, .slice A' X.length c', .slice A Lb c, .int .i64 Lb, .int .u64 Lb, .int .u64 (8 * (Lb : Int)), .slice (some ⟨p, 0, none⟩) M M, .agg H.row, .slice (some ⟨p, 0, none⟩) M M, .func (.func 35) #[] #[.pointer (some ⟨n₀ + 1, 0, none⟩), .pointer (some ⟨n₀ + 2, 0, none⟩)], .slice (some ⟨p, 64 * (x % mm), none⟩) 64 64, undef, undef, undef, undef, undef, undef, undef, undef, undef, undef, undef, undef, undef, undef, undef], defers := [] }) ?assign ?body ?done ?stop
      case hI =>
        refine OwnFrom.and (fun s W W' row h hg hr => ?_) (OwnFrom.and (fun s W W' row h hg hr => ?_) (fun _ _ _ _ h hg _ => Nat.le_trans h hg.size))
        · exact (grownBy_keeps_cells hg (fun r e => (hr r e).2) h rfl).trans h
        · exact h.grown hg (by have := h.size; have := HN0.out; omega) (fun k e => by have := (hr k e).1; omega)
      case h0 => exact ⟨by rw [show hsh (pad b) mm [] = H by rw [HH.out]; rfl]; exact K7.out, B7.out, by omega⟩
      case assign =>
        intro l x W K hK
        simp only [crow]
        gi_wp2
        exact hK
      case body =>
        rintro l pre x W ⟨g1, g2, g3⟩ hlt
        obtain ⟨t, ht⟩ : ∃ t, t = hsh (pad b) mm pre := ⟨_, rfl⟩
        rw [← ht] at g1
        have c0 := (bk_cell g1 0).trans (row_0 t); have c1 := (bk_cell g1 1).trans (row_1 t); have c2 := (bk_cell g1 2).trans (row_2 t); have c3 := (bk_cell g1 3).trans (row_3 t); have c4 := (bk_cell g1 4).trans (row_4 t); have c5 := (bk_cell g1 5).trans (row_5 t); have c6 := (bk_cell g1 6).trans (row_6 t); have c7 := (bk_cell g1 7).trans (row_7 t)
        have hxm : x % mm < mm := Nat.mod_lt _ hm0
        have G1 := Lib.hid g1; have HT := Lib.hid ht
        have hpl : (prt (pad b) (x % mm)).length = 64 := by unfold prt; rw [List.length_take, List.length_drop, HPM.out, HMM.out]; omega
        have HPL := Lib.hid hpl
        have hRp : Rd W W.heap.size (some ⟨p, 64 * (x % mm), none⟩) (prt (pad b) (x % mm)) := fun h0 => by
          obtain ⟨p', o', e, hlt', hj⟩ := (RP.out.below (m := w4.heap.size) (HN0.out ▸ g2) (Nat.le_refl _)) (by rw [HPM.out, HMM.out]; omega)
          cases e
          refine ⟨p, 64 * (x % mm), rfl, by omega, fun j hj' => ?_⟩
          rw [HPL.out] at hj'
          have h2 := hj (64 * (x % mm) + j) (by rw [HPM.out, HMM.out]; omega)
          rw [Nat.zero_add] at h2
          rw [h2]
          simp only [prt, List.getElem_take, List.getElem_drop]
        have hgW : GE W := by
          have h2 := (HG.out.below F.out hgw)
          exact h2.below (n := n₀) g2 (by have := F.out.size; rw [HN0.out]; omega)
        have C := mix_any t (some ⟨p, 64 * (x % mm), none⟩) (prt (pad b) (x % mm)) 64 W hpl hRp (fun h => by cases h) hgW
        have HC := Lib.hid C
        clear g1 ht hpl hRp hgW C
        gi_wp2
        refine ⟨trivial, fun h => (by simp [Fence.wide] at h), (CallsIn.inRound l (callsIn_wide.2 HC.out)).mono ?_⟩
        rintro e w8 ⟨rfl, bm⟩
        have lt0 := bk_lt G1.out
        have g1' := bk_keep bm lt0 G1.out
        have hsc := run_storeCells_from (P := Tryd.prog) n₀ 56 (mix t (prt (pad b) (x % mm))).row.toList 0 t.row w8 g1' (by simp [S8.row_size]) (fun v hv => ones_mem (S8.row_ones _) v (by simpa using hv))
        rw [List.take_zero, List.nil_append, Array.toArray_toList] at hsc
        have b8 := lt0
        clear c0 c1 c2 c3 c4 c5 c6 c7 lt0
        have hKO := (KeepsOthers.of_below bm).trans (KeepsOthers.setRow_at g1' (mix t (prt (pad b) (x % mm))).row)
        have hKp : KpC n₀ W (w8.setRow n₀ (mix t (prt (pad b) (x % mm))).row) :=
          (KpC.of_below bm (by omega)).trans ⟨below_setRow (Below.refl _ _) (Nat.le_refl _) _, cell_of_bk (bk_setRow_other _ _ _ _ (by omega)) _, cell_of_bk (bk_setRow_other _ _ _ _ (by omega)) _⟩
        have hI1 : bk (w8.setRow n₀ (mix t (prt (pad b) (x % mm))).row) n₀ = some (.cells (hsh (pad b) mm (pre ++ [x])).row 56 (0, 0)) := by
          rw [bk_setRow_same, g1']
          unfold hsh
          rw [List.foldl_append]
          show _ = some (Obj.cells (mix (hsh (pad b) mm pre) (prt (pad b) (x % mm))).row _ _)
          rw [← HT.out]
          rfl
        have hI3 : n₀ + 3 ≤ (w8.setRow n₀ (mix t (prt (pad b) (x % mm))).row).heap.size := by simp [World.setRow]; have := bm.size; omega
        have HPo := Lib.hid (And.intro hKO (And.intro hKp (And.intro hI1 (And.intro (g2.trans hKp.1) hI3))))
        clear hKO hKp hI1 hI3 g1' g2 bm
        gi_wp2
        exact ⟨HPo.out.1, HPo.out.2.1, HPo.out.2.2.1, HPo.out.2.2.2.1, HPo.out.2.2.2.2⟩
      case done =>
        rintro D ys W hD rfl ⟨g1, g2, g3⟩ hK
        obtain ⟨r, hr⟩ : ∃ r, r = hsh (pad b) mm (List.range mm) := ⟨_, rfl⟩
        rw [← hr] at g1
        have HRR := Lib.hid hr
        have KRW := Lib.hid (bk_keep g2 (by have := bk_lt KR.out; rw [HN0.out]; exact this) KR.out)
        have FW := Lib.hid (F.out.trans (g2.mono (by have := F.out.size; rw [HN0.out]; omega)))
        have lW := bk_lt g1
        have hr8 : r.row.size = 8 := rfl
        clear hr
        go_wp2_with fail
        have WB := Lib.hid (Below.refl W.heap.size W)
        clear g1 hr8
        go_loopw [6, 34] (fun v i wr => ∃ (k : Nat) (A' : Option Addr), k ≤ 8 ∧ v = .slice A' (4 * k) (4 * k) ∧ i = .int .i64 k ∧ Hid ((k = 0 ∧ A' = none) ∨ ∃ g cur, A' = some ⟨g, 0, none⟩ ∧ bk wr g = some (.cells cur 5 (0, 0)) ∧ 4 * k ≤ cur.size ∧ cur.toList.take (4 * k) = (dg r k).map B ∧ W.heap.size ≤ g) ∧ Hid (Below W.heap.size W wr)) (fun _ i _ => 8 - (intOf i).toNat)
        case atStart => exact ⟨0, none, by omega, rfl, rfl, Lib.hid (.inl ⟨rfl, rfl⟩), WB⟩
        case round =>
          clear WB
          obtain ⟨k, A6, hk, rfl, rfl, HA6, HB6⟩ := hrel
          by_cases hk8 : k < 8
          · have y1 : decide ((k : Int) < 8) = true := by simp; omega
            obtain ⟨x, hx⟩ : ∃ x, x = r.ls.getD k 0 := ⟨_, rfl⟩
            have cx := S8.row_at r k hk8
            rw [← hx] at cx
            have hidx : ∀ w, (Instr.index 56 (.agg r.row) (.int .i64 (k : Int))).run Tryd.prog w = .ok (V x) w := fun w => run_index_arr 56 8 Tryd.underlying56 r.row k hk8 x cx w
            have bx := x.toNat_lt
            have wx : IntKind.u64.wrap (x.toNat : Int) = (x.toNat : Int) := by rw [IntKind.wrap_u64]; omega
            have hdl := dg_length r k (by omega)
            have R6 : Rd wr wr.heap.size A6 (dg r k) := by
              rcases HA6.out with ⟨rfl, rfl⟩ | ⟨g, cur, rfl, hb, hle, htk, _⟩
              · exact Rd.nil
              · rw [← hdl] at htk
                exact Rd.of_take hb htk (bk_lt hb)
            have N6 : A6 = none → dg r k = [] ∧ 4 * k = 0 := by
              rcases HA6.out with ⟨rfl, rfl⟩ | ⟨g, cur, rfl, hb, hle, htk, _⟩
              · exact fun _ => ⟨rfl, rfl⟩
              · exact fun h => by cases h
            have C := put_any A6 (dg r k) (4 * k) x.toNat 4 wr R6 N6 (by omega) (by omega) (by decide)
            have hds := dg_succ r k hk8
            rw [← hx] at hds
            rw [hdl, show wid 4 = 4 from rfl, ← hds] at C
            clear hds
            have HC := Lib.hid C
            clear C hx cx hdl R6 N6
            go_wp2_with fail
            refine HC.out.mono ?_
            rintro e w3 ⟨g, cur, rfl, hg, hbk, hle, htk, b3⟩
            have HN := Lib.hid (⟨g, cur, rfl, hbk, hle, htk, Nat.le_trans HB6.out.size hg⟩ : ∃ g' cur, (some ⟨g, 0, none⟩ : Option Addr) = some ⟨g', 0, none⟩ ∧ bk w3 g' = some (.cells cur 5 (0, 0)) ∧ 4 * k + 4 ≤ cur.size ∧ cur.toList.take (4 * k + 4) = (dg r (k + 1)).map B ∧ W.heap.size ≤ g')
            have HB7 := Lib.hid (HB6.out.trans (b3.mono HB6.out.size))
            clear hg hbk hle htk b3 HC hidx
            go_wp2_with fail
            exact ⟨⟨k + 1, some ⟨g, 0, none⟩, by omega, rfl, by simp, Lib.hid (.inr HN.out), HB7⟩, by simp [intOf]; omega⟩
          · have y1 : decide ((k : Int) < 8) = false := by simp; omega
            obtain rfl : k = 8 := by omega
            rcases HA6.out with ⟨h, _⟩ | ⟨g, cur, rfl, hb, hle, htk, hg⟩
            · omega
            · have hK' : wr.heap[D]? = some (.deferred (some [])) := (HB6.out.block D (Array.getElem?_eq_some_iff.1 hK).1).trans hK
              have kr := bk_keep HB6.out (bk_lt KRW.out) KRW.out
              have lr := bk_lt kr
              have lg := bk_lt hb
              have hle' : 32 ≤ cur.size := hle
              obtain ⟨dd, hdd⟩ : ∃ d, d = dg r 8 := ⟨_, rfl⟩
              have hxt : xt cur 0 32 = (dd.map B).toArray := by
                apply Array.ext'
                simp only [xt, Array.toList_extract, List.extract_eq_take_drop, List.drop_zero, Nat.zero_add, Nat.sub_zero]
                rw [hdd]
                exact htk
              have hds : (dd.map B).toArray.size = 32 := by rw [hdd, List.size_toArray, List.length_map, dg_length r 8 (Nat.le_refl _)]
              have hZs : (Z.map B).toArray.size = 32 := by rw [HZ.out]; rfl
              have har : ∀ w, (Instr.arrayAt 37 (.slice (some ⟨g, 0, none⟩) 32 32)).run Tryd.prog w = .ok (.pointer (some ⟨g, 0, none⟩)) w := fun w => by
                simp [Instr.arrayAt, run_underlying Tryd.underlying37]
              have F9 := Lib.hid (FW.out.trans (HB6.out.mono FW.out.size))
              have HDD := Lib.hid hdd
              clear htk hdd HA6 hK
              go_wp2_with fail
              have hDw : ¬ w.heap.size = D := by have := F.out.size; omega
              have hK2 : (wr.setRow w.heap.size (dd.map B).toArray).heap[D]? = some (.deferred (some [])) := (bk_setRow_other _ _ _ _ (fun e => hDw e.symm)).trans hK'
              have kf : bk ((wr.setRow w.heap.size (dd.map B).toArray).putObj D (.deferred none)) w.heap.size = some (.cells (dd.map B).toArray 37 (0, 0)) := by
                refine (World.putObj_heap_other hDw).trans ?_
                show bk (wr.setRow w.heap.size (dd.map B).toArray) w.heap.size = _
                rw [bk_setRow_same, kr]; rfl
              have hB9 : Below w.heap.size w ((wr.setRow w.heap.size (dd.map B).toArray).putObj D (.deferred none)) := by
                have h1 := below_setRow F9.out (Nat.le_refl w.heap.size) (dd.map B).toArray
                exact h1.grown (grownBy_putObj' _ D (.deferred none)) h1.size (fun k e => by cases e; have := F.out.size; omega)
              have hdg : digest b = dd := by
                rw [HDD.out, HRR.out]
                unfold digest dg
                rw [HPM.out, show M / 64 = mm by rw [HMM.out]; omega]
                rfl
              refine ⟨by simp, .inl ⟨_, _, rfl, run_takeDeferred hK2, ?_⟩⟩
              exact ⟨_, results_cell_row rfl _ _ w.heap.size 37 (dd.map B).toArray (0, 0) _ rfl kf Tryd.underlying37 rfl (by rw [hds]; kernel_rfl), by rw [hdg], hB9⟩
      case stop =>
        rintro D c pre W _ _ h _
        exact h.elim
end Go.Proofs.YtmdalmegogfanaaDoor

import Derived.Test.YtjimmfbjhkoekaaMhE
import Derived.Test.YtjimmfbjhkoekaaMhF
import Derived.Test.YtjimmfbjhkoekaaMgU
import Derived.Deep.DeepCutAuto
import Derived.Test.YtjimmfbjhkoekaaMgF
/- IcmpsBack: own, whatever message it is; a byte that is turned. -/
namespace Go.Proofs.Ytjimmfbjhkoekaa
open Go.RowKit
set_option maxRecDepth 100000
theorem own_any (m : Mv) (w : World) (n0 : Nat) (hn0 : n0 ≤ w.heap.size) (hok : MvOk w n0 m) (hk : okM m.pl = true) : Calls Try.prog 24 #[.agg (mC m)] w fun e w' => OwnR m n0 e w w' := by
  have ek : m.pl.kind = m.kind := rfl
  have hkk := okM_kind hk
  rw [ek] at hkk
  have hmay := okM_may hk
  have h64 : m.kind = 133 ∨ m.kind = 134 ∨ m.kind = 135 ∨ m.kind = 136 ∨ m.kind = 137 → m.os.length ≤ 64 := fun h => by
    unfold mayB at hmay
    rw [ek] at hmay
    rw [if_neg (by rcases h with h | h | h | h | h <;> rw [h] <;> decide), if_neg (by rcases h with h | h | h | h | h <;> rw [h] <;> decide), if_pos h] at hmay
    have := of_decide_eq_true hmay
    simpa [Mv.pl] using this
  simp only [isK, Bool.or_eq_true, beq_iff_eq] at hkk
  rcases hkk with (((((((((((hk | hk) | hk) | hk) | hk) | hk) | hk) | hk) | hk) | hk) | hk) | hk) | hk
  · exact own1 m w n0 hn0 hok hk
  · exact own2 m w n0 hn0 hok hk
  · exact own3 m w n0 hn0 hok hk
  · exact own4 m w n0 hn0 hok hk
  · exact own128 m w n0 hn0 hok hk
  · exact own129 m w n0 hn0 hok hk
  · exact own130 m w n0 hn0 hok hk
  · exact own143 m w n0 hn0 hok hk
  · exact own134 m w n0 hn0 hok hk (h64 (by simp [hk]))
  · exact own133 m w n0 hn0 hok hk (h64 (by simp [hk]))
  · exact own135 m w n0 hn0 hok hk (h64 (by simp [hk]))
  · exact own136 m w n0 hn0 hok hk (h64 (by simp [hk]))
  · exact own137 m w n0 hn0 hok hk (h64 (by simp [hk]))
/-- Bytes that are not good. -/
theorem bad_sum {src dst P : List UInt8} {n : Nat} {e : Ending} {w' : World} (h : GetM src dst P n e w') (h4 : 4 ≤ P.length) (hs : sumOf (ovr src dst 58 P) ≠ 0) : e = .returned (.tuple #[.agg (mC (mZ 0 0)), .int .i64 6]) := by
  unfold GetM at h
  rw [if_neg (by omega), if_pos hs] at h
  exact h
theorem turn_sum {src dst L : List UInt8} (h1 : src.length = 16) (h2 : dst.length = 16) (h0 : sumOf (ovr src dst 58 L) = 0) (i : Nat) (hi : i < L.length) (x : UInt8) (hx : x ≠ L[i]) : sumOf (ovr src dst 58 (L.set i x)) ≠ 0 := by
  rw [ovr_set _ _ _ _ h1 h2]
  have ho := ovr_length src dst 58 L h1 h2
  refine sumOf_set _ _ (by omega) _ ?_ h0
  rw [ovr_at _ _ _ _ h1 h2 i hi]
  exact hx
theorem ends_sum {src dst L : List UInt8} (h1 : src.length = 16) (h2 : dst.length = 16) (h0 : sumOf (ovr src dst 58 L) = 0) (i : Nat) (hi : i < 16) (x : UInt8) (hx : x ≠ dst[i]) : sumOf (ovr src (dst.set i x) 58 L) ≠ 0 := by
  rw [ovr_dst _ _ _ _ h1 h2 i hi]
  have ho := ovr_length src dst 58 L h1 h2
  refine sumOf_set _ _ (by omega) _ ?_ h0
  rw [ovr_dst_at _ _ _ _ h1 h2 i hi]
  exact hx
end Go.Proofs.Ytjimmfbjhkoekaa
/- IcmpsBack, walked. -/
namespace Go.Proofs.Ytjimmfbjhkoekaa
open Go.RowKit
set_option maxRecDepth 100000
set_option maxHeartbeats 2000000
@[go_sem ↓] theorem qfMsg (dst : Option Tmp) (x : Operand) (t : TypeId) (pos : String) (af : Array Edge) (g : Option (Nat × Bool)) (a : Act) (m : Nat) (W : World) (gs : List (Nat × (World → Prop))) [Nonempty (LaterF m W gs)] (K : Act → Prop) :
    Oper.quiet Try.prog ⟨dst, .load 33 x, t, pos, af, g⟩ a (fun w' => ∃ x : LaterF m W gs, w' = x.w) K =
      ldF (quietHid Try.prog ⟨dst, .load 33 x, t, pos, af, g⟩ a (fun w' => ∃ x : LaterF m W gs, w' = x.w) K) gs m 63 W (fun c => K (a.put dst (.agg c))) (a.eval x) :=
  quiet_load_F 33 63 _ Try.underlying33 rfl (by kernel_rfl) dst x t pos af g a m W gs K
@[go_sem ↓] theorem qfAdr (dst : Option Tmp) (x : Operand) (t : TypeId) (pos : String) (af : Array Edge) (g : Option (Nat × Bool)) (a : Act) (m : Nat) (W : World) (gs : List (Nat × (World → Prop))) [Nonempty (LaterF m W gs)] (K : Act → Prop) :
    Oper.quiet Try.prog ⟨dst, .load 23 x, t, pos, af, g⟩ a (fun w' => ∃ x : LaterF m W gs, w' = x.w) K =
      ldF (quietHid Try.prog ⟨dst, .load 23 x, t, pos, af, g⟩ a (fun w' => ∃ x : LaterF m W gs, w' = x.w) K) gs m 16 W (fun c => K (a.put dst (.agg c))) (a.eval x) :=
  quiet_load_F 23 16 _ Try.underlying23 rfl (by kernel_rfl) dst x t pos af g a m W gs K
/-- A message that a call hands back, whose memory of its own is bytes and options. -/
def MadeW.msg (m : Nat) (M : Msg) : MadeW m where
  T v := ∃ mo : Mv, v = .agg (mC mo)
  R v w := ∃ mo : Mv, v = .agg (mC mo) ∧ mo.pl = M ∧ ∀ (D : List TypeId) w', 5 ∉ D → 97 ∉ D → Kept m D w w' → MvOk w' w'.heap.size mo
  D := []
  O := [5, 97]
  inh := ⟨_, mZ 0 0, rfl⟩
  mono := fun D v w w' hd hk ⟨mo, e, hp, h⟩ => ⟨mo, e, hp, fun D' w'' h5 hO hk' => h (D ++ D') w'' (fun hm => (List.mem_append.1 hm).elim (fun h' => hd _ h' (by simp)) h5) (fun hm => (List.mem_append.1 hm).elim (fun h' => hd _ h' (by simp)) hO) ((hk.weak fun t ht => List.mem_append_left _ ht).trans (hk'.weak fun t ht => List.mem_append_right _ ht))⟩
def Ent.msg (k : Nat) {m : Nat} {M : MadeW m} {ms : Msg} (HM : Hid (M = MadeW.msg m ms)) : Ent m := ⟨k, fun _ => M, [], [5, 97], [], fun _ => by have := HM.out; subst this; exact ⟨rfl, rfl⟩⟩
theorem msg_T {m : Nat} {M : MadeW m} {ms : Msg} {v : Value} (HM : Hid (M = MadeW.msg m ms)) (h : M.T v) : ∃ mo : Mv, v = .agg (mC mo) := by
  have := HM.out
  subst this
  exact h
theorem msg_R {m : Nat} {M : MadeW m} {ms : Msg} {mo : Mv} {w : World} (HM : Hid (M = MadeW.msg m ms)) (h : M.R (.agg (mC mo)) w) : ∃ mo' : Mv, mC mo = mC mo' ∧ mo'.pl = ms ∧ MvOk w w.heap.size mo' := by
  have := HM.out
  subst this
  obtain ⟨mo', e, hp, hk⟩ := h
  exact ⟨mo', Value.agg.inj e, hp, hk [] w (by simp) (by simp) (Kept.refl _ _ _)⟩
theorem Kept.lower {m n : Nat} {D : List TypeId} {w w' : World} (h : Kept m D w w') (hn : n ≤ m) : Kept n D w w' := ⟨h.below.mono hn, h.block⟩
theorem msg_end {m : Nat} {M : MadeW m} {ms : Msg} {w w' : World} {mo : Mv} (HM : Hid (M = MadeW.msg m ms)) (hb : Below w.heap.size w w') (hm : m ≤ w.heap.size) (hp : mo.pl = ms) (h : ∀ (D : List TypeId) w'', 5 ∉ D → 97 ∉ D → Kept m D w' w'' → MvOk w'' w''.heap.size mo) : madeEndW M w (.returned (.agg (mC mo))) w' := by
  have := HM.out
  subst this
  exact ⟨_, rfl, Kept.of_below hb hm, ⟨mo, rfl⟩, mo, rfl, hp, h⟩
theorem own_big {m mo : Mv} (h : mo.pl = ownM m.pl) (hb : Big m) : Big mo := by
  have key : mo.pl.data.length < 2 ^ 50 ∧ mo.pl.srcs.length < 2 ^ 50 ∧ mo.pl.recs.length < 2 ^ 50 ∧ (∀ r ∈ mo.pl.recs, r.s.length < 2 ^ 50) ∧ mo.pl.opts.length < 2 ^ 50 ∧ ∀ x ∈ mo.pl.opts, x.2.length < 2 ^ 50 := by
    have b1 : m.pl.data.length < 2 ^ 50 := hb.d
    have b2 : m.pl.srcs.length < 2 ^ 50 := hb.s
    have b3 : m.pl.recs.length < 2 ^ 50 := by have := hb.r; simpa [Mv.pl] using this
    have b4 : ∀ r ∈ m.pl.recs, r.s.length < 2 ^ 50 := fun r hr => by
      obtain ⟨x, hx, rfl⟩ := List.mem_map.1 hr
      exact hb.rs x hx
    have b5 : (m.pl.opts.map fillO).length < 2 ^ 50 := by have := hb.o; simpa [Mv.pl] using this
    have b6 : ∀ x ∈ m.pl.opts.map fillO, x.2.length < 2 ^ 50 := fun x hx => by
      obtain ⟨y, hy, rfl⟩ := List.mem_map.1 hx
      have h1 := optE_le y.2; have h2 := optM_le y.2; have h3 := optB_sz y.2
      simp only [fillO, List.length_append, List.length_replicate]
      omega
    have z0 : (0 : Nat) < 2 ^ 50 := by decide
    rw [h]
    unfold ownM
    repeat' split
    · exact ⟨z0, b2, z0, fun r hr => by simp [mZ, Mv.pl] at hr, z0, fun x hx => by simp [mZ, Mv.pl] at hx⟩
    · exact ⟨z0, z0, b3, b4, z0, fun x hx => by simp [mZ, Mv.pl] at hx⟩
    · exact ⟨z0, z0, z0, fun r hr => by simp [mZ, Mv.pl] at hr, b5, b6⟩
    · exact ⟨z0, z0, z0, fun r hr => by simp [mZ, Mv.pl] at hr, b5, b6⟩
    · exact ⟨z0, z0, z0, fun r hr => by simp [mZ, Mv.pl] at hr, b5, b6⟩
    · exact ⟨z0, z0, z0, fun r hr => by simp [mZ, Mv.pl] at hr, b5, b6⟩
    · exact ⟨z0, z0, z0, fun r hr => by simp [mZ, Mv.pl] at hr, b5, b6⟩
    · exact ⟨b1, z0, z0, fun r hr => by simp [mZ, Mv.pl] at hr, z0, fun x hx => by simp [mZ, Mv.pl] at hx⟩
  obtain ⟨k1, k2, k3, k4, k5, k6⟩ := key
  exact ⟨k1, k2, by simpa [Mv.pl] using k3, fun r hr => k4 r.pl (List.mem_map.2 ⟨r, hr, rfl⟩), by simpa [Mv.pl] using k5, fun x hx => k6 x.pl (List.mem_map.2 ⟨x, hx, rfl⟩)⟩
theorem icmpsBack_walk (src dst : List UInt8) (m : Mv) (at' : Nat) (w : World) (h1 : src.length = 16) (h2 : dst.length = 16) (hok : MvOk w w.heap.size m) (hb : Big m) (hat : at' < 65536) :
    Calls Try.prog 5 #[av (src ++ dst), .agg (mC m), .int .u16 (at' : Int)] w fun e w' => e = .returned (.bool true) ∧ Below w.heap.size w w' := by
  have OK := Lib.hid hok; have HB := Lib.hid hb
  clear hok hb
  obtain ⟨E, hE⟩ : ∃ E, E = src ++ dst := ⟨_, rfl⟩
  have q0 : sl E 0 16 = src := by rw [hE]; exact sl_src h1
  have q1 : sl E 16 16 = dst := by rw [hE]; exact sl_dst h1 h2
  have qn : E.length = 32 := by rw [hE, List.length_append]; omega
  rw [← hE]
  clear hE
  go_enter Try.func5, Try.ntmps5
  have a0 : Below w.heap.size w ((w.alloc (.cells (List.map B E).toArray 25)).alloc (.cells (mC m) 33)) := (by (repeat (first | exact Below.refl _ _ | assumption | refine Below.drew ?_ | refine bdrewN ?_ _ | refine Below.alloc ?_ (by first | omega | (simp <;> omega) | (simp only [World.size_alloc] <;> omega)) _ | refine below_setRow ?_ (by first | omega | (simp <;> omega)) _ | refine Below.setCell ?_ (by first | omega | (simp <;> omega)) _)))
  have KE : Hid (bk ((w.alloc (.cells (List.map B E).toArray 25)).alloc (.cells (mC m) 33)) w.heap.size = some (.cells (List.map B E).toArray 25 (0, 0))) := Lib.hid (by rw [bk_alloc_past _ _ _ (by simp)]; exact bk_alloc_at _ _ _ rfl)
  have KM : Hid (bk ((w.alloc (.cells (List.map B E).toArray 25)).alloc (.cells (mC m) 33)) (w.heap.size + 1) = some (.cells (mC m) 33 (0, 0))) := Lib.hid (bk_alloc_at _ _ _ (by simp))
  have F := Lib.hid a0
  clear a0
  go_upto_region 1 with fail
  generalize (w.alloc (.cells (List.map B E).toArray 25)).alloc (.cells (mC m) 33) = w0 at *
  have n0 := bk_lt KM.out
  have km := KM.out
  have CG := Lib.hid (great11_any m w0 ((OK.out.below F.out (Nat.le_refl _)).mono F.out.size) HB.out)
  go_wp2_with fail
  refine CG.out.mono ?_
  rintro e w1 ⟨b, rfl, hgr, b1⟩
  clear CG km
  cases b
  · obtain ⟨g1, g2⟩ := hgr rfl
    have HS := Lib.hid (small_of g1 g2)
    clear hgr g1 g2
    replace F := Lib.hid (F.out.trans (b1.mono F.out.size))
    replace KE := Lib.hid (bk_keep b1 (bk_lt KE.out) KE.out); replace KM := Lib.hid (bk_keep b1 n0 KM.out)
    clear b1
    have n1 := bk_lt KM.out
    have km := KM.out; have ke := KE.out
    have CP := Lib.hid (putm_any src dst h1 h2 m w1 ((OK.out.below F.out (Nat.le_refl _)).mono F.out.size) HS.out)
    go_wp2_with fail
    refine CP.out.mono ?_
    rintro e w2 ⟨hput, b2⟩
    clear CP km ke
    replace F := Lib.hid (F.out.trans (b2.mono F.out.size))
    replace KE := Lib.hid (bk_keep b2 (bk_lt KE.out) KE.out); replace KM := Lib.hid (bk_keep b2 n1 KM.out)
    have n2 := bk_lt KM.out
    unfold PutM at hput
    by_cases hk : okM m.pl = true
    · rw [if_pos hk] at hput
      obtain ⟨A, rfl, hown⟩ := hput
      have hD4 := putB_len src dst m.pl
      have hD5 := partB_ge hk
      have hD6 := partB_le m HS.out OK.out (okM_may hk)
      have hgood := putB_good (src := src) (dst := dst) m.pl h1 h2
      obtain ⟨D, hD⟩ : ∃ D, D = putB src dst m.pl := ⟨_, rfl⟩
      rw [← hD] at hD4 hown hgood
      rw [← hD]
      obtain ⟨g, c, ev, hgn, hby, _, _⟩ := hown.by (by omega)
      cases ev
      have hD8 : 8 ≤ D.length := by omega
      have hDm : D.length < 2 ^ 32 := by omega
      have hng : w.heap.size + 1 < g := by have := b2.size; omega
      have BY := Lib.hid hby; have HWF := Lib.hid OK.out.wf; have HLM := Lib.hid OK.out.lim; have HD := Lib.hid hD; have HK := Lib.hid hk; have GOOD := Lib.hid hgood
      clear hown hby hD4 hD5 hD6 hgn b2 hD hk hgood
      have ke := KE.out
      have CG := Lib.hid (getm_any src dst h1 h2 (some ⟨g, 0, none⟩) D D.length w2 BY.out.rd (fun e => by cases e) (Nat.le_refl _) hDm (by omega))
      go_wp2_with fail
      refine CG.out.mono ?_
      rintro e w3 ⟨hget, b3⟩
      rw [HD.out] at hget
      obtain ⟨mo, rfl, hoko, hplo⟩ := back_get h1 h2 HWF.out HLM.out HK.out hget
      clear CG ke hget
      replace F := Lib.hid (F.out.trans (b3.mono F.out.size))
      replace KE := Lib.hid (bk_keep b3 (bk_lt KE.out) KE.out); replace KM := Lib.hid (bk_keep b3 n2 KM.out); replace BY := Lib.hid (BY.out.keep b3)
      have OKO := Lib.hid hoko; have HPL := Lib.hid hplo
      clear b3 hoko hplo n2
      go_upto_region 7 with fail
      generalize hW8 : World.alloc w3 _ = W4
      have b8 : Below w3.heap.size w3 W4 := by rw [← hW8]; exact (by (repeat (first | exact Below.refl _ _ | assumption | refine Below.drew ?_ | refine bdrewN ?_ _ | refine Below.alloc ?_ (by first | omega | (simp <;> omega) | (simp only [World.size_alloc] <;> omega)) _ | refine below_setRow ?_ (by first | omega | (simp <;> omega)) _ | refine Below.setCell ?_ (by first | omega | (simp <;> omega)) _)))
      have ko := (show bk W4 w3.heap.size = some (.cells (mC mo) 33 (0, 0)) by rw [← hW8]; exact bk_alloc_at _ _ _ rfl)
      have KO := Lib.hid ko
      replace F := Lib.hid (F.out.trans (b8.mono F.out.size))
      replace KE := Lib.hid (bk_keep b8 (bk_lt KE.out) KE.out); replace KM := Lib.hid (bk_keep b8 (bk_lt KM.out) KM.out); replace BY := Lib.hid (BY.out.keep b8)
      replace OKO := Lib.hid ((OKO.out.below b8 (Nat.le_refl _)).mono b8.size)
      have hg3 : g ≠ w3.heap.size := fun e => by have h := BY.out.lt; obtain ⟨cur, h3, _⟩ := BY.out; rw [e, ko] at h3; cases h3
      clear hW8 b8 ko
      generalize w3.heap.size = go at *
      have kE4 := KE.out; have kO4 := KO.out; have kM4 := KM.out
      have lE4 := bk_lt kE4; have lO4 := bk_lt kO4; have lM4 := bk_lt kM4
      have hl8 : decide ((D.length : Int) < 8) = false := by simp; omega
      have hl8' : decide (D.length < 8) = false := by simp; omega
      obtain ⟨M19, hM19⟩ : ∃ M : MadeW W4.heap.size, M = MadeW.msg _ (ownM m.pl) := ⟨_, rfl⟩
      have H19 := Lib.hid hM19
      clear hM19
      have HOK4 := Lib.hid ((OK.out.below F.out (Nat.le_refl _)))
      have HSZ4 := Lib.hid F.out.size
      refine wp_region_e (W4.heap.size) ([.val W4.heap.size 1 (.int .i64 (D.length : Int)), .val W4.heap.size 13 (.bool true), .msg 19 H19, .val W4.heap.size 20 (.bool true)]) (fun k => (([(20, [19])] : List (Nat × List Nat)).lookup k).getD []) (Fs.nil) (by first | omega | (simp <;> omega)) (by kernel_rfl) (by kernel_rfl) (by kernel_rfl) (by kernel_rfl) EnvW.Ini.nil ?_
      refine walkW_segn 1 [] facts0 noneHx (by kernel_rfl) (by kernel_rfl) ?_
      simp only [List.take_succ_cons, List.take_zero, List.drop_succ_cons, List.drop_zero, Nat.reduceAdd]
      repeat (go_big_quiet_step (fail))
      (first | refine wpQuiet_nil ?_ | (go_big_quiet_want; (try go_big_quiet_op); trace_state; fail))
      refine walkW_val (.int .i64 (D.length : Int)) (fun _ => .val (.int .i64 (D.length : Int))) [] ([]) facts0 (by kernel_rfl) (by kernel_rfl) (by kernel_rfl) rfl rfl (fun w' hb' hg' => ?_) ?_
      · unfold madeAtW
        go_simp
        ((exact (⟨Kept.refl _ _ _, rfl, trivial⟩)))
      simp only [Act.put, List.setIfInBounds_toArray, List.set_cons_succ, List.set_cons_zero, Nat.reduceAdd]
      refine walkW_segn 11 [] facts0 noneHx (by kernel_rfl) (by kernel_rfl) ?_
      simp only [List.take_succ_cons, List.take_zero, List.drop_succ_cons, List.drop_zero, Nat.reduceAdd]
      repeat (go_big_quiet_step (fail))
      (first | refine wpQuiet_nil ?_ | (go_big_quiet_want; (try go_big_quiet_op); trace_state; fail))
      refine walkW_val (.bool true) (fun _ => .val (.bool true)) [] ([]) facts0 (by kernel_rfl) (by kernel_rfl) (by kernel_rfl) rfl rfl (fun w' hb' hg' => ?_) ?_
      · unfold madeAtW
        go_simp
        ((refine (good_any src dst 58 (some ⟨g, 0, none⟩) D D.length w' h1 h2 ((BY.out.keep hb').rd) hDm).mono ?_; rintro e w2 ⟨rfl, hb⟩; rw [GOOD.out]; exact valW hb hb'.size))
      simp only [Act.put, List.setIfInBounds_toArray, List.set_cons_succ, List.set_cons_zero, Nat.reduceAdd]
      refine walkW_segn 5 [] facts0 noneHx (by kernel_rfl) (by kernel_rfl) ?_
      simp only [List.take_succ_cons, List.take_zero, List.drop_succ_cons, List.drop_zero, Nat.reduceAdd]
      repeat (go_big_quiet_step (fail))
      (first | refine wpQuiet_nil ?_ | (go_big_quiet_want; (try go_big_quiet_op); trace_state; fail))
      refine walkW_mk (fun _ => M19) [] M19 ([]) facts0 (by kernel_rfl) (by kernel_rfl) (by kernel_rfl) rfl rfl (fun w' hb' hg' => ?_) (fun v19 h19 => ?_)
      · unfold madeAtW
        go_simp
        ((refine (own_any m w' w.heap.size (Nat.le_trans HSZ4.out hb'.size) (HOK4.out.below hb' HSZ4.out) HK.out).mono ?_; rintro e w2 ⟨m6, rfl, hp6, b6, hk6⟩; exact msg_end H19 b6 hb'.size hp6 fun D' w'' x1 x2 x3 => hk6 D' w'' x1 x2 (x3.lower HSZ4.out)))
      obtain ⟨m6, rfl⟩ := msg_T H19 h19
      simp only [Act.put, List.setIfInBounds_toArray, List.set_cons_succ, List.set_cons_zero, Nat.reduceAdd]
      refine walkW_val (.bool true) (fun _ => .val (.bool true)) [] ([(19, M19.R (.agg (mC m6)))]) (facts1 fun w h => h.1 rfl) (by kernel_rfl) (by kernel_rfl) (by kernel_rfl) rfl rfl (fun w' hb' hg' => ?_) ?_
      · unfold madeAtW
        go_simp
        ((obtain ⟨m7, e7, hp7, hok7⟩ := msg_R H19 (hg' _ (.head _)); rw [e7]; refine (sameMessage_any mo m7 w' ((OKO.out.below hb' (Nat.le_refl _)).mono hb'.size) hok7 (HPL.out.trans hp7.symm) (own_big HPL.out HB.out)).mono ?_; rintro e w2 ⟨rfl, hb⟩; exact valW hb hb'.size))
      simp only [Act.put, List.setIfInBounds_toArray, List.set_cons_succ, List.set_cons_zero, Nat.reduceAdd]
      refine walkW_segn 2 [] facts0 noneHx (by kernel_rfl) (by kernel_rfl) ?_
      simp only [List.take_succ_cons, List.take_zero, List.drop_succ_cons, List.drop_zero, Nat.reduceAdd]
      repeat (go_big_quiet_step (fail))
      (first | refine wpQuiet_nil ?_ | (go_big_quiet_want; (try go_big_quiet_op); trace_state; fail))
      refine walkW_nil ?_
      intro w5 b5 hf
      clear hf h19 H19 HOK4 HSZ4 kE4 kO4 kM4 lE4 lO4 lM4 hl8 hl8' OKO HPL KM KO
      replace F := Lib.hid (F.out.trans (b5.mono F.out.size))
      replace KE := Lib.hid (bk_keep b5 (bk_lt KE.out) KE.out); replace BY := Lib.hid (BY.out.keep b5)
      clear b5
      obtain ⟨q, hq⟩ : ∃ q, q = at' % (8 * D.length) := ⟨_, rfl⟩
      have hql : q < 8 * D.length := by rw [hq]; exact Nat.mod_lt _ (by omega)
      have e8 : IntKind.i64.wrap (8 * (D.length : Int)) = 8 * (D.length : Int) := by rw [IntKind.wrap_i64]; omega
      have mq1 : (at' : Int).tmod (8 * (D.length : Int)) = (q : Int) := by rw [hq, Int.tmod_eq_emod_of_nonneg (by omega)]; simp
      have mq2 : (at' : Int) % (8 * (D.length : Int)) = (q : Int) := by rw [hq]; simp
      have nz8 : ((8 * (D.length : Int)) == 0) = false := by rw [beq_eq_false_iff_ne]; omega
      obtain ⟨i, hi⟩ : ∃ i, i = q / 8 := ⟨_, rfl⟩
      obtain ⟨r, hr⟩ : ∃ r, r = q % 8 := ⟨_, rfl⟩
      have hil : i < D.length := by omega
      have hr8 : r < 8 := by omega
      have mi1 : (q : Int).tdiv 8 = (i : Int) := by rw [hi, Int.tdiv_eq_ediv_of_nonneg (by omega)]; simp
      have mi2 : (q : Int) / 8 = (i : Int) := by rw [hi]; simp
      have mr1 : (q : Int).tmod 8 = (r : Int) := by rw [hr, Int.tmod_eq_emod_of_nonneg (by omega)]; simp
      have mr2 : (q : Int) % 8 = (r : Int) := by rw [hr]; simp
      have HQR := Lib.hid (show q = 8 * i + r by omega)
      have HQA := Lib.hid hq
      clear hq hi hr
      obtain ⟨x, hx⟩ : ∃ x, x = D[i] := ⟨_, rfl⟩
      have HXI := Lib.hid hx
      have ui : w5.cell? ⟨g, i, none⟩ = some (B x) := BY.out.cell (by rw [List.getElem?_eq_getElem hil, hx])
      have hil' : (i : Int) < (D.length : Int) := by omega
      have lgc := BY.out.lt
      clear hx
      obtain ⟨y, hy⟩ : ∃ y, y = flipB x r := ⟨_, rfl⟩
      have hbx : bits BinOp.xor IntKind.u8 (x.toNat : Int) (2 ^ r % 256) = (y.toNat : Int) := by rw [hy]; exact bits_flip x r hr8
      have hby : bits BinOp.xor IntKind.u8 (y.toNat : Int) (2 ^ r % 256) = (x.toNat : Int) := by rw [bits_flip y r hr8, hy, flipB_flipB]
      have hyx : y ≠ x := by rw [hy]; exact flipB_ne x r hr8
      obtain ⟨D', hD'⟩ : ∃ D', D' = D.set i y := ⟨_, rfl⟩
      have hDl' : D'.length = D.length := by rw [hD', List.length_set]
      have hge2 : sumOf (ovr src dst 58 D') ≠ 0 := by
        rw [hD']
        exact turn_sum h1 h2 GOOD.out i hil y (by rw [← HXI.out]; exact hyx)
      have hDD : D'.set i x = D := by rw [hD', List.set_set, HXI.out, List.set_getElem_self]
      have HDl' := Lib.hid hDl'; have HGE2 := Lib.hid hge2; have HDD := Lib.hid hDD; have HD' := Lib.hid hD'
      clear hy hyx hD' hDl' hge2 hDD
      have hneg : w.heap.size ≠ g := by omega
      go_upto_region 10 with fail
      refine wp_region_later_tail (w5.heap.size) 13 (by kernel_rfl) (by kernel_rfl) ?_
      simp only [List.take_succ_cons, List.take_zero, List.drop_succ_cons, List.drop_zero]
      repeat (go_big_quiet_step ((fail)))
      (first | refine wpQuiet_nil ?_ | (go_big_quiet_want; (try go_big_quiet_op); trace_state; fail))
      intro w7 hw'
      have q7 := later_elim hw'
      clear hw'
      replace F := Lib.hid (F.out.trans (q7.mono F.out.size))
      replace KE := Lib.hid (bk_keep q7 (bk_lt KE.out) KE.out); replace BY := Lib.hid (BY.out.keep q7)
      have ui5 : w7.cell? ⟨g, i, none⟩ = some (B x) := (q7.cell (p := ⟨g, i, none⟩) lgc).trans ui
      have fz5 := BY.out.frozen i
      have lg7 := BY.out.lt
      clear q7 ui lgc
      go_upto_region 11 with fail
      have F6 : Hid (Below w.heap.size w (w7.setCell ⟨g, i, none⟩ (B y))) := Lib.hid (F.out.setCell (p := ⟨g, i, none⟩) (show w.heap.size ≤ g by omega) _)
      have BY6 : Hid (By (w7.setCell ⟨g, i, none⟩ (B y)) g D') := Lib.hid (by rw [HD'.out]; exact BY.out.set i y)
      have KE6 := Lib.hid ((bk_setCell_other w7 g i w.heap.size (B y) hneg).trans KE.out)
      clear KE BY F ui5 fz5 lg7
      generalize w7.setCell ⟨g, i, none⟩ (B y) = w8 at *
      have CG := getm_any src dst h1 h2 (some ⟨g, 0, none⟩) D' D.length w8 BY6.out.rd (fun e => by cases e) (by rw [HDl'.out]; exact Nat.le_refl _) (by rw [HDl'.out]; exact hDm) (by have := BY6.out.lt; omega)
      rw [HDl'.out] at CG
      have HC := Lib.hid CG
      have ke := KE6.out
      have le := bk_lt ke
      clear CG
      go_wp2_with fail
      refine HC.out.mono ?_
      rintro e w9 ⟨hget, b9⟩
      obtain rfl := bad_sum hget (by rw [HDl'.out]; omega) HGE2.out
      replace F6 := Lib.hid (F6.out.trans (b9.mono F6.out.size)); replace KE6 := Lib.hid (bk_keep b9 le ke); replace BY6 := Lib.hid (BY6.out.keep b9)
      clear b9 hget HC ke le
      go_upto_region 12 with fail
      generalize hW8 : World.alloc w9 _ = wa
      have b8 : Below w9.heap.size w9 wa := by rw [← hW8]; exact (by (repeat (first | exact Below.refl _ _ | assumption | refine Below.drew ?_ | refine bdrewN ?_ _ | refine Below.alloc ?_ (by first | omega | (simp <;> omega) | (simp only [World.size_alloc] <;> omega)) _ | refine below_setRow ?_ (by first | omega | (simp <;> omega)) _ | refine Below.setCell ?_ (by first | omega | (simp <;> omega)) _)))
      replace F6 := Lib.hid (F6.out.trans (b8.mono F6.out.size)); replace KE6 := Lib.hid (bk_keep b8 (bk_lt KE6.out) KE6.out); replace BY6 := Lib.hid (BY6.out.keep b8)
      clear b8 hW8
      have ui : wa.cell? ⟨g, i, none⟩ = some (B y) := BY6.out.cell (by rw [HD'.out, List.getElem?_set_self hil])
      have lgc := BY6.out.lt
      refine wp_region_later_tail (wa.heap.size) 13 (by kernel_rfl) (by kernel_rfl) ?_
      simp only [List.take_succ_cons, List.take_zero, List.drop_succ_cons, List.drop_zero]
      repeat (go_big_quiet_step ((fail)))
      (first | refine wpQuiet_nil ?_ | (go_big_quiet_want; (try go_big_quiet_op); trace_state; fail))
      intro wb hw'
      have q9 := later_elim hw'
      clear hw'
      replace F6 := Lib.hid (F6.out.trans (q9.mono F6.out.size)); replace KE6 := Lib.hid (bk_keep q9 (bk_lt KE6.out) KE6.out); replace BY6 := Lib.hid (BY6.out.keep q9)
      have ui5 : wb.cell? ⟨g, i, none⟩ = some (B y) := (q9.cell (p := ⟨g, i, none⟩) lgc).trans ui
      have fz5 := BY6.out.frozen i
      have lg7 := BY6.out.lt
      clear q9 ui lgc
      go_upto_region 13 with fail
      have F12 : Hid (Below w.heap.size w (wb.setCell ⟨g, i, none⟩ (B x))) := Lib.hid (F6.out.setCell (p := ⟨g, i, none⟩) (show w.heap.size ≤ g by omega) _)
      have BY12 : Hid (By (wb.setCell ⟨g, i, none⟩ (B x)) g D) := Lib.hid (by have h := BY6.out.set i x; rw [HDD.out] at h; exact h)
      have KE12 := Lib.hid ((bk_setCell_other wb g i w.heap.size (B x) hneg).trans KE6.out)
      clear KE6 BY6 F6 ui5 fz5 lg7 mi1 mi2 mr1 mr2 e8 mq1 mq2 nz8 hbx hby
      generalize wb.setCell ⟨g, i, none⟩ (B x) = w12 at *
      obtain ⟨j, hj⟩ : ∃ j, j = at' % 16 := ⟨_, rfl⟩
      have hj16 : j < 16 := by omega
      have mj1 : (at' : Int).tmod 16 = (j : Int) := by rw [hj, Int.tmod_eq_emod_of_nonneg (by omega)]; simp
      have mj2 : (at' : Int) % 16 = (j : Int) := by rw [hj]; simp
      have hj16' : (j : Int) < 16 := by omega
      clear hj
      obtain ⟨z, hz⟩ : ∃ z, z = dst[j] := ⟨_, rfl⟩
      obtain ⟨z', hz'⟩ : ∃ z', z' = flipB z 0 := ⟨_, rfl⟩
      have hbs : bits BinOp.xor IntKind.u8 (z.toNat : Int) 1 = (z'.toNat : Int) := by rw [hz']; exact bits_one z
      have hEj : E[16 + j]? = some z := by
        have e := congrArg (fun l => l[j]?) q1
        simp only [sl, List.extract_eq_take_drop] at e
        rw [List.getElem?_take_of_lt (by omega), List.getElem?_drop, List.getElem?_eq_getElem (show j < dst.length by omega)] at e
        rw [e, hz]
      have hss : z' ≠ dst[j] := by rw [hz', ← hz]; exact flipB_ne z 0 (by omega)
      have us : w12.cell? ⟨w.heap.size, 16 + j, none⟩ = some (B z) := by rw [bk_cell KE12.out]; simp [hEj]
      have fzs := bk_frozen KE12.out (16 + j)
      have lE12 := bk_lt KE12.out
      have hgn : g ≠ w.heap.size := by omega
      have HSS := Lib.hid hss
      clear hz hz' hEj hss
      go_upto_region 14 with fail
      have F14 : Hid (Below w.heap.size w (w12.setCell ⟨w.heap.size, 16 + j, none⟩ (B z'))) := Lib.hid (F12.out.setCell (p := ⟨w.heap.size, 16 + j, none⟩) (Nat.le_refl _) _)
      have BY14 := Lib.hid (BY12.out.other (k := w.heap.size) (j := 16 + j) (B z') hgn)
      obtain ⟨E', hE'⟩ : ∃ E', E' = E.set (16 + j) z' := ⟨_, rfl⟩
      have KE14 : Hid (bk (w12.setCell ⟨w.heap.size, 16 + j, none⟩ (B z')) w.heap.size = some (.cells (List.map B E').toArray 25 (0, 0))) := Lib.hid (by rw [bk_setCell_same, KE12.out, hE', List.map_set]; simp [putObj])
      have q0' : sl E' 0 16 = src := by rw [hE', ← q0]; simp only [sl, List.extract_eq_take_drop, List.drop_zero]; rw [List.take_set_of_le (by omega)]
      have q1' : sl E' 16 16 = dst.set j z' := by
        rw [hE', ← q1]; simp only [sl, List.extract_eq_take_drop]
        rw [List.drop_set, if_neg (by omega), List.take_set]
        congr 1
        omega
      have qn' : E'.length = 32 := by rw [hE', List.length_set]; exact qn
      clear hE' us fzs lE12 KE12 BY12 F12
      generalize w12.setCell ⟨w.heap.size, 16 + j, none⟩ (B z') = w14 at *
      obtain ⟨sr, hsr⟩ : ∃ sr, sr = dst.set j z' := ⟨_, rfl⟩
      rw [← hsr] at q1'
      have hsrl : sr.length = 16 := by rw [hsr, List.length_set]; exact h2
      have HE6 : Hid (sumOf (ovr src sr 58 D) ≠ 0) := Lib.hid (by rw [hsr]; exact ends_sum h1 h2 GOOD.out j hj16 z' HSS.out)
      clear hsr
      have HC := Lib.hid (getm_any src sr h1 hsrl (some ⟨g, 0, none⟩) D D.length w14 BY14.out.rd (fun e => by cases e) (Nat.le_refl _) hDm (by have := BY14.out.lt; omega))
      have ke := KE14.out
      have le := bk_lt ke
      go_wp2_with fail
      refine HC.out.mono ?_
      rintro e w15 ⟨hget, b11⟩
      obtain rfl := bad_sum hget (by omega) HE6.out
      replace F14 := Lib.hid (F14.out.trans (b11.mono F14.out.size))
      clear b11 HC ke le KE14 BY14 hget
      go_upto_region 15 with fail
      generalize hW8 : World.alloc w15 _ = wd
      have b8 : Below w15.heap.size w15 wd := by rw [← hW8]; exact (by (repeat (first | exact Below.refl _ _ | assumption | refine Below.drew ?_ | refine bdrewN ?_ _ | refine Below.alloc ?_ (by first | omega | (simp <;> omega) | (simp only [World.size_alloc] <;> omega)) _ | refine below_setRow ?_ (by first | omega | (simp <;> omega)) _ | refine Below.setCell ?_ (by first | omega | (simp <;> omega)) _)))
      have F8 := Lib.hid (F14.out.trans (b8.mono F14.out.size))
      clear b8 hW8 F14
      go_wp2_with fail
      refine (lives11_any _).mono ?_
      rintro e w9 ⟨rfl, b9⟩
      go_wp2_with fail
      go_ret
      exact ⟨rfl, F8.out.trans (b9.mono F8.out.size)⟩
    · rw [if_neg hk] at hput
      subst hput
      go_wp2_with fail
      refine (lives11_any _).mono ?_
      rintro e w9 ⟨rfl, b9⟩
      go_wp2_with fail
      go_ret
      exact ⟨rfl, F.out.trans (b9.mono F.out.size)⟩
  · replace F := Lib.hid (F.out.trans (b1.mono F.out.size))
    clear b1
    go_wp2_with fail
    refine (lives11_any _).mono ?_
    rintro e w2 ⟨rfl, b2⟩
    go_wp2_with fail
    go_ret
    exact ⟨rfl, F.out.trans (b2.mono F.out.size)⟩
end Go.Proofs.Ytjimmfbjhkoekaa

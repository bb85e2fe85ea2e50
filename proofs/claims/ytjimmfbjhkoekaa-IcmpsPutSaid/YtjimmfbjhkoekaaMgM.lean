import Derived.Test.YtjimmfbjhkoekaaMgK
import Derived.Test.YtjimmfbjhkoekaaMgL
/- Icmps: Put. -/
namespace Go.Proofs.Ytjimmfbjhkoekaa
open Go.RowKit
set_option maxRecDepth 100000
set_option maxHeartbeats 2000000
@[go_sem ↓] theorem ldMsg (dst : Option Tmp) (x : Operand) (t : TypeId) (pos : String) (af : Array Edge) (g : Option (Nat × Bool)) (a : Act) (w : World) (K : Act → World → Prop) (Q : Exit → Act → World → Prop) :
    Oper.wp Try.prog ⟨dst, .load 33 x, t, pos, af, g⟩ a w K Q = ldPtr (wpHid Try.prog ⟨dst, .load 33 x, t, pos, af, g⟩ a w K Q) 63 w (fun c => K (a.put dst (.agg c)) w) (a.eval x) :=
  wp_load_bk 33 63 _ Try.underlying33 rfl (by kernel_rfl) dst x t pos af g a w K Q
@[go_sem ↓] theorem stMsg (dst : Option Tmp) (x y : Operand) (t : TypeId) (pos : String) (af : Array Edge) (g : Option (Nat × Bool)) (a : Act) (w : World) (K : Act → World → Prop) (Q : Exit → Act → World → Prop) :
    Oper.wp Try.prog ⟨dst, .store 33 x y, t, pos, af, g⟩ a w K Q = stPtr (wpHid Try.prog ⟨dst, .store 33 x y, t, pos, af, g⟩ a w K Q) 63 w (fun w' => K (a.put dst undef) w') (a.eval x) (a.eval y) :=
  wp_store_bk 33 63 (by kernel_rfl) dst x y t pos af g a w K Q
@[go_sem ↓] theorem qlMsg (dst : Option Tmp) (x : Operand) (t : TypeId) (pos : String) (af : Array Edge) (g : Option (Nat × Bool)) (a : Act) (m : Nat) (W : World) (K : Act → Prop) :
    Oper.quiet Try.prog ⟨dst, .load 33 x, t, pos, af, g⟩ a (fun w' => ∃ x : Later m W, w' = x.w) K =
      ldLater (quietHid Try.prog ⟨dst, .load 33 x, t, pos, af, g⟩ a (fun w' => ∃ x : Later m W, w' = x.w) K) m 63 W (fun c => K (a.put dst (.agg c))) (a.eval x) :=
  quiet_load_bk 33 63 _ Try.underlying33 rfl (by kernel_rfl) dst x t pos af g a m W K
@[go_sem ↓] theorem ldAdrI (dst : Option Tmp) (x : Operand) (t : TypeId) (pos : String) (af : Array Edge) (g : Option (Nat × Bool)) (a : Act) (w : World) (K : Act → World → Prop) (Q : Exit → Act → World → Prop) :
    Oper.wp Try.prog ⟨dst, .load 23 x, t, pos, af, g⟩ a w K Q = ldPtr (wpHid Try.prog ⟨dst, .load 23 x, t, pos, af, g⟩ a w K Q) 16 w (fun c => K (a.put dst (.agg c)) w) (a.eval x) :=
  wp_load_bk 23 16 _ Try.underlying23 rfl (by kernel_rfl) dst x t pos af g a w K Q
@[go_sem ↓] theorem stAdrI (dst : Option Tmp) (x y : Operand) (t : TypeId) (pos : String) (af : Array Edge) (g : Option (Nat × Bool)) (a : Act) (w : World) (K : Act → World → Prop) (Q : Exit → Act → World → Prop) :
    Oper.wp Try.prog ⟨dst, .store 23 x y, t, pos, af, g⟩ a w K Q = stPtr (wpHid Try.prog ⟨dst, .store 23 x y, t, pos, af, g⟩ a w K Q) 16 w (fun w' => K (a.put dst undef) w') (a.eval x) (a.eval y) :=
  wp_store_bk 23 16 (by kernel_rfl) dst x y t pos af g a w K Q
@[go_sem ↓] theorem qlAdrI (dst : Option Tmp) (x : Operand) (t : TypeId) (pos : String) (af : Array Edge) (g : Option (Nat × Bool)) (a : Act) (m : Nat) (W : World) (K : Act → Prop) :
    Oper.quiet Try.prog ⟨dst, .load 23 x, t, pos, af, g⟩ a (fun w' => ∃ x : Later m W, w' = x.w) K =
      ldLater (quietHid Try.prog ⟨dst, .load 23 x, t, pos, af, g⟩ a (fun w' => ∃ x : Later m W, w' = x.w) K) m 16 W (fun c => K (a.put dst (.agg c))) (a.eval x) :=
  quiet_load_bk 23 16 _ Try.underlying23 rfl (by kernel_rfl) dst x t pos af g a m W K
/-- What a message's parts ask for. -/
structure Small (m : Mv) : Prop where
  o1 : m.os.length < 2 ^ 30
  o2 : (optsB (m.os.map Ov.pl)).length < 2 ^ 30
  d : m.dd.length < 2 ^ 30
theorem may_small {m : Mv} (h : mayB m.pl = true) : (m.kind = 130 → m.ss.length ≤ 64) ∧ (m.kind = 143 → m.rs.length ≤ 64 ∧ ∀ r ∈ m.rs, r.s.length ≤ 64) := by
  unfold mayB at h
  refine ⟨fun e => ?_, fun e => ?_⟩
  · have e' : m.pl.kind = 130 := e
    rw [e', if_pos rfl] at h
    exact of_decide_eq_true h
  · have e' : m.pl.kind = 143 := e
    rw [e', if_neg (by decide), if_pos rfl, Bool.and_eq_true] at h
    obtain ⟨h1, h2⟩ := h
    refine ⟨by have := of_decide_eq_true h1; simpa [Mv.pl] using this, fun r hr => ?_⟩
    have h3 := List.all_eq_true.1 h2 r.pl (List.mem_map.2 ⟨r, hr, rfl⟩)
    exact of_decide_eq_true h3
theorem sflat_le (s : List (List UInt8)) (h : ∀ z ∈ s, z.length = 16) : s.flatten.length = 16 * s.length := by rw [flat16 h]; omega
theorem recs_small {l : List Rv} (h : ∀ r ∈ l, r.s.length ≤ 64 ∧ ∀ z ∈ r.s, z.length = 16) : (recsB (l.map Rv.pl)).length ≤ 2048 * l.length := by
  induction l with
  | nil => simp [recsB]
  | cons r l ih =>
    have ih' := ih fun x hx => h x (List.mem_cons_of_mem _ hx)
    have h1 := h r (by simp)
    have h2 := sflat_le r.s h1.2
    have hg := r.hg
    have e : recsB ((r :: l).map Rv.pl) = recB r.pl ++ recsB (l.map Rv.pl) := by simp [recsB]
    rw [e, List.length_append]
    have e2 : (recB r.pl).length = 20 + 16 * r.s.length := by
      simp only [recB, Rv.pl, List.length_append, nb_length, hg, h2, List.length_cons, List.length_nil]
    rw [e2, List.length_cons]
    omega
/-- Whatever kind, its parts are put. -/
theorem parts_put (n gp gm : Nat) (m : Mv) (v : Value) (L : List UInt8) (w : World) (h : PU w n gp v L) (hf : Full v L) (hgm : gm < n) (hm : bk w gm = some (.cells (mC m) 33 (0, 0))) (hok : MvOk w n m) (hL : L.length < 2 ^ 20) (hs : Small m) (hmay : mayB m.pl = true) (hk : isK m.kind = true) :
    Calls Try.prog 31 #[sideP gp, .pointer (some ⟨gm, 0, none⟩)] w fun e w' => e = .returned (.bool true) ∧ Put3 w n gp gm v (L ++ partB m.pl) w' := by
  have hms := may_small hmay
  simp only [isK, Bool.or_eq_true, beq_iff_eq] at hk
  rcases hk with (((((((((((hk | hk) | hk) | hk) | hk) | hk) | hk) | hk) | hk) | hk) | hk) | hk) | hk
  · exact p1_put n gp gm m v L w h hgm hm hok ⟨hL, hs.d⟩ hk
  · exact p2_put n gp gm m v L w h hgm hm hok ⟨hL, hs.d⟩ hk
  · exact p3_put n gp gm m v L w h hgm hm hok ⟨hL, hs.d⟩ hk
  · exact p4_put n gp gm m v L w h hgm hm hok ⟨hL, hs.d⟩ hk
  · exact p128_put n gp gm m v L w h hgm hm hok ⟨hL, hs.d⟩ hk
  · exact p129_put n gp gm m v L w h hgm hm hok ⟨hL, hs.d⟩ hk
  · exact p130_put n gp gm m v L w h hgm hm hok ⟨hL, by have := hms.1 hk; omega⟩ hk
  · have h1 := hms.2 hk
    have h2 := recs_small (l := m.rs) fun r hr => ⟨h1.2 r hr, (hok.rss r hr).2.1⟩
    exact p143_put n gp gm m v L w h hf hgm hm hok ⟨hL, by omega, fun r hr => by have := h1.2 r hr; omega, by omega⟩ hk
  · exact p134_put n gp gm m v L w h hgm hm hok ⟨hL, hs.o1, hs.o2⟩ hk
  · exact p133_put n gp gm m v L w h hf hgm hm hok ⟨hL, hs.o1, hs.o2⟩ hk
  · exact p135_put n gp gm m v L w h hf hgm hm hok ⟨hL, hs.o1, hs.o2⟩ hk
  · exact p136_put n gp gm m v L w h hf hgm hm hok ⟨hL, hs.o1, hs.o2⟩ hk
  · exact p137_put n gp gm m v L w h hf hgm hm hok ⟨hL, hs.o1, hs.o2⟩ hk
/-- A message's bytes without its sum; with it. -/
def bodyB (m : Msg) : List UInt8 := [m.kind, m.code, 0, 0] ++ partB m
def putB (src dst : List UInt8) (m : Msg) : List UInt8 := [m.kind, m.code] ++ nb 2 (sumOf (ovr src dst 58 (bodyB m))) ++ partB m
def okM (m : Msg) : Bool := mayB m && isK m.kind
def PutM (src dst : List UInt8) (m : Msg) (n : Nat) (e : Ending) (w' : World) : Prop :=
  if okM m then ∃ A, e = .returned (.tuple #[.slice A (putB src dst m).length (putB src dst m).length, .int .i64 0]) ∧ Own w' n (.slice A (putB src dst m).length (putB src dst m).length) (putB src dst m)
  else e = .returned (.tuple #[.slice none 0 0, .int .i64 1])
/-- Where Put's boxes lie. -/
structure PutW (w W : World) (src dst : List UInt8) (m : Mv) (s : Nat) : Prop where
  bl : Below w.heap.size w W
  ks : bk W s = some (.cells (src.map B).toArray 23 (0, 0))
  kd : bk W (s + 1) = some (.cells (dst.map B).toArray 23 (0, 0))
  km : bk W (s + 1 + 1) = some (.cells (mC m) 33 (0, 0))
  pu : PU W (s + 1 + 1 + 1) (s + 1 + 1 + 1 + 1) (.slice (some ⟨s + 1 + 1 + 1, 0, none⟩) 4 4) [m.kind, m.code, 0, 0]
  hs : s = w.heap.size
theorem putm_bad (src dst : List UInt8) (h1 : src.length = 16) (h2 : dst.length = 16) (m : Mv) (w : World) (hok : MvOk w w.heap.size m) (hs : Small m) (hokm : okM m.pl = false) :
    Calls Try.prog 11 #[av src, av dst, .agg (mC m)] w fun e w' => PutM src dst m.pl w.heap.size e w' ∧ Below w.heap.size w w' := by
  have HS := Lib.hid hs; have OK := Lib.hid hok; have H1 := Lib.hid h1; have H2 := Lib.hid h2; have HOKM := Lib.hid hokm
  obtain ⟨W3, hW3⟩ : ∃ W, W = ((w.alloc (.cells (src.map B).toArray 23)).alloc (.cells (dst.map B).toArray 23)).alloc (.cells (mC m) 33) := ⟨_, rfl⟩
  obtain ⟨s, hs⟩ : ∃ s, s = w.heap.size := ⟨_, rfl⟩
  have b3 : Below w.heap.size w W3 := by rw [hW3]; exact (by (repeat (first | exact Below.refl _ _ | assumption | refine Below.drew ?_ | refine bdrewN ?_ _ | refine Below.alloc ?_ (by first | omega | (simp <;> omega) | (simp only [World.size_alloc] <;> omega)) _ | refine below_setRow ?_ (by first | omega | (simp <;> omega)) _ | refine Below.setCell ?_ (by first | omega | (simp <;> omega)) _)))
  have sz3 : W3.heap.size = s + 1 + 1 + 1 := by rw [hW3, hs]; simp
  have ks : bk W3 s = some (.cells (src.map B).toArray 23 (0, 0)) := by rw [hW3, hs, bk_alloc_past _ _ _ (by simp <;> omega), bk_alloc_past _ _ _ (by simp)]; exact bk_alloc_at _ _ _ rfl
  have kd : bk W3 (s + 1) = some (.cells (dst.map B).toArray 23 (0, 0)) := by rw [hW3, hs, bk_alloc_past _ _ _ (by simp)]; exact bk_alloc_at _ _ _ (by simp)
  have km : bk W3 (s + 1 + 1) = some (.cells (mC m) 33 (0, 0)) := by rw [hW3, hs]; exact bk_alloc_at _ _ _ (by simp)
  obtain ⟨W5, hW5⟩ : ∃ W, W = (W3.alloc (.cells #[.int .u8 (m.kind.toNat : Int), .int .u8 (m.code.toNat : Int), .int .u8 0, .int .u8 0] 5)).alloc (.cells #[.slice (some ⟨s + 1 + 1 + 1, 0, none⟩) 4 4] 64) := ⟨_, rfl⟩
  have b5 : Below W3.heap.size W3 W5 := by rw [hW5]; exact (by (repeat (first | exact Below.refl _ _ | assumption | refine Below.drew ?_ | refine bdrewN ?_ _ | refine Below.alloc ?_ (by first | omega | (simp <;> omega) | (simp only [World.size_alloc] <;> omega)) _ | refine below_setRow ?_ (by first | omega | (simp <;> omega)) _ | refine Below.setCell ?_ (by first | omega | (simp <;> omega)) _)))
  have kr : bk W5 (s + 1 + 1 + 1) = some (.cells #[.int .u8 (m.kind.toNat : Int), .int .u8 (m.code.toNat : Int), .int .u8 0, .int .u8 0] 5 (0, 0)) := by rw [hW5, bk_alloc_past _ _ _ (by simp; omega)]; exact bk_alloc_at _ _ _ sz3.symm
  have kp : bk W5 (s + 1 + 1 + 1 + 1) = some (.cells #[.slice (some ⟨s + 1 + 1 + 1, 0, none⟩) 4 4] 64 (0, 0)) := by rw [hW5]; exact bk_alloc_at _ _ _ (by simp; omega)
  have PW : Hid (PutW w W5 src dst m s) := Lib.hid ⟨b3.trans (b5.mono b3.size), bk_keep b5 (bk_lt ks) ks, bk_keep b5 (bk_lt kd) kd, bk_keep b5 (bk_lt km) km, ⟨kp, .inr ⟨s + 1 + 1 + 1, 4, _, rfl, Nat.le_refl _, kr, by simp, by simp, by unfold maxLen; omega, rfl, .inl rfl⟩, (fun e => by cases e), by omega⟩, hs⟩
  have HS0 := Lib.hid hs; have HW3 := Lib.hid hW3; have HW5 := Lib.hid hW5; have SZ3 := Lib.hid sz3
  have c0 := (bk_cell km 0).trans (mC_0 m)
  have c1 := (bk_cell km 1).trans (mC_1 m)
  have l2 := bk_lt km
  clear b3 b5 ks kd km kr kp hs hW3 hW5 sz3 h1 h2 hok hokm
  go_enter Try.func11, Try.ntmps11
  go_upto_region 1 with fail
  rw [← HS0.out]
  change Code.wp _ _ _ _ (((w.alloc (.cells (src.map B).toArray 23)).alloc (.cells (dst.map B).toArray 23)).alloc (.cells (mC m) 33))
  rw [← HW3.out]
  go_upto_region 2 with fail
  rw [SZ3.out]
  change Code.wp _ _ _ _ ((W3.alloc (.cells #[.int .u8 (m.kind.toNat : Int), .int .u8 (m.code.toNat : Int), .int .u8 0, .int .u8 0] 5)).alloc (.cells #[.slice (some ⟨s + 1 + 1 + 1, 0, none⟩) 4 4] 64))
  rw [← HW5.out]
  clear c0 c1 l2 HW3 HW5 SZ3 W3
  have OK5 : Hid (MvOk W5 (s + 1 + 1 + 1) m) := Lib.hid ((OK.out.below PW.out.bl (Nat.le_refl _)).mono (by have := PW.out.hs; omega))
  have CM := Lib.hid (may_any m W5 (OK5.out.mono (by have := PW.out.pu.lt _ (.inl rfl); omega)))
  have km := PW.out.km
  have lm := bk_lt km
  obtain ⟨q, hq⟩ : ∃ q, q = mayB m.pl := ⟨_, rfl⟩
  rw [← hq] at CM
  cases q
  · clear hq
    go_wp2_with fail
    refine CM.out.mono ?_
    rintro e w6 ⟨rfl, b6⟩
    have FX : Hid (Below w.heap.size w w6) := Lib.hid (PW.out.bl.trans (b6.mono PW.out.bl.size))
    clear CM b6 km lm
    go_wp2_with fail
    go_ret2
    exact ⟨by unfold PutM; rw [HOKM.out]; rfl, FX.out⟩
  · have HK : Hid (isK m.kind = false) := Lib.hid (by have h := HOKM.out; unfold okM at h; rw [← hq, Bool.true_and] at h; exact h)
    clear hq
    go_wp2_with fail
    refine CM.out.mono ?_
    rintro e w6 ⟨rfl, b6⟩
    have km6 := bk_keep b6 (bk_lt km) km
    have CN := Lib.hid (parts_none (s + 1 + 1) (sideP (s + 1 + 1 + 1 + 1)) m w6 km6 HK.out)
    have FX : Hid (Below w.heap.size w w6) := Lib.hid (PW.out.bl.trans (b6.mono PW.out.bl.size))
    clear CM b6 km lm km6
    go_wp2_with fail
    refine CN.out.mono ?_
    rintro e w7 ⟨rfl, rfl⟩
    go_wp2_with fail
    go_ret2
    exact ⟨by unfold PutM; rw [HOKM.out]; rfl, FX.out⟩
end Go.Proofs.Ytjimmfbjhkoekaa
/- Icmps: Put, whole. -/
namespace Go.Proofs.Ytjimmfbjhkoekaa
open Go.RowKit
set_option maxRecDepth 100000
set_option maxHeartbeats 2000000
theorem bodyB_len (m : Msg) : (bodyB m).length = 4 + (partB m).length := by unfold bodyB; rw [List.length_append]; rfl
theorem putB_len (src dst : List UInt8) (m : Msg) : (putB src dst m).length = 4 + (partB m).length := by unfold putB; rw [List.length_append, List.length_append, nb_length]; rfl
theorem partB_le (m : Mv) {w : World} {n : Nat} (hs : Small m) (hok : MvOk w n m) (hmay : mayB m.pl = true) : (partB m.pl).length < 2 ^ 31 := by
  have h1 := hs.o2; have h2 := hs.d; have h3 := may_small hmay
  have ht := m.ht; have hd := m.hd; have hg := m.hg
  unfold partB
  have e0 : m.pl.kind = m.kind := rfl
  rw [e0]
  have eo : (optsB m.pl.opts).length < 2 ^ 30 := h1
  have et : m.pl.tgt.length = 16 := ht
  have ed : m.pl.dst.length = 16 := hd
  have eg : m.pl.grp.length = 16 := hg
  have edd : m.pl.data.length < 2 ^ 30 := h2
  split
  · rename_i hk
    have e1 : m.pl.srcs.flatten.length = 16 * m.pl.srcs.length := sflat_le m.ss hok.s16
    have e2 : m.pl.srcs.length ≤ 64 := h3.1 hk
    simp only [List.length_append, nb_length, List.length_cons, List.length_nil]
    omega
  · split
    · rename_i hk
      have h4 := h3.2 hk
      have h5 := recs_small (l := m.rs) fun r hr => ⟨h4.2 r hr, (hok.rss r hr).2.1⟩
      have h6 : (recsB m.pl.recs).length ≤ 2048 * m.rs.length := h5
      simp only [List.length_append, nb_length, List.length_cons, List.length_nil]
      omega
    · repeat' split
      all_goals
        simp only [List.length_append, nb_length, List.length_cons, List.length_nil]
        omega
theorem nb2k (n : Nat) : nb 2 n = [UInt8.ofNat (n / 256), UInt8.ofNat n] := by simp [nb, List.range_succ]
theorem put_cells (src dst : List UInt8) (m : Msg) (SM : Nat) (hS : SM = sumOf (ovr src dst 58 (bodyB m))) (hlt : SM < 65536) (cur : Array Value) (h : cur.toList.take (bodyB m).length = (bodyB m).map B) :
    ((cur.setIfInBounds 2 (.int .u8 ((SM : Int) / 256))).setIfInBounds 3 (.int .u8 ((SM : Int) % 256))).toList.take (putB src dst m).length = (putB src dst m).map B := by
  have e : (putB src dst m).length = (bodyB m).length := by rw [putB_len, bodyB_len]
  rw [e, Array.toList_setIfInBounds, Array.toList_setIfInBounds, List.take_set, List.take_set, h]
  unfold putB bodyB
  have e1 : (Value.int .u8 ((SM : Int) / 256)) = B (UInt8.ofNat (SM / 256)) := by
    unfold B; rw [UInt8.toNat_ofNat']; congr 1; omega
  have e2 : (Value.int .u8 ((SM : Int) % 256)) = B (UInt8.ofNat SM) := by
    unfold B; rw [UInt8.toNat_ofNat']; congr 1
  rw [show sumOf (ovr src dst 58 ([m.kind, m.code, 0, 0] ++ partB m)) = SM from hS.symm, nb2k, e1, e2]
  rfl
theorem putm_good (src dst : List UInt8) (h1 : src.length = 16) (h2 : dst.length = 16) (m : Mv) (w : World) (hok : MvOk w w.heap.size m) (hs : Small m) (hokm : okM m.pl = true) :
    Calls Try.prog 11 #[av src, av dst, .agg (mC m)] w fun e w' => PutM src dst m.pl w.heap.size e w' ∧ Below w.heap.size w w' := by
  obtain ⟨hmay, hkk⟩ : mayB m.pl = true ∧ isK m.kind = true := by unfold okM at hokm; rwa [Bool.and_eq_true] at hokm
  have HPL := Lib.hid (partB_le m hs hok hmay)
  have HMAY := Lib.hid hmay; have HKK := Lib.hid hkk
  clear hmay hkk
  have HS := Lib.hid hs; have OK := Lib.hid hok; have H1 := Lib.hid h1; have H2 := Lib.hid h2; have HOKM := Lib.hid hokm
  obtain ⟨W3, hW3⟩ : ∃ W, W = ((w.alloc (.cells (src.map B).toArray 23)).alloc (.cells (dst.map B).toArray 23)).alloc (.cells (mC m) 33) := ⟨_, rfl⟩
  obtain ⟨s, hs⟩ : ∃ s, s = w.heap.size := ⟨_, rfl⟩
  have b3 : Below w.heap.size w W3 := by rw [hW3]; exact (by (repeat (first | exact Below.refl _ _ | assumption | refine Below.drew ?_ | refine bdrewN ?_ _ | refine Below.alloc ?_ (by first | omega | (simp <;> omega) | (simp only [World.size_alloc] <;> omega)) _ | refine below_setRow ?_ (by first | omega | (simp <;> omega)) _ | refine Below.setCell ?_ (by first | omega | (simp <;> omega)) _)))
  have sz3 : W3.heap.size = s + 1 + 1 + 1 := by rw [hW3, hs]; simp
  have ks : bk W3 s = some (.cells (src.map B).toArray 23 (0, 0)) := by rw [hW3, hs, bk_alloc_past _ _ _ (by simp <;> omega), bk_alloc_past _ _ _ (by simp)]; exact bk_alloc_at _ _ _ rfl
  have kd : bk W3 (s + 1) = some (.cells (dst.map B).toArray 23 (0, 0)) := by rw [hW3, hs, bk_alloc_past _ _ _ (by simp)]; exact bk_alloc_at _ _ _ (by simp)
  have km : bk W3 (s + 1 + 1) = some (.cells (mC m) 33 (0, 0)) := by rw [hW3, hs]; exact bk_alloc_at _ _ _ (by simp)
  obtain ⟨W5, hW5⟩ : ∃ W, W = (W3.alloc (.cells #[.int .u8 (m.kind.toNat : Int), .int .u8 (m.code.toNat : Int), .int .u8 0, .int .u8 0] 5)).alloc (.cells #[.slice (some ⟨s + 1 + 1 + 1, 0, none⟩) 4 4] 64) := ⟨_, rfl⟩
  have b5 : Below W3.heap.size W3 W5 := by rw [hW5]; exact (by (repeat (first | exact Below.refl _ _ | assumption | refine Below.drew ?_ | refine bdrewN ?_ _ | refine Below.alloc ?_ (by first | omega | (simp <;> omega) | (simp only [World.size_alloc] <;> omega)) _ | refine below_setRow ?_ (by first | omega | (simp <;> omega)) _ | refine Below.setCell ?_ (by first | omega | (simp <;> omega)) _)))
  have kr : bk W5 (s + 1 + 1 + 1) = some (.cells #[.int .u8 (m.kind.toNat : Int), .int .u8 (m.code.toNat : Int), .int .u8 0, .int .u8 0] 5 (0, 0)) := by rw [hW5, bk_alloc_past _ _ _ (by simp; omega)]; exact bk_alloc_at _ _ _ sz3.symm
  have kp : bk W5 (s + 1 + 1 + 1 + 1) = some (.cells #[.slice (some ⟨s + 1 + 1 + 1, 0, none⟩) 4 4] 64 (0, 0)) := by rw [hW5]; exact bk_alloc_at _ _ _ (by simp; omega)
  have PW : Hid (PutW w W5 src dst m s) := Lib.hid ⟨b3.trans (b5.mono b3.size), bk_keep b5 (bk_lt ks) ks, bk_keep b5 (bk_lt kd) kd, bk_keep b5 (bk_lt km) km, ⟨kp, .inr ⟨s + 1 + 1 + 1, 4, _, rfl, Nat.le_refl _, kr, by simp, by simp, by unfold maxLen; omega, rfl, .inl rfl⟩, (fun e => by cases e), by omega⟩, hs⟩
  have HS0 := Lib.hid hs; have HW3 := Lib.hid hW3; have HW5 := Lib.hid hW5; have SZ3 := Lib.hid sz3
  have c0 := (bk_cell km 0).trans (mC_0 m)
  have c1 := (bk_cell km 1).trans (mC_1 m)
  have l2 := bk_lt km
  clear b3 b5 ks kd km kr kp hs hW3 hW5 sz3 h1 h2 hok hokm
  go_enter Try.func11, Try.ntmps11
  go_upto_region 1 with fail
  rw [← HS0.out]
  change Code.wp _ _ _ _ (((w.alloc (.cells (src.map B).toArray 23)).alloc (.cells (dst.map B).toArray 23)).alloc (.cells (mC m) 33))
  rw [← HW3.out]
  go_upto_region 2 with fail
  rw [SZ3.out]
  change Code.wp _ _ _ _ ((W3.alloc (.cells #[.int .u8 (m.kind.toNat : Int), .int .u8 (m.code.toNat : Int), .int .u8 0, .int .u8 0] 5)).alloc (.cells #[.slice (some ⟨s + 1 + 1 + 1, 0, none⟩) 4 4] 64))
  rw [← HW5.out]
  clear c0 c1 l2 HW3 HW5 SZ3 W3
  have OK5 : Hid (MvOk W5 (s + 1 + 1 + 1) m) := Lib.hid ((OK.out.below PW.out.bl (Nat.le_refl _)).mono (by have := PW.out.hs; omega))
  have CM := Lib.hid (may_any m W5 (OK5.out.mono (by have := PW.out.pu.lt _ (.inl rfl); omega)))
  have km := PW.out.km
  have lm := bk_lt km
  rw [HMAY.out] at CM
  go_wp2_with fail
  refine CM.out.mono ?_
  rintro e w6 ⟨rfl, b6⟩
  have B6 := Lib.hid b6
  have CP := Lib.hid (parts_put (s + 1 + 1 + 1) (s + 1 + 1 + 1 + 1) (s + 1 + 1) m _ _ w6 (PW.out.pu.below b6) ⟨s + 1 + 1 + 1, rfl⟩ (by omega) (bk_keep b6 (bk_lt km) km) (OK5.out.below b6 (by have := PW.out.pu.lt _ (.inl rfl); omega)) (by simp) HS.out HMAY.out HKK.out)
  clear CM b6 km lm
  go_wp2_with fail
  refine CP.out.mono ?_
  rintro e w7 ⟨rfl, v7, p7, n7, t7⟩
  obtain ⟨A, c, e, hr7, hA7, hc7⟩ := p7.row.sl
  subst e
  obtain ⟨BB, hBB⟩ : ∃ B, B = [m.kind, m.code, 0, 0] ++ partB m.pl := ⟨_, rfl⟩
  have hBl : BB.length = 4 + (partB m.pl).length := by rw [hBB, List.length_append]; rfl
  rw [← hBB] at p7 hr7 hA7 hc7
  have HBB := Lib.hid hBB
  have hB31 : BB.length < 2 ^ 32 := by have := HPL.out; omega
  have hB4 : 4 ≤ BB.length := by omega
  have P7 := Lib.hid p7; have R7 := Lib.hid hr7
  have hF7 : ∀ k, k < s + 1 + 1 → ¬ (Fp (s + 1 + 1 + 1 + 1) (.slice (some ⟨s + 1 + 1 + 1, 0, none⟩) 4 4) k ∨ k = s + 1 + 1) := fun k hk e => by
    rcases e with (e | e) | e
    · omega
    · have e' : s + 1 + 1 + 1 = k := Option.some.inj e; omega
    · omega
  have ks7 := t7.keep (hF7 s (by omega)) (bk_keep B6.out (bk_lt PW.out.ks) PW.out.ks)
  have kd7 := t7.keep (hF7 (s + 1) (by omega)) (bk_keep B6.out (bk_lt PW.out.kd) PW.out.kd)
  have F7 : Hid (Below w.heap.size w w7) := Lib.hid ((PW.out.bl.trans (B6.out.mono PW.out.bl.size)).trans (t7.below (fun k hk => by
    have := PW.out.hs
    rcases hk with (e | e) | e
    · omega
    · have e' : s + 1 + 1 + 1 = k := Option.some.inj e; omega
    · omega) (by have := PW.out.bl.size; have := B6.out.size; omega)))
  have pb : w7.cell? ⟨s + 1 + 1 + 1 + 1, 0, none⟩ = some (.slice A BB.length c) := (bk_cell p7.box 0).trans rfl
  have lp := bk_lt p7.box
  have ls := bk_lt ks7; have ld := bk_lt kd7
  obtain ⟨SM, hSM⟩ : ∃ S, S = sumOf (ovr src dst 58 BB) := ⟨_, rfl⟩
  have CE : Hid (∀ W, Below w7.heap.size w7 W → Calls Try.prog 25 #[.agg (src.map B).toArray, .agg (dst.map B).toArray, .int .u8 58, .slice A BB.length c] W fun e w' => e = .returned (.int .u16 (SM : Int)) ∧ Below W.heap.size W w') := Lib.hid fun W hW => by
    rw [hSM]
    exact over_any src dst 58 A BB c W H1.out H2.out ((R7.out.below hW (Nat.le_refl _)).mono hW.size) hB31
  have HSM := Lib.hid hSM
  have NV := Lib.hid (And.intro hA7 hc7)
  clear CP p7 hr7 hA7 hc7 n7 t7 hBB hBl hF7 hSM
  go_upto_region 4 with fail
  have z1 := H1.out; have z2 := H2.out
  refine wp_region_later (w7.heap.size) (by kernel_rfl) (by kernel_rfl) ?_
  repeat (go_big_quiet_step (((rename_i xq; with_reducible exact later_call xq (Nat.le_refl _) (CE.out xq.w xq.h)))))
  (first | refine wpQuiet_nil ?_ | (go_big_quiet_want; (try go_big_quiet_op); trace_state; fail))
  intro w9 hw'
  have q9 := later_elim hw'
  clear hw'
  have P9 := Lib.hid (P7.out.below q9)
  have F9 := Lib.hid (F7.out.trans (q9.mono F7.out.size))
  clear z1 z2 q9 CE ks7 kd7 pb lp ls ld P7 R7 F7
  have hSb : SM < 65536 := by rw [HSM.out]; unfold sumOf; omega
  have pb : w9.cell? ⟨s + 1 + 1 + 1 + 1, 0, none⟩ = some (.slice A BB.length c) := (bk_cell P9.out.box 0).trans rfl
  have lp := bk_lt P9.out.box
  obtain ⟨g, c', cur, e, hg, hbg, hc1, hc2, hc3, htk, hfull⟩ : ∃ g c' cur, Value.slice A BB.length c = .slice (some ⟨g, 0, none⟩) BB.length c' ∧ s + 1 + 1 + 1 ≤ g ∧ bk w9 g = some (.cells cur 5 (0, 0)) ∧ BB.length ≤ c' ∧ c' ≤ cur.size ∧ c' ≤ maxLen ∧ cur.toList.take BB.length = BB.map B ∧ (cur.size = c' ∨ c' = BB.length) := by
    rcases P9.out.row with ⟨e, e2⟩ | h
    · rw [e2] at hB4; simp at hB4
    · exact h
  cases e
  have lg := bk_lt hbg
  have f2 := bk_frozen hbg 2; have f3 := bk_frozen hbg 3
  have hgp : ¬ g = s + 1 + 1 + 1 + 1 := fun e => P9.out.vx (by rw [← e]; rfl)
  obtain ⟨u2, g2⟩ : ∃ u, w9.cell? ⟨g, 2, none⟩ = some u := ⟨cur[2]'(by omega), by rw [bk_cell hbg]; exact Array.getElem?_eq_getElem _⟩
  obtain ⟨u3, g3⟩ : ∃ u, w9.cell? ⟨g, 3, none⟩ = some u := ⟨cur[3]'(by omega), by rw [bk_cell hbg]; exact Array.getElem?_eq_getElem _⟩
  have KB := Lib.hid (And.intro hbg (And.intro htk (And.intro hg (And.intro hc1 (And.intro hc2 hc3)))))
  have i2 : decide ((2 : Int) < (BB.length : Int)) = true := by simp; omega
  have i3 : decide ((3 : Int) < (BB.length : Int)) = true := by simp; omega
  clear hbg htk hg hc1 hc2 hc3 hfull
  go_upto_region 5 with fail
  go_region
  obtain ⟨W10, hW10⟩ : ∃ W, W = ((w9.setCell ⟨g, 2, none⟩ (.int .u8 ((SM : Int) / 256))).setCell ⟨g, 3, none⟩ (.int .u8 ((SM : Int) % 256))).drew := ⟨_, rfl⟩
  have kg : bk W10 g = some (.cells ((cur.setIfInBounds 2 (.int .u8 ((SM : Int) / 256))).setIfInBounds 3 (.int .u8 ((SM : Int) % 256))) 5 (0, 0)) := by
    rw [hW10, bk_drew, bk_setCell_same, bk_setCell_same, KB.out.1]; rfl
  have kgp : bk W10 (s + 1 + 1 + 1 + 1) = some (.cells #[.slice (some ⟨g, 0, none⟩) BB.length c] 64 (0, 0)) := by
    rw [hW10, bk_drew, bk_setCell_other _ _ _ _ _ (fun e => hgp e.symm), bk_setCell_other _ _ _ _ _ (fun e => hgp e.symm)]; exact P9.out.box
  have b10 : Below w.heap.size w W10 := F9.out.trans (by
    rw [hW10]
    have h1 := KB.out.2.2.1
    have h2 := PW.out.hs
    exact (((Below.refl _ _).setCell (p := ⟨g, 2, none⟩) (by show w.heap.size ≤ g; omega) _).setCell (p := ⟨g, 3, none⟩) (by show w.heap.size ≤ g; omega) _).drew)
  have CL := Lib.hid (clip_any (some ⟨g, 0, none⟩) BB.length c KB.out.2.2.2.1 W10)
  have HX : Hid (∀ w', Below W10.heap.size W10 w' → Own w' w.heap.size (.slice (some ⟨g, 0, none⟩) BB.length BB.length) (putB src dst m.pl) ∧ Below w.heap.size w w') := Lib.hid fun w' hb => by
    have hbb : BB = bodyB m.pl := HBB.out
    have e : (putB src dst m.pl).length = BB.length := by rw [hbb, putB_len, bodyB_len]
    have ht := put_cells src dst m.pl SM (by rw [HSM.out, hbb]) hSb cur (by rw [← hbb]; exact KB.out.2.1)
    obtain ⟨_, _, h3, h4, h5, h6⟩ := KB.out
    have h7 := PW.out.hs
    refine ⟨.inr ⟨g, BB.length, _, by rw [e], by omega, bk_keep hb (bk_lt kg) kg, by omega, by simp; omega, by omega, ht, .inr e.symm⟩, b10.trans (hb.mono b10.size)⟩
  have pb' : W10.cell? ⟨s + 1 + 1 + 1 + 1, 0, none⟩ = some (.slice (some ⟨g, 0, none⟩) BB.length c) := (bk_cell kgp 0).trans rfl
  have lp' := bk_lt kgp
  have HLE : Hid (BB.length = (putB src dst m.pl).length) := Lib.hid (by have hbb : BB = bodyB m.pl := HBB.out; rw [hbb, putB_len, bodyB_len])
  rw [← hW10]
  clear hW10 kg kgp b10 i2 i3 g2 g3 f2 f3 lg pb lp P9 F9 KB hSb hgp
  go_wp2_with fail
  refine CL.out.mono ?_
  rintro e w11 ⟨rfl, b11⟩
  have F11 := Lib.hid (HX.out w11 b11)
  clear CL HX b11 pb' lp'
  go_wp2_with fail
  go_ret2
  exact ⟨by
    unfold PutM
    rw [HOKM.out, if_pos rfl, ← HLE.out]
    exact ⟨_, rfl, F11.out.1⟩, F11.out.2⟩
end Go.Proofs.Ytjimmfbjhkoekaa
/- Icmps: bytes that are got: their box; what is wrong first; a number. -/
namespace Go.Proofs.Ytjimmfbjhkoekaa
open Go.RowKit
set_option maxRecDepth 100000
set_option maxHeartbeats 1000000
/-- Where one who gets stands; or what was wrong first. -/
inductive GS
  | ok (q : Nat)
  | short
  | form
def GS.err : GS → Nat
  | .ok _ => 0
  | .short => 5
  | .form => 4
def GS.adv (L : List UInt8) (k : Nat) : GS → GS
  | .ok q => if q + k ≤ L.length then .ok (q + k) else .short
  | x => x
abbrev sideG (gg : Nat) : Value := .iface 80 (.pointer (some ⟨gg, 0, none⟩))
structure GU (w : World) (gg gc gb : Nat) (L : List UInt8) (st : GS) : Prop where
  box : bk w gg = some (.cells #[.pointer (some ⟨gc, 0, none⟩), .int .i64 ((st.err : Nat) : Int)] 84 (0, 0))
  pk : ∃ p, PK w gc gb L p ∧ ∀ q, st = .ok q → p = some q
  pb : PB w gb L
  bc : gb < gc
  cg : gc ≠ gg
  bg : gb ≠ gg
def Fg (gg gc k : Nat) : Prop := k = gg ∨ k = gc
theorem PK.keepT {F : Nat → Prop} {w w' : World} {gc gb : Nat} {L : List UInt8} {p : Option Nat} (h : PK w gc gb L p) (ht : Tn F w w') (hF : ¬ F gc) : PK w' gc gb L p := by
  obtain ⟨cs, hb⟩ := h.obj
  exact h.keep (ht.old gc (bk_lt hb) hF)
theorem PB.keepT {F : Nat → Prop} {w w' : World} {gb : Nat} {L : List UInt8} (h : PB w gb L) (ht : Tn F w w') (hF : ¬ F gb) : PB w' gb L := h.keep fun hlt => ht.old gb hlt hF
theorem GU.keep {F : Nat → Prop} {w w' : World} {gg gc gb : Nat} {L : List UInt8} {st : GS} (h : GU w gg gc gb L st) (ht : Tn F w w') (h1 : ¬ F gg) (h2 : ¬ F gc) (h3 : ¬ F gb) : GU w' gg gc gb L st := by
  obtain ⟨p, hp, hq⟩ := h.pk
  exact ⟨ht.keep h1 h.box, ⟨p, hp.keepT ht h2, hq⟩, h.pb.keepT ht h3, h.bc, h.cg, h.bg⟩
theorem GU.below {w w' : World} {gg gc gb : Nat} {L : List UInt8} {st : GS} (h : GU w gg gc gb L st) (hb : Below w.heap.size w w') : GU w' gg gc gb L st := h.keep (Tn.of (F := fun _ => False) hb) (fun e => e) (fun e => e) (fun e => e)
theorem GU.lt {w : World} {gg gc gb : Nat} {L : List UInt8} {st : GS} (h : GU w gg gc gb L st) : gg < w.heap.size ∧ gc < w.heap.size := by
  obtain ⟨p, hp, _⟩ := h.pk
  obtain ⟨cs, hb⟩ := hp.obj
  exact ⟨bk_lt h.box, bk_lt hb⟩
theorem pbadK {w : World} {gc gb : Nat} {L : List UInt8} {p : Option Nat} (h : PK w gc gb L p) : Calls Try.prog 122 #[.pointer (some ⟨gc, 0, none⟩)] w fun e w' => e = .returned (.bool p.isNone) ∧ w = w' := by
  cases p with
  | none => obtain ⟨A, N, c, hb⟩ := h; exact bad_any gc N c A false w hb
  | some q => obtain ⟨_, A, c, hb, _⟩ := h; exact bad_any gc _ c A true w hb
/-- What was wrong first. -/
def fal (wr : Bool) (e0 x : Nat) : Nat := if wr = true ∧ e0 = 0 then x else e0
theorem gfails (gg : Nat) (v : Value) (e0 x : Nat) (wr : Bool) (w : World) (h : bk w gg = some (.cells #[v, .int .i64 (e0 : Int)] 84 (0, 0))) :
    Calls Try.prog 121 #[.pointer (some ⟨gg, 0, none⟩), .bool wr, .int .i64 (x : Int)] w fun e w' => e = .returned (.tuple #[]) ∧ bk w' gg = some (.cells #[v, .int .i64 ((fal wr e0 x : Nat) : Int)] 84 (0, 0)) ∧ Tn (fun k => k = gg) w w' := by
  have c1 : w.cell? ⟨gg, 1, none⟩ = some (.int .i64 (e0 : Int)) := (bk_cell h 1).trans rfl
  have fr := bk_frozen h 1
  have lg := bk_lt h
  by_cases h0 : wr = true ∧ e0 = 0
  · obtain ⟨rfl, rfl⟩ := h0
    have F : Hid (bk (w.setCell ⟨gg, 1, none⟩ (.int .i64 (x : Int))) gg = some (.cells #[v, .int .i64 (x : Int)] 84 (0, 0)) ∧ Tn (fun k => k = gg) w (w.setCell ⟨gg, 1, none⟩ (.int .i64 (x : Int)))) := Lib.hid ⟨by rw [bk_setCell_same, h]; rfl, (Tn.refl _ _).set (.inl rfl)⟩
    clear h
    go_enter Try.func121, Try.ntmps121
    go_wp2_with fail
    go_end0
    exact ⟨rfl, by show bk _ gg = some (.cells #[v, .int .i64 ((fal true 0 x : Nat) : Int)] 84 (0, 0)); exact F.out.1, F.out.2⟩
  · have F : Hid (bk w gg = some (.cells #[v, .int .i64 ((fal wr e0 x : Nat) : Int)] 84 (0, 0))) := Lib.hid (by unfold fal; rw [if_neg h0]; exact h)
    have hq : ((e0 : Int) == 0) = decide (e0 = 0) := by rw [Bool.eq_iff_iff]; simp
    cases wr with
    | false =>
      clear h h0 hq
      go_enter Try.func121, Try.ntmps121
      go_wp2_with fail
      go_end0
      exact ⟨rfl, F.out, Tn.refl _ _⟩
    | true =>
      have hne : ((e0 : Int) == 0) = false := by rw [hq]; simp at h0; simp [h0]
      clear h h0 hq
      go_enter Try.func121, Try.ntmps121
      go_wp2_with fail
      go_end0
      exact ⟨rfl, F.out, Tn.refl _ _⟩
/-- Behind an ask of the cutter, and what was wrong with it. -/
theorem GU.asked {w w1 w2 : World} {gg gc gb k : Nat} {L : List UInt8} {st : GS} {p p' : Option Nat} (h : GU w gg gc gb L st) (hst : ∀ q, st = .ok q → p = some q) (hp' : p' = posB (k : Int) L p) (hle : ∀ q, p = some q → q ≤ L.length) (h1 : PK w1 gc gb L p') (t1 : Tn (fun j => j = gc) w w1)
    (h2 : bk w2 gg = some (.cells #[.pointer (some ⟨gc, 0, none⟩), .int .i64 ((fal p'.isNone st.err 5 : Nat) : Int)] 84 (0, 0))) (t2 : Tn (fun j => j = gg) w1 w2) :
    GU w2 gg gc gb L (st.adv L k) ∧ Tn (Fg gg gc) w w2 := by
  refine ⟨⟨?_, ⟨p', h1.keepT t2 h.cg, ?_⟩, (h.pb.keepT t1 (fun e => by have := h.bc; omega)).keepT t2 h.bg, h.bc, h.cg, h.bg⟩, (t1.mono fun j e => .inr e).trans t2 fun j e => .inl (.inl e)⟩
  · rw [h2]
    cases st with
    | ok q =>
      have e1 := hst q rfl
      subst e1
      have hq := hle q rfl
      subst hp'
      simp only [posB, GS.adv]
      by_cases hk : q + k ≤ L.length
      · rw [if_neg (show ¬ ((k : Int) < 0 ∨ ((L.length - q : Nat) : Int) < (k : Int)) by omega), if_pos hk]; simp [fal, GS.err]
      · rw [if_pos (show (k : Int) < 0 ∨ ((L.length - q : Nat) : Int) < (k : Int) by omega), if_neg hk]; simp [fal, GS.err]
    | short => simp [GS.adv, GS.err, fal]
    | form => simp [GS.adv, GS.err, fal]
  · intro q hq
    cases st with
    | ok q0 =>
      have e1 := hst q0 rfl
      subst e1
      have hq0 := hle q0 rfl
      subst hp'
      simp only [GS.adv] at hq
      by_cases hk : q0 + k ≤ L.length
      · rw [if_pos hk] at hq
        cases hq
        simp only [posB]
        rw [if_neg (by omega)]
        simp
      · rw [if_neg hk] at hq; cases hq
    | short => cases hq
    | form => cases hq
theorem PK.le {w : World} {gc gb : Nat} {L : List UInt8} {p : Option Nat} (h : PK w gc gb L p) : ∀ q, p = some q → q ≤ L.length := fun q e => by subst e; exact h.1
/-- What a number is, if it is there. -/
def numOk (L : List UInt8) (st : GS) (k V : Nat) : Prop := ∀ q, st = .ok q → q + k ≤ L.length → V = val ((L.drop q).take k)
theorem gnum_get (gg gc gb k : Nat) (L : List UInt8) (st : GS) (w : World) (h : GU w gg gc gb L st) (hk : 1 ≤ k ∧ k ≤ 8) :
    Calls Try.prog 123 #[.pointer (some ⟨gg, 0, none⟩), .int .i64 (k : Int)] w fun e w' => ∃ V : Nat, e = .returned (.int .u64 (V : Int)) ∧ V < 256 ^ k ∧ numOk L st k V ∧ GU w' gg gc gb L (st.adv L k) ∧ Tn (Fg gg gc) w w' := by
  obtain ⟨p, hp, hst⟩ := h.pk
  have hask : ask (k : Int) = k := by unfold ask; rw [if_neg (by omega)]
  have CN := pnum_any gc gb L p k w hp h.pb h.bc
  have HH := Lib.hid h; have HST := Lib.hid hst; have HLE := Lib.hid hp.le
  have c0 : w.cell? ⟨gg, 0, none⟩ = some (.pointer (some ⟨gc, 0, none⟩)) := (bk_cell h.box 0).trans rfl
  have lg := bk_lt h.box
  obtain ⟨V, hV⟩ : ∃ V, V = val (cutB (ask k) (stOf L p)).1 := ⟨_, rfl⟩
  have HV : Hid (V < 256 ^ k ∧ numOk L st k V) := Lib.hid (by
    rw [hask] at hV
    refine ⟨?_, fun q e hq => ?_⟩
    · have h1 := val_lt (cutB (k : Int) (stOf L p)).1
      rw [← hV] at h1
      refine Nat.lt_of_lt_of_le h1 (Nat.pow_le_pow_right (by decide) ?_)
      cases p with
      | none => simp [stOf, cutB]
      | some q =>
        show (cutB (k : Int) (some (L.drop q))).1.length ≤ k
        by_cases hb : (k : Int) < 0 ∨ ((L.drop q).length : Int) < k
        · rw [cutB_bad hb]; simp
        · rw [cutB_good (by omega), List.length_take]; omega
    · have e1 := hst q e
      subst e1
      rw [hV, show stOf L (some q) = some (L.drop q) from rfl, cutB_good (by rw [List.length_drop]; omega)])
  unfold PNum at CN
  rw [← hV, hask] at CN
  obtain ⟨p', hp'⟩ : ∃ p', p' = posB (k : Int) L p := ⟨_, rfl⟩
  rw [← hp'] at CN
  have HP' := Lib.hid hp'
  have C := Lib.hid CN
  clear h hp hst CN hV hp' hask
  go_enter Try.func123, Try.ntmps123
  go_wp2_with fail
  refine C.out.mono ?_
  rintro e w1 ⟨rfl, h1, g1⟩
  have T1 : Hid (Tn (fun j => j = gc) w w1) := Lib.hid (Tn.grown g1 fun j e => by cases e; rfl)
  have kb := T1.out.keep HH.out.cg.symm HH.out.box
  have c0' : w1.cell? ⟨gg, 0, none⟩ = some (.pointer (some ⟨gc, 0, none⟩)) := (bk_cell kb 0).trans rfl
  have lg' := bk_lt kb
  have CB := Lib.hid (pbadK h1)
  have CF := Lib.hid (gfails gg (.pointer (some ⟨gc, 0, none⟩)) st.err 5 p'.isNone w1 kb)
  have H1 := Lib.hid h1
  clear C h1 g1 kb c0
  go_wp2_with fail
  refine CB.out.mono ?_
  rintro e w1' ⟨rfl, rfl⟩
  go_wp2_with fail
  refine CF.out.mono ?_
  rintro e w2 ⟨rfl, k2, t2⟩
  have FX := Lib.hid (HH.out.asked HST.out HP'.out HLE.out H1.out T1.out k2 t2)
  clear CB CF k2 t2 H1 T1
  go_wp2_with fail
  go_ret
  exact ⟨V, rfl, HV.out.1, HV.out.2, FX.out⟩
end Go.Proofs.Ytjimmfbjhkoekaa
/- Icmps: the parts that are got: numbers, noughts, the rest. -/
namespace Go.Proofs.Ytjimmfbjhkoekaa
open Go.RowKit
set_option maxRecDepth 100000
set_option maxHeartbeats 1000000
/-- A block that is written beside. -/
structure Bx (w : World) (gg gc gb b o : Nat) (cur : Array Value) (t : TypeId) : Prop where
  kb : bk w b = some (.cells cur t (0, 0))
  lo : o < cur.size
  n1 : b ≠ gg
  n2 : b ≠ gc
  n3 : b ≠ gb
theorem Bx.turn {w w' : World} {gg gc gb b o : Nat} {cur : Array Value} {t : TypeId} (h : Bx w gg gc gb b o cur t) (ht : Tn (Fg gg gc) w w') : Bx w' gg gc gb b o cur t :=
  ⟨ht.keep (fun e => e.elim h.n1 h.n2) h.kb, h.lo, h.n1, h.n2, h.n3⟩
theorem Bx.cells {w : World} {gg gc gb b o : Nat} {cur : Array Value} {t : TypeId} (h : Bx w gg gc gb b o cur t) : b < w.heap.size ∧ w.frozen? ⟨b, o, none⟩ = false ∧ ∃ u, w.cell? ⟨b, o, none⟩ = some u :=
  ⟨bk_lt h.kb, bk_frozen h.kb o, cur[o]'h.lo, by rw [bk_cell h.kb]; exact Array.getElem?_eq_getElem h.lo⟩
def Got1 (w : World) (gg gc gb b o : Nat) (L : List UInt8) (st' : GS) (cur : Array Value) (t : TypeId) (x : Value) (w' : World) : Prop := GU w' gg gc gb L st' ∧ bk w' b = some (.cells (cur.setIfInBounds o x) t (0, 0)) ∧ Tn (fun j => Fg gg gc j ∨ j = b) w w'
theorem GU.stored {w w1 : World} {gg gc gb b o : Nat} {L : List UInt8} {st' : GS} {cur : Array Value} {t : TypeId} (h1 : GU w1 gg gc gb L st') (t1 : Tn (Fg gg gc) w w1) (hx : Bx w gg gc gb b o cur t) (x : Value) : Got1 w gg gc gb b o L st' cur t x (w1.setCell ⟨b, o, none⟩ x) :=
  ⟨h1.keep (F := fun j => j = b) ((Tn.refl _ _).set (.inl rfl)) hx.n1.symm hx.n2.symm hx.n3.symm, by rw [bk_setCell_same, (hx.turn t1).kb]; rfl, (t1.mono fun j e => .inl e).set (.inl (.inr rfl))⟩
theorem gone (gg gc gb b o : Nat) (L : List UInt8) (st : GS) (cur : Array Value) (t : TypeId) (w : World) (h : GU w gg gc gb L st) (hx : Bx w gg gc gb b o cur t) :
    Calls Try.prog 115 #[.pointer (some ⟨gg, 0, none⟩), .pointer (some ⟨b, o, none⟩)] w fun e w' => ∃ z : UInt8, e = .returned (.tuple #[]) ∧ numOk L st 1 z.toNat ∧ Got1 w gg gc gb b o L (st.adv L 1) cur t (B z) w' := by
  have C := Lib.hid (gnum_get gg gc gb 1 L st w h (by decide))
  have HX := Lib.hid hx
  clear h hx
  go_enter Try.func115, Try.ntmps115
  go_wp2_with fail
  refine C.out.mono ?_
  rintro e w1 ⟨V, rfl, hV, hok, h1, t1⟩
  have hVb : V < 256 := hV
  have F := Lib.hid (fun x => h1.stored t1 HX.out x)
  have HOK := Lib.hid hok
  obtain ⟨q1, q2, u, q3⟩ := (HX.out.turn t1).cells
  clear C hV hok h1 t1
  obtain ⟨z, hz⟩ : ∃ z : UInt8, z.toNat = V := ⟨UInt8.ofNat V, by rw [UInt8.toNat_ofNat']; omega⟩
  subst hz
  go_wp2_with fail
  go_end0
  exact ⟨z, rfl, HOK.out, F.out _⟩
theorem gtwo (gg gc gb b o : Nat) (L : List UInt8) (st : GS) (cur : Array Value) (t : TypeId) (w : World) (h : GU w gg gc gb L st) (hx : Bx w gg gc gb b o cur t) :
    Calls Try.prog 119 #[.pointer (some ⟨gg, 0, none⟩), .pointer (some ⟨b, o, none⟩)] w fun e w' => ∃ V : Nat, V < 65536 ∧ e = .returned (.tuple #[]) ∧ numOk L st 2 V ∧ Got1 w gg gc gb b o L (st.adv L 2) cur t (.int .u16 (V : Int)) w' := by
  have C := Lib.hid (gnum_get gg gc gb 2 L st w h (by decide))
  have HX := Lib.hid hx
  clear h hx
  go_enter Try.func119, Try.ntmps119
  go_wp2_with fail
  refine C.out.mono ?_
  rintro e w1 ⟨V, rfl, hV, hok, h1, t1⟩
  have hVb : V < 65536 := hV
  have F := Lib.hid (fun x => h1.stored t1 HX.out x)
  have HOK := Lib.hid hok
  obtain ⟨q1, q2, u, q3⟩ := (HX.out.turn t1).cells
  clear C hV hok h1 t1
  go_wp2_with fail
  go_end0
  exact ⟨V, hVb, rfl, HOK.out, F.out _⟩
theorem gfour (gg gc gb b o : Nat) (L : List UInt8) (st : GS) (cur : Array Value) (t : TypeId) (w : World) (h : GU w gg gc gb L st) (hx : Bx w gg gc gb b o cur t) :
    Calls Try.prog 113 #[.pointer (some ⟨gg, 0, none⟩), .pointer (some ⟨b, o, none⟩)] w fun e w' => ∃ V : Nat, V < 4294967296 ∧ e = .returned (.tuple #[]) ∧ numOk L st 4 V ∧ Got1 w gg gc gb b o L (st.adv L 4) cur t (.int .u32 (V : Int)) w' := by
  have C := Lib.hid (gnum_get gg gc gb 4 L st w h (by decide))
  have HX := Lib.hid hx
  clear h hx
  go_enter Try.func113, Try.ntmps113
  go_wp2_with fail
  refine C.out.mono ?_
  rintro e w1 ⟨V, rfl, hV, hok, h1, t1⟩
  have hVb : V < 4294967296 := hV
  have F := Lib.hid (fun x => h1.stored t1 HX.out x)
  have HOK := Lib.hid hok
  obtain ⟨q1, q2, u, q3⟩ := (HX.out.turn t1).cells
  clear C hV hok h1 t1
  go_wp2_with fail
  go_end0
  exact ⟨V, hVb, rfl, HOK.out, F.out _⟩
theorem gnought (gg gc gb k : Nat) (L : List UInt8) (st : GS) (w : World) (h : GU w gg gc gb L st) :
    Calls Try.prog 114 #[.pointer (some ⟨gg, 0, none⟩), .int .i64 (k : Int)] w fun e w' => e = .returned (.tuple #[]) ∧ GU w' gg gc gb L (st.adv L k) ∧ Tn (Fg gg gc) w w' := by
  obtain ⟨p, hp, hst⟩ := h.pk
  have CN := pbytes_any gc gb L p k w hp
  have HH := Lib.hid h; have HST := Lib.hid hst; have HLE := Lib.hid hp.le
  have c0 : w.cell? ⟨gg, 0, none⟩ = some (.pointer (some ⟨gc, 0, none⟩)) := (bk_cell h.box 0).trans rfl
  have lg := bk_lt h.box
  obtain ⟨p', hp'⟩ : ∃ p', p' = posB (k : Int) L p := ⟨_, rfl⟩
  obtain ⟨N, hN⟩ : ∃ N, N = (cutB (k : Int) (stOf L p)).1.length := ⟨_, rfl⟩
  have C : Hid (Calls Try.prog 120 #[.pointer (some ⟨gc, 0, none⟩), .int .i64 (k : Int)] w fun e w' => ∃ A, e = .returned (.slice A N N) ∧ PK w' gc gb L p' ∧ w.grownBy w' (some gc)) := Lib.hid (by
    refine CN.mono ?_
    rintro e w' ⟨A, rfl, _, h1, h2⟩
    exact ⟨A, by rw [hN], by rw [hp']; exact h1, h2⟩)
  have HP' := Lib.hid hp'
  clear h hp hst CN hp' hN
  go_enter Try.func114, Try.ntmps114
  go_wp2_with fail
  refine C.out.mono ?_
  rintro e w1 ⟨A, rfl, h1, g1⟩
  have T1 : Hid (Tn (fun j => j = gc) w w1) := Lib.hid (Tn.grown g1 fun j e => by cases e; rfl)
  have kb := T1.out.keep HH.out.cg.symm HH.out.box
  have c0' : w1.cell? ⟨gg, 0, none⟩ = some (.pointer (some ⟨gc, 0, none⟩)) := (bk_cell kb 0).trans rfl
  have lg' := bk_lt kb
  have CB := Lib.hid (pbadK h1)
  have CF := Lib.hid (gfails gg (.pointer (some ⟨gc, 0, none⟩)) st.err 5 p'.isNone w1 kb)
  have H1 := Lib.hid h1
  clear C h1 g1 kb c0
  go_wp2_with fail
  refine CB.out.mono ?_
  rintro e w1' ⟨rfl, rfl⟩
  go_wp2_with fail
  refine CF.out.mono ?_
  rintro e w2 ⟨rfl, k2, t2⟩
  have FX := Lib.hid (HH.out.asked HST.out HP'.out HLE.out H1.out T1.out k2 t2)
  clear CB CF k2 t2 H1 T1
  go_wp2_with fail
  go_end0
  exact ⟨rfl, FX.out⟩
theorem gover (gg gc gb b o : Nat) (x : UInt8) (L : List UInt8) (st : GS) (w : World) (h : GU w gg gc gb L st) (hc : w.cell? ⟨b, o, none⟩ = some (.int .u8 (x.toNat : Int))) (_hb : b < w.heap.size) :
    Calls Try.prog 117 #[.pointer (some ⟨gg, 0, none⟩), .pointer (some ⟨b, o, none⟩)] w fun e w' => e = .returned (.tuple #[]) ∧ GU w' gg gc gb L (st.adv L (4 * x.toNat)) ∧ Tn (Fg gg gc) w w' := by
  have hx8 := x.toNat_lt
  obtain ⟨k, hk⟩ : ∃ k, k = 4 * x.toNat := ⟨_, rfl⟩
  have hki : Hid (4 * (x.toNat : Int) = (k : Int)) := Lib.hid (by omega)
  have C := Lib.hid (gnought gg gc gb k L st w h)
  rw [← hk]
  clear h hk
  go_enter Try.func117, Try.ntmps117
  go_wp2_with fail
  rw [hki.out]
  refine C.out.mono ?_
  rintro e w1 ⟨rfl, h1, t1⟩
  have F := Lib.hid (And.intro h1 t1)
  clear C h1 t1
  go_wp2_with fail
  go_end0
  exact ⟨rfl, F.out⟩
def GS.cnt (L : List UInt8) : GS → GS
  | .ok q => if q + 2 ≤ L.length then (if 64 < val ((L.drop q).take 2) then .form else .ok (q + 2)) else .short
  | x => x
def cntOk (L : List UInt8) (st : GS) (N : Nat) : Prop := ∀ q, st = .ok q → q + 2 ≤ L.length → val ((L.drop q).take 2) ≤ 64 → N = val ((L.drop q).take 2)
theorem cnt_err (L : List UInt8) (st : GS) (V : Nat) (hV : numOk L st 2 V) : fal (decide (64 < V)) (st.adv L 2).err 4 = (st.cnt L).err ∧ (∀ q, st.cnt L = .ok q → st.adv L 2 = .ok q) ∧ ((st.cnt L).err = 0 → V ≤ 64) ∧ ((st.cnt L).err = 0 → ∃ q, st.cnt L = .ok q) := by
  cases st with
  | ok q =>
    simp only [GS.adv, GS.cnt]
    by_cases h2 : q + 2 ≤ L.length
    · have e := hV q rfl h2
      rw [if_pos h2, if_pos h2, ← e]
      by_cases h64 : 64 < V
      · rw [if_pos h64]; simp [fal, GS.err, h64]
      · rw [if_neg h64]; simp [fal, GS.err, h64]; omega
    · rw [if_neg h2, if_neg h2]; simp [fal, GS.err]
  | short => simp [GS.adv, GS.cnt, GS.err, fal]
  | form => simp [GS.adv, GS.cnt, GS.err, fal]
theorem GU.counted {w w1 w2 : World} {gg gc gb V : Nat} {L : List UInt8} {st : GS} (h1 : GU w1 gg gc gb L (st.adv L 2)) (hV : numOk L st 2 V) (t1 : Tn (Fg gg gc) w w1)
    (h2 : bk w2 gg = some (.cells #[.pointer (some ⟨gc, 0, none⟩), .int .i64 ((fal (decide (64 < V)) (st.adv L 2).err 4 : Nat) : Int)] 84 (0, 0))) (t2 : Tn (fun j => j = gg) w1 w2) :
    GU w2 gg gc gb L (st.cnt L) ∧ Tn (Fg gg gc) w w2 := by
  obtain ⟨p, hp, hq⟩ := h1.pk
  obtain ⟨e1, e2, _⟩ := cnt_err L st V hV
  exact ⟨⟨by rw [← e1]; exact h2, ⟨p, hp.keepT t2 h1.cg, fun q e => hq q (e2 q e)⟩, h1.pb.keepT t2 h1.bg, h1.bc, h1.cg, h1.bg⟩, t1.trans t2 fun j e => .inl (.inl e)⟩
/-- How many a list is told to be. -/
def CntN (L : List UInt8) (st : GS) (N : Nat) : Prop := N ≤ 64 ∧ ∀ q, st = .ok q → q + 2 ≤ L.length → val ((L.drop q).take 2) ≤ 64 → N = val ((L.drop q).take 2)
theorem gcount (gg gc gb : Nat) (z : Int) (L : List UInt8) (st : GS) (w : World) (h : GU w gg gc gb L st) :
    Calls Try.prog 112 #[.pointer (some ⟨gg, 0, none⟩), .int .i64 z] w fun e w' => ∃ N : Nat, e = .returned (.int .i64 (N : Int)) ∧ CntN L st N ∧ GU w' gg gc gb L (st.cnt L) ∧ Tn (Fg gg gc) w w' := by
  have C := Lib.hid (gnum_get gg gc gb 2 L st w h (by decide))
  clear h
  go_enter Try.func112, Try.ntmps112
  go_wp2_with fail
  refine C.out.mono ?_
  rintro e w1 ⟨V, rfl, hV, hok, h1, t1⟩
  have hVb : V < 65536 := hV
  have H1 := Lib.hid (And.intro h1 t1)
  have HOK := Lib.hid hok
  clear C hV hok h1 t1
  by_cases h64 : 64 < V
  · have d1 : decide ((64 : Int) < (V : Int)) = true := by simp; omega
    have d2 : decide (64 < V) = true := by simp; omega
    have CF : Hid (Calls Try.prog 121 #[.pointer (some ⟨gg, 0, none⟩), .bool true, .int .i64 4] w1 fun e w' => e = .returned (.tuple #[]) ∧ GU w' gg gc gb L (st.cnt L) ∧ Tn (Fg gg gc) w w') := Lib.hid (by
      refine (gfails gg (.pointer (some ⟨gc, 0, none⟩)) (st.adv L 2).err 4 true w1 H1.out.1.box).mono ?_
      rintro e w' ⟨rfl, k2, t2⟩
      have e3 : decide (64 < V) = true := by simp; omega
      exact ⟨rfl, H1.out.1.counted HOK.out H1.out.2 (by rw [e3]; exact k2) t2⟩)
    have HE := Lib.hid (cnt_err L st V HOK.out)
    have HN1 : Hid (V ≤ 64 → CntN L st V) := Lib.hid fun hv => ⟨hv, fun q e h2 _ => HOK.out q e h2⟩
    clear H1 HOK
    go_wp2_with fail
    refine CF.out.mono ?_
    rintro e w2 ⟨rfl, h2, t2⟩
    have F := Lib.hid (And.intro h2 t2)
    have c1 : w2.cell? ⟨gg, 1, none⟩ = some (.int .i64 (((st.cnt L).err : Nat) : Int)) := (bk_cell h2.box 1).trans rfl
    have l1 := bk_lt h2.box
    clear CF h2 t2
    obtain ⟨E, hE⟩ : ∃ E, E = (st.cnt L).err := ⟨_, rfl⟩
    have hE0 : E ≠ 0 := fun e => by have := HE.out.2.2.1 (by rw [← hE]; exact e); omega
    rw [← hE] at c1
    have n1 : ((E : Int) != 0) = true := by simp; omega
    have HZ : Hid (CntN L st 0) := Lib.hid ⟨by omega, fun q e h2 h3 => by
      exfalso
      have : (st.cnt L).err = 0 := by rw [e]; simp only [GS.cnt]; rw [if_pos h2, if_neg (by omega)]; rfl
      exact hE0 (by rw [hE]; exact this)⟩
    clear hE hE0 HE HN1
    go_wp2_with fail
    go_ret
    exact ⟨0, rfl, HZ.out, F.out⟩
  · have d1 : decide ((64 : Int) < (V : Int)) = false := by simp; omega
    have d2 : decide (64 < V) = false := by simp; omega
    have CF : Hid (Calls Try.prog 121 #[.pointer (some ⟨gg, 0, none⟩), .bool false, .int .i64 4] w1 fun e w' => e = .returned (.tuple #[]) ∧ GU w' gg gc gb L (st.cnt L) ∧ Tn (Fg gg gc) w w') := Lib.hid (by
      refine (gfails gg (.pointer (some ⟨gc, 0, none⟩)) (st.adv L 2).err 4 false w1 H1.out.1.box).mono ?_
      rintro e w' ⟨rfl, k2, t2⟩
      have e3 : decide (64 < V) = false := by simp; omega
      exact ⟨rfl, H1.out.1.counted HOK.out H1.out.2 (by rw [e3]; exact k2) t2⟩)
    have HE := Lib.hid (cnt_err L st V HOK.out)
    have HN1 : Hid (V ≤ 64 → CntN L st V) := Lib.hid fun hv => ⟨hv, fun q e h2 _ => HOK.out q e h2⟩
    clear H1 HOK
    go_wp2_with fail
    refine CF.out.mono ?_
    rintro e w2 ⟨rfl, h2, t2⟩
    have F := Lib.hid (And.intro h2 t2)
    have c1 : w2.cell? ⟨gg, 1, none⟩ = some (.int .i64 (((st.cnt L).err : Nat) : Int)) := (bk_cell h2.box 1).trans rfl
    have l1 := bk_lt h2.box
    clear CF h2 t2
    obtain ⟨E, hE⟩ : ∃ E, E = (st.cnt L).err := ⟨_, rfl⟩
    rw [← hE] at c1
    by_cases hE0 : E = 0
    · have n1 : ((E : Int) != 0) = false := by simp [hE0]
      have HZ := Lib.hid (HN1.out (by omega))
      clear hE hE0 HE HN1
      go_wp2_with fail
      go_ret
      exact ⟨V, rfl, HZ.out, F.out⟩
    · have n1 : ((E : Int) != 0) = true := by simp; omega
      have HZ : Hid (CntN L st 0) := Lib.hid ⟨by omega, fun q e h2 h3 => by
        exfalso
        have : (st.cnt L).err = 0 := by rw [e]; simp only [GS.cnt]; rw [if_pos h2, if_neg (by omega)]; rfl
        exact hE0 (by rw [hE]; exact this)⟩
      clear hE hE0 HE HN1
      go_wp2_with fail
      go_ret
      exact ⟨0, rfl, HZ.out, F.out⟩
end Go.Proofs.Ytjimmfbjhkoekaa
/- Icmps: an address, and the rest, that are got. -/
namespace Go.Proofs.Ytjimmfbjhkoekaa
open Go.RowKit
set_option maxRecDepth 100000
set_option maxHeartbeats 1000000
theorem step_copyS {P : Program} {w : World} {ops : Array Oper} {op : Oper} {a : Act} {K : Act → World → Prop} {Q : Exit → Act → World → Prop} {E : Prop} (hgd : op.guard = none) (d s : Operand) (dT sT : TypeId)
    (ho : op.op = .call { callee := .builtin .copy, args := #[d, s], argTypes := #[dT, sT] }) (elem : TypeId) (sz : Nat) (hu : P.underlying dT = some (.slice elem)) (hsz : (P.info? elem).map (·.size) = some sz)
    (dp sp : Option Addr) (dLen dCap sLen sCap : Nat) (hd : a.eval d = .slice dp dLen dCap) (hs : a.eval s = .slice sp sLen sCap) (g o : Nat) (cur : Array Value) (t : TypeId) (hg : bk w g = some (.cells cur t (0, 0)))
    (cs : List Value) (hn : cs.length = Nat.min sLen dLen * sz) (hpos : 0 < Nat.min sLen dLen → dp = some ⟨g, o, none⟩ ∧ ∃ ad, sp = some ad ∧ ∀ j v, cs[j]? = some v → w.cell? (ad.add j) = some v) (hfit : o + cs.length ≤ cur.size) (h1 : ∀ v ∈ cs, v.oneCell' = true)
    (h : K (a.put op.dst (goInt (Nat.min sLen dLen))) (w.setRow g (spl cur.toList o cs))) : if Region.wanted op (yielded ops a.tmps) = true then Oper.wp P op a w K Q else E := by
  have hw : Region.wanted op (yielded ops a.tmps) = true := by simp [Region.wanted, hgd]
  rw [if_pos hw]
  have hrun := run_copyS (P := P) w dT sT op.type elem sz hu hsz dp sp dLen dCap sLen sCap g o cur t hg cs hn hpos hfit h1
  unfold Oper.wp
  simp [execOp, ho, resolve, invoke, builtin, hd, hs, hrun, Result.andThen]
  exact h
def adrOk (L : List UInt8) (st : GS) (z : List UInt8) : Prop := ∀ q, st = .ok q → q + 16 ≤ L.length → z = (L.drop q).take 16
def Got16 (w : World) (gg gc gb b o : Nat) (L : List UInt8) (st' : GS) (cur : Array Value) (t : TypeId) (z : List UInt8) (w' : World) : Prop := GU w' gg gc gb L st' ∧ bk w' b = some (.cells (spl cur.toList o (z.map B)) t (0, 0)) ∧ Tn (fun j => Fg gg gc j ∨ j = b) w w'
theorem grown_T {w w' : World} {g : Nat} (h : w.grownBy w' (some g)) : Tn (fun j => j = g) w w' := Tn.grown h fun j e => by cases e; rfl
theorem min16 {bs : List UInt8} (h : bs = [] ∨ bs.length = 16) : (bs.map B).length = Nat.min bs.length 16 * 1 ∧ (0 < Nat.min bs.length 16 → 0 < bs.length) ∧ (bs.map B).length ≤ 16 := by
  rcases h with rfl | h
  · exact ⟨rfl, fun h => h, by simp⟩
  · rw [List.length_map, h]; exact ⟨rfl, fun _ => by omega, by omega⟩
theorem GU.asked2 {G : Nat → Prop} {w w1 w2 : World} {gg gc gb k : Nat} {L : List UInt8} {st : GS} {p p' : Option Nat} (h : GU w gg gc gb L st) (hst : ∀ q, st = .ok q → p = some q) (hp' : p' = posB (k : Int) L p) (hle : ∀ q, p = some q → q ≤ L.length) (h1 : PK w1 gc gb L p') (t1 : Tn (fun j => j = gc) w w1)
    (h2 : bk w2 gg = some (.cells #[.pointer (some ⟨gc, 0, none⟩), .int .i64 ((fal p'.isNone st.err 5 : Nat) : Int)] 84 (0, 0))) (t2 : Tn G w1 w2) (hG1 : ¬ G gc) (hG2 : ¬ G gb) :
    GU w2 gg gc gb L (st.adv L k) ∧ Tn (fun j => j = gc ∨ G j) w w2 := by
  have kb := t1.keep h.cg.symm h.box
  have hw : bk (w1.setRow gg #[.pointer (some ⟨gc, 0, none⟩), .int .i64 ((fal p'.isNone st.err 5 : Nat) : Int)]) gg = some (.cells #[.pointer (some ⟨gc, 0, none⟩), .int .i64 ((fal p'.isNone st.err 5 : Nat) : Int)] 84 (0, 0)) := by rw [bk_setRow_same, kb]; rfl
  obtain ⟨e1, _⟩ := h.asked hst hp' hle h1 t1 hw ((Tn.refl _ _).setRow (.inl rfl))
  obtain ⟨p2, hp2, hq2⟩ := e1.pk
  have hb := e1.box
  rw [hw] at hb
  have e := (Array.mk.inj (Obj.cells.inj (Option.some.inj hb)).1)
  refine ⟨⟨?_, ⟨p', h1.keepT t2 hG1, ?_⟩, (h.pb.keepT t1 (fun e => by have := h.bc; omega)).keepT t2 hG2, h.bc, h.cg, h.bg⟩, (t1.mono fun j e => .inl e).trans t2 fun j e => .inl (.inr e)⟩
  · rw [h2]
    simp at e
    rw [e]
  · intro q hq
    cases st with
    | ok q0 =>
      have e1 := hst q0 rfl
      subst e1
      have hq0 := hle q0 rfl
      subst hp'
      simp only [GS.adv] at hq
      by_cases hk : q0 + k ≤ L.length
      · rw [if_pos hk] at hq
        cases hq
        simp only [posB]
        rw [if_neg (by omega)]
        simp
      · rw [if_neg hk] at hq; cases hq
    | short => cases hq
    | form => cases hq
theorem gaddr (gg gc gb b o : Nat) (zo : List UInt8) (L : List UInt8) (st : GS) (cur : Array Value) (t : TypeId) (w : World) (h : GU w gg gc gb L st) (hx : Bx w gg gc gb b o cur t) (hfit : o + 16 ≤ cur.size) (hzo : zo.length = 16) (hz : spl cur.toList o (zo.map B) = cur) :
    Calls Try.prog 111 #[.pointer (some ⟨gg, 0, none⟩), .pointer (some ⟨b, o, none⟩)] w fun e w' => ∃ z, z.length = 16 ∧ e = .returned (.tuple #[]) ∧ adrOk L st z ∧ Got16 w gg gc gb b o L (st.adv L 16) cur t z w' := by
  obtain ⟨p, hp, hst⟩ := h.pk
  have HH := Lib.hid h; have HST := Lib.hid hst; have HLE := Lib.hid hp.le; have HX := Lib.hid hx
  have bd : Below w.heap.size w w.drew := (by (repeat (first | exact Below.refl _ _ | assumption | refine Below.drew ?_ | refine bdrewN ?_ _ | refine Below.alloc ?_ (by first | omega | (simp <;> omega) | (simp only [World.size_alloc] <;> omega)) _ | refine below_setRow ?_ (by first | omega | (simp <;> omega)) _ | refine Below.setCell ?_ (by first | omega | (simp <;> omega)) _)))
  have pd : PK w.drew gc gb L p := hp.keep rfl
  have CN := pbytes_any gc gb L p 16 w.drew pd
  have c0 : w.drew.cell? ⟨gg, 0, none⟩ = some (.pointer (some ⟨gc, 0, none⟩)) := (bk_cell h.box 0).trans rfl
  have lg : gg < w.drew.heap.size := bk_lt h.box
  obtain ⟨p', hp'⟩ : ∃ p', p' = posB (16 : Int) L p := ⟨_, rfl⟩
  obtain ⟨bs, hbs⟩ : ∃ bs, bs = (cutB 16 (stOf L p)).1 := ⟨_, rfl⟩
  have HBS : Hid ((bs = [] ∨ bs.length = 16) ∧ ∀ q, st = .ok q → q + 16 ≤ L.length → bs = (L.drop q).take 16 ∧ bs.length = 16) := Lib.hid (by
    have key : ∀ q, p = some q → (q + 16 ≤ L.length → bs = (L.drop q).take 16 ∧ bs.length = 16) ∧ (¬ q + 16 ≤ L.length → bs = []) := fun q e => by
      subst e
      have hq := hp.le q rfl
      refine ⟨fun h2 => ?_, fun h2 => ?_⟩
      · have e1 : cutB (16 : Int) (stOf L (some q)) = ((L.drop q).take 16, some ((L.drop q).drop 16)) := cutB_good (n := 16) (by rw [List.length_drop]; omega)
        rw [hbs, e1]
        exact ⟨rfl, by rw [List.length_take, List.length_drop]; omega⟩
      · have e1 : cutB (16 : Int) (stOf L (some q)) = ([], none) := cutB_bad (by rw [List.length_drop]; omega)
        rw [hbs, e1]
    refine ⟨?_, fun q e h2 => (key q (hst q e)).1 h2⟩
    cases p with
    | none => exact .inl (by rw [hbs]; rfl)
    | some q =>
      by_cases h2 : q + 16 ≤ L.length
      · exact .inr ((key q rfl).1 h2).2
      · exact .inl ((key q rfl).2 h2))
  have C : Hid (Calls Try.prog 120 #[.pointer (some ⟨gc, 0, none⟩), .int .i64 16] w.drew fun e w' => ∃ A, e = .returned (.slice A bs.length bs.length) ∧ PK w' gc gb L p' ∧ w.drew.grownBy w' (some gc) ∧ (0 < bs.length → ∃ ad, A = some ad ∧ ∀ j v, (bs.map B)[j]? = some v → w'.cell? (ad.add j) = some v)) := Lib.hid (by
    refine CN.mono ?_
    rintro e w' ⟨A, rfl, h0, h1, h2⟩
    rw [← hbs] at h0
    refine ⟨A, by rw [hbs], by rw [hp']; exact h1, h2, fun hl => ?_⟩
    obtain ⟨q, e1, rfl, _, _, e2⟩ := h0 hl
    have hpb : PB w' gb L := (h.pb.keepT (Tn.of (F := fun _ => False) bd) (fun e => e)).grown h2 (fun e => by have := h.bc; omega)
    have hrd := hpb.rd (q := q) (m := bs.length) (n := gb + 1) (by omega)
    rw [← e2] at hrd
    exact ⟨_, rfl, hrd.news⟩)
  have HP' := Lib.hid hp'; have HZ := Lib.hid (And.intro hzo hz); have HFIT := Lib.hid hfit
  clear h hp hst CN hp' hbs hx hzo hz hfit pd bd
  go_enter Try.func111, Try.ntmps111
  go_upto_region 0 with fail
  have lb : b < w.drew.heap.size := bk_lt HX.out.kb
  have HXD : Hid (bk w.drew b = some (.cells cur t (0, 0))) := HX.out.kb
  go_region_law (first
    | (go_simp; go_at_call 120; with_reducible refine C.out.mono ?_; rintro e w1 ⟨A, rfl, h1, g1, hcs⟩; have H1 := Lib.hid h1; have T1 := Lib.hid (grown_T g1); have HCS := Lib.hid hcs; have kb1 := T1.out.keep HX.out.n2 HXD.out; have KB1 := Lib.hid kb1; have HN := Lib.hid (min16 HBS.out.1); clear h1 g1 hcs kb1 C)
    | (refine step_copyS rfl _ _ _ _ rfl 5 1 Try.underlying27 (by kernel_rfl) (some ⟨b, o, none⟩) A 16 16 bs.length bs.length rfl rfl b o cur t KB1.out (bs.map B) HN.out.1 (fun h0 => ⟨rfl, HCS.out (HN.out.2.1 h0)⟩) (Nat.le_trans (Nat.add_le_add_left HN.out.2.2 o) HFIT.out) (ones_mem (ones_map _)) ?_))
  all_goals
    obtain ⟨z, hz16, hzok, hzc⟩ : ∃ z : List UInt8, z.length = 16 ∧ adrOk L st z ∧ spl cur.toList o (z.map B) = spl cur.toList o (bs.map B) := by
      rcases HBS.out.1 with h0 | h0
      · refine ⟨zo, HZ.out.1, fun q e h2 => ?_, ?_⟩
        · have := (HBS.out.2 q e h2).2; rw [h0] at this; simp at this
        · rw [HZ.out.2, h0]; simp [spl, List.take_append_drop]
      · exact ⟨bs, h0, fun q e h2 => (HBS.out.2 q e h2).1, rfl⟩
    have HZZ := Lib.hid (And.intro hz16 (And.intro hzok hzc))
    have kb2 : bk (w1.setRow b (spl cur.toList o (bs.map B))) b = some (.cells (spl cur.toList o (bs.map B)) t (0, 0)) := by rw [bk_setRow_same, KB1.out]; rfl
    have t2 : Tn (fun j => j = b) w1 (w1.setRow b (spl cur.toList o (bs.map B))) := (Tn.refl _ _).setRow (.inl rfl)
    have TB := Lib.hid t2; have KB2 := Lib.hid kb2
    have kg1 := T1.out.keep HH.out.cg.symm HH.out.box
    have kg2 := t2.keep HX.out.n1.symm kg1
    have pk2 := H1.out.keepT t2 HX.out.n2.symm
    clear hz16 hzok hzc kb2 t2 kg1 c0 lb lg
    generalize w1.setRow b (spl cur.toList o (bs.map B)) = w2 at *
    have c0' : w2.cell? ⟨gg, 0, none⟩ = some (.pointer (some ⟨gc, 0, none⟩)) := (bk_cell kg2 0).trans rfl
    have lg' := bk_lt kg2
    have CB := Lib.hid (pbadK pk2)
    have CF := Lib.hid (gfails gg (.pointer (some ⟨gc, 0, none⟩)) st.err 5 p'.isNone w2 kg2)
    clear kg2 pk2
    go_wp2_with fail
    refine CB.out.mono ?_
    rintro e w2' ⟨rfl, rfl⟩
    go_wp2_with fail
    refine CF.out.mono ?_
    rintro e w3 ⟨rfl, k3, t3⟩
    have tt : Tn (fun j => j = b ∨ j = gg) w1 w3 := (TB.out.mono fun j e => .inl e).trans t3 fun j e => .inl (.inr e)
    have hTD : Tn (fun j => j = gc) w w1 := (Tn.of (F := fun j => j = gc) (show Below w.heap.size w w.drew from (by (repeat (first | exact Below.refl _ _ | assumption | refine Below.drew ?_ | refine bdrewN ?_ _ | refine Below.alloc ?_ (by first | omega | (simp <;> omega) | (simp only [World.size_alloc] <;> omega)) _ | refine below_setRow ?_ (by first | omega | (simp <;> omega)) _ | refine Below.setCell ?_ (by first | omega | (simp <;> omega)) _))))).trans T1.out fun j e => .inl e
    obtain ⟨f1, f2⟩ := HH.out.asked2 (k := 16) HST.out HP'.out HLE.out H1.out hTD k3 tt (fun e => e.elim (fun e => HX.out.n2 e.symm) HH.out.cg) (fun e => e.elim (fun e => HX.out.n3 e.symm) HH.out.bg)
    have FX : Hid (Got16 w gg gc gb b o L (st.adv L 16) cur t z w3) := Lib.hid ⟨f1, by rw [HZZ.out.2.2]; exact t3.keep HX.out.n1 KB2.out, f2.mono fun j e => by
      rcases e with e | e | e
      · exact .inl (.inr e)
      · exact .inr e
      · exact .inl (.inl e)⟩
    clear CB CF k3 t3 tt f1 f2 hTD
    go_wp2_with fail
    go_end0
    exact ⟨z, HZZ.out.1, rfl, HZZ.out.2.1, FX.out⟩
end Go.Proofs.Ytjimmfbjhkoekaa
/- Icmps: the rest that is got; append of one element, of whatever type, to a row of one's own. -/
namespace Go.Proofs.Ytjimmfbjhkoekaa
open Go.RowKit
set_option maxRecDepth 100000
set_option maxHeartbeats 1000000
theorem own_slG {w : World} {e : TypeId} {s n m : Nat} {v : Value} {xs : List Value} (h : w.ownsRow n e s v m xs) : ∃ A c, v = .slice A m c ∧ m ≤ c ∧ (c < 2 ^ 63) := by
  rcases h.2 with ⟨q, q1⟩ | ⟨_, c, _, q, _, _, q2, q3, _⟩
  · exact ⟨none, 0, by rw [q, q1], by omega, by decide⟩
  · exact ⟨_, c, q, q2, by unfold maxLen at q3; omega⟩
/-- What an append of one needs of a type. -/
structure App1 (t e : TypeId) (z : Value) (s bytes : Nat) : Prop where
  ht : Try.prog.underlying t = some (.slice e)
  hi : (Try.prog.info? e).map (fun i => (i.zero, i.size, i.bytes)) = some (some z, s, bytes)
  hz : z.cells.size = s
  h0 : 0 < s
  hb : bytes ≤ 1024
theorem run_app1 {t e : TypeId} {z : Value} {s bytes : Nat} (T : App1 t e z s bytes) {w : World} (n : Nat) (v : Value) (k : Nat) (xs : List Value) (hown : w.ownsRow n e s v k xs) (b c : Nat) (news : List Value) (hl : news.length = s) (hb : ∀ j u, news[j]? = some u → w.cell? ⟨b, j, none⟩ = some u) (h1 : ∀ u ∈ news, u.oneCell' = true) (hn : n ≤ w.heap.size) (hk : k < 2 ^ 30) (ty : TypeId) :
    ∃ A' c' w', (Builtin.append_ #[t, t] ty #[v, .slice (some ⟨b, 0, none⟩) 1 c]).run Try.prog w = .ok (.slice A' (k + 1) c') w' ∧ w'.ownsRow n e s (.slice A' (k + 1) c') (k + 1) (xs ++ news) ∧ w.grownBy w' v.ownBlock ∧ k + 1 ≤ c' ∧ ((Value.slice A' (k + 1) c').ownBlock = v.ownBlock ∨ (Value.slice A' (k + 1) c').ownBlock = some w.heap.size) := by
  obtain ⟨i0, hi, hz0, hz1, hz2⟩ := info_parts T.hi
  have hby := T.hb
  have hm : (k + 1) * bytes ≤ (2 ^ 30) * 1024 := Nat.mul_le_mul (by omega) hby
  obtain ⟨v', w', h1', h2, h3, _, h5⟩ := run_append_own_at (P := Try.prog) w n t ty e i0 z s bytes T.ht hi hz0 hz1 hz2 T.hz T.h0 v k xs hown ⟨b, 0, none⟩ 1 c news (by rw [hl]; omega) (fun j u hu => by
    have hj : ((⟨b, 0, none⟩ : Addr).add j) = ⟨b, j, none⟩ := by unfold Addr.add; split <;> simp_all
    rw [hj]; exact hb j u hu) h1 (by unfold maxLen; omega) (by omega) hn
  obtain ⟨A', c', rfl, hc, _⟩ := own_slG h2
  exact ⟨A', c', w', h1', h2, h3, hc, h5⟩
theorem step_app1 {t e : TypeId} {z : Value} {s bytes : Nat} (T : App1 t e z s bytes) {w : World} {ops : Array Oper} {o : Oper} {a : Act} {K : Act → World → Prop} {Q : Exit → Act → World → Prop} {E : Prop} (hgd : o.guard = none) (sl x : Operand)
    (ho : o.op = .call { callee := .builtin .append, args := #[sl, x], argTypes := #[t, t] })
    (n : Nat) (v : Value) (k : Nat) (xs : List Value) (hs : a.eval sl = v) (hown : w.ownsRow n e s v k xs) (b c : Nat) (hx : a.eval x = .slice (some ⟨b, 0, none⟩) 1 c) (news : List Value) (hl : news.length = s) (hb : ∀ j u, news[j]? = some u → w.cell? ⟨b, j, none⟩ = some u) (h1 : ∀ u ∈ news, u.oneCell' = true) (hn : n ≤ w.heap.size) (hk : k < 2 ^ 30)
    (h : ∀ A' c' w', w'.ownsRow n e s (.slice A' (k + 1) c') (k + 1) (xs ++ news) → w.grownBy w' v.ownBlock → k + 1 ≤ c' → ((Value.slice A' (k + 1) c').ownBlock = v.ownBlock ∨ (Value.slice A' (k + 1) c').ownBlock = some w.heap.size) → K (a.put o.dst (.slice A' (k + 1) c')) w') :
    if Region.wanted o (yielded ops a.tmps) = true then Oper.wp Try.prog o a w K Q else E := by
  have hw : Region.wanted o (yielded ops a.tmps) = true := by simp [Region.wanted, hgd]
  rw [if_pos hw]
  obtain ⟨A', c', w', h1', h2, h3, h4, h5⟩ := run_app1 T n v k xs hown b c news hl hb h1 hn hk o.type
  unfold Oper.wp execOp
  simp only [ho, resolve, invoke, builtin, Sem.run_bind, Sem.run_pure, Result.andThen_ok, List.map_toArray, List.map_cons, List.map_nil, hs, hx, h1']
  exact h A' c' w' h2 h3 h4 h5
theorem wpList_app1 {t e : TypeId} {z : Value} {s bytes : Nat} (T : App1 t e z s bytes) {w : World} {ops : Array Oper} {rest : List Oper} {o : Oper} {a : Act} {Q : Exit → Act → World → Prop} (hgd : o.guard = none) (sl x : Operand)
    (ho : o.op = .call { callee := .builtin .append, args := #[sl, x], argTypes := #[t, t] })
    (n : Nat) (v : Value) (k : Nat) (xs : List Value) (hs : a.eval sl = v) (hown : w.ownsRow n e s v k xs) (b c : Nat) (hx : a.eval x = .slice (some ⟨b, 0, none⟩) 1 c) (news : List Value) (hl : news.length = s) (hb : ∀ j u, news[j]? = some u → w.cell? ⟨b, j, none⟩ = some u) (h1 : ∀ u ∈ news, u.oneCell' = true) (hn : n ≤ w.heap.size) (hk : k < 2 ^ 30)
    (h : ∀ A' c' w', w'.ownsRow n e s (.slice A' (k + 1) c') (k + 1) (xs ++ news) → w.grownBy w' v.ownBlock → k + 1 ≤ c' → ((Value.slice A' (k + 1) c').ownBlock = v.ownBlock ∨ (Value.slice A' (k + 1) c').ownBlock = some w.heap.size) → wpList Try.prog ops Q rest (a.put o.dst (.slice A' (k + 1) c')) w') :
    wpList Try.prog ops Q (o :: rest) a w := by
  obtain ⟨A', c', w', h1', h2, h3, h4, h5⟩ := run_app1 T n v k xs hown b c news hl hb h1 hn hk o.type
  refine wpList_plain hgd fun K hK => ?_
  unfold Oper.wp execOp
  simp only [ho, resolve, invoke, builtin, Sem.run_bind, Sem.run_pure, Result.andThen_ok, List.map_toArray, List.map_cons, List.map_nil, hs, hx, h1']
  exact hK _ _ (h A' c' w' h2 h3 h4 h5)
def GS.rst (L : List UInt8) : GS → GS
  | .ok _ => .ok L.length
  | x => x
def restOk (L : List UInt8) (gb : Nat) (st : GS) (A : Option Addr) (m : Nat) : Prop := ∀ q, st = .ok q → q ≤ L.length ∧ m = L.length - q ∧ (q < L.length → A = some ⟨gb, q, none⟩)
theorem grest (gg gc gb b o : Nat) (L : List UInt8) (st : GS) (cur : Array Value) (t : TypeId) (w : World) (h : GU w gg gc gb L st) (hx : Bx w gg gc gb b o cur t) :
    Calls Try.prog 118 #[.pointer (some ⟨gg, 0, none⟩), .pointer (some ⟨b, o, none⟩)] w fun e w' => ∃ A m, e = .returned (.tuple #[]) ∧ restOk L gb st A m ∧ Got1 w gg gc gb b o L (st.rst L) cur t (.slice A m m) w' := by
  obtain ⟨p, hp, hst⟩ := h.pk
  have CN := prest_any gc gb L p w hp
  have HH := Lib.hid h; have HX := Lib.hid hx
  have c0 : w.cell? ⟨gg, 0, none⟩ = some (.pointer (some ⟨gc, 0, none⟩)) := (bk_cell h.box 0).trans rfl
  have lg := bk_lt h.box
  have C : Hid (Calls Try.prog 125 #[.pointer (some ⟨gc, 0, none⟩)] w fun e w' => ∃ A m, e = .returned (.slice A m m) ∧ restOk L gb st A m ∧ GU w' gg gc gb L (st.rst L) ∧ Tn (Fg gg gc) w w') := Lib.hid (by
    refine CN.mono ?_
    rintro e w' ⟨A, rfl, h0, h1, h2⟩
    have t1 := grown_T h2
    refine ⟨A, _, rfl, fun q e => ?_, ⟨?_, ⟨_, h1, fun q e => ?_⟩, h.pb.keepT t1 (fun e => by have := h.bc; omega), h.bc, h.cg, h.bg⟩, t1.mono fun j e => .inr e⟩
    · have e1 := hst q e
      subst e1
      have hq := hp.le q rfl
      have e0 : ((stOf L (some q)).getD []).length = L.length - q := by simp [stOf]
      have e2 : cutB (((stOf L (some q)).getD []).length : Int) (stOf L (some q)) = ((L.drop q).take (L.length - q), some ((L.drop q).drop (L.length - q))) := by rw [e0]; exact cutB_good (by rw [List.length_drop]; exact Nat.le_refl _)
      rw [e2] at h0 ⊢
      have e3 : ((L.drop q).take (L.length - q)).length = L.length - q := by rw [List.length_take, List.length_drop]; omega
      simp only [e3] at h0 ⊢
      refine ⟨hq, trivial, fun hlt => ?_⟩
      obtain ⟨q', hq', hA, _⟩ := h0 (by omega)
      cases hq'
      exact hA
    · rw [show (st.rst L).err = st.err by cases st <;> rfl]
      exact t1.keep h.cg.symm h.box
    · cases st with
      | ok q0 =>
        have e1 := hst q0 rfl
        subst e1
        have hq := hp.le q0 rfl
        have e' : L.length = q := by simpa [GS.rst] using e
        have e0 : ((stOf L (some q0)).getD []).length = L.length - q0 := by simp [stOf]
        rw [e0]
        simp only [posB]
        rw [if_neg (by omega)]
        simp
        omega
      | short => cases e
      | form => cases e)
  clear h hp hst CN hx
  go_enter Try.func118, Try.ntmps118
  go_wp2_with fail
  refine C.out.mono ?_
  rintro e w1 ⟨A, m, rfl, hok, h1, t1⟩
  have F := Lib.hid (fun x => h1.stored t1 HX.out x)
  have HOK := Lib.hid hok
  obtain ⟨q1, q2, u, q3⟩ := (HX.out.turn t1).cells
  clear C hok h1 t1 c0
  go_wp2_with fail
  go_end0
  exact ⟨A, m, rfl, HOK.out, F.out _⟩
end Go.Proofs.Ytjimmfbjhkoekaa
/- Icmps: options.Get, plain; what its walk holds. -/
namespace Go.Proofs.Ytjimmfbjhkoekaa
open Go.RowKit
set_option maxRecDepth 100000
set_option maxHeartbeats 1000000
/-- Options that bytes hold, at most k. -/
def optsG : Nat → List UInt8 → Option (List (UInt8 × List UInt8))
  | _, [] => some []
  | 0, _ :: _ => none
  | k + 1, x :: b => if (x :: b).length < 2 ∨ b.headD 0 = 0 ∨ (x :: b).length < 8 * (b.headD 0).toNat then none else (optsG k ((x :: b).drop (8 * (b.headD 0).toNat))).map fun l => (x, ((x :: b).take (8 * (b.headD 0).toNat)).drop 2) :: l
/-- How options lie in a block. -/
structure LayAt (g q : Nat) (l : List Ov) : Prop where
  at' : ∀ i (h : i < l.length), ∃ o, l[i].A = some ⟨g, o, none⟩ ∧ l[i].c = l[i].d.length ∧ o + l[i].d.length ≤ q
  apart : ∀ i j (hi : i < l.length) (hj : j < l.length), i < j → ∀ o o', l[i].A = some ⟨g, o, none⟩ → l[j].A = some ⟨g, o', none⟩ → o + l[i].d.length ≤ o'
theorem LayAt.nil (g q : Nat) : LayAt g q [] := ⟨fun i h => absurd h (by simp), fun i j hi => absurd hi (by simp)⟩
theorem LayAt.mono {g q q' : Nat} {l : List Ov} (h : LayAt g q l) (hq : q ≤ q') : LayAt g q' l :=
  ⟨fun i hi => by obtain ⟨o, h1, h2, h3⟩ := h.at' i hi; exact ⟨o, h1, h2, by omega⟩, h.apart⟩
theorem LayAt.snoc {g q o : Nat} {l : List Ov} {x : Ov} (h : LayAt g q l) (hA : x.A = some ⟨g, o, none⟩) (hc : x.c = x.d.length) (ho : q ≤ o) : LayAt g (o + x.d.length) (l ++ [x]) := by
  refine ⟨fun i hi => ?_, fun i j hi hj hij a b ha hb => ?_⟩
  · by_cases e : i < l.length
    · rw [List.getElem_append_left e]
      obtain ⟨o', h1, h2, h3⟩ := h.at' i e
      exact ⟨o', h1, h2, by omega⟩
    · have e' : i = l.length := by rw [List.length_append] at hi; simp at hi; omega
      subst e'
      rw [show (l ++ [x])[l.length] = x by simp]
      exact ⟨o, hA, hc, Nat.le_refl _⟩
  · have hil : i < l.length := by rw [List.length_append] at hj; simp at hj; omega
    rw [List.getElem_append_left hil] at ha ⊢
    by_cases e : j < l.length
    · rw [List.getElem_append_left e] at hb
      exact h.apart i j hil e hij a b ha hb
    · have e' : j = l.length := by rw [List.length_append] at hj; simp at hj; omega
      subst e'
      rw [show (l ++ [x])[l.length] = x by simp, hA] at hb
      cases hb
      obtain ⟨o', h1, _, h3⟩ := h.at' i hil
      rw [h1] at ha
      cases ha
      omega
/-- Where the third ask comes to. -/
def nextP (L : List UInt8) (q : Nat) : Option Nat := posB ((val (cutB 1 (stOf L (posB 1 L (some q)))).1 : Int) * 8 - 2) L (posB 1 L (posB 1 L (some q)))
theorem val1 (x : UInt8) : val [x] = x.toNat := by simp [val]
theorem next_case (L : List UInt8) (q k : Nat) (hq : q < L.length) : (nextP L q = none ∧ optsG (k + 1) (L.drop q) = none) ∨
    ∃ m : Nat, q + 1 < L.length ∧ 0 < m ∧ m < 256 ∧ q + 8 * m ≤ L.length ∧ val (cutB 1 (stOf L (posB 1 L (some q)))).1 = m ∧ nextP L q = some (q + 8 * m) ∧ val (cutB 1 (stOf L (some q))).1 = (L[q]'hq).toNat ∧
      (cutB ((m : Int) * 8 - 2) (stOf L (posB 1 L (posB 1 L (some q))))).1 = (L.drop (q + 2)).take (8 * m - 2) ∧ posB 1 L (posB 1 L (some q)) = some (q + 2) ∧
      optsG (k + 1) (L.drop q) = (optsG k (L.drop (q + 8 * m))).map fun l => (L[q]'hq, (L.drop (q + 2)).take (8 * m - 2)) :: l := by
  have e1 : posB 1 L (some q) = some (q + 1) := by
    simp only [posB]
    rw [if_neg (by omega)]
    rfl
  have c1 : cutB 1 (stOf L (some q)) = ((L.drop q).take 1, some ((L.drop q).drop 1)) := cutB_good (n := 1) (by rw [List.length_drop]; omega)
  have d1 : L.drop q = L[q] :: L.drop (q + 1) := List.drop_eq_getElem_cons hq
  by_cases h1 : q + 1 < L.length
  · have d2 : L.drop (q + 1) = L[q + 1] :: L.drop (q + 1 + 1) := List.drop_eq_getElem_cons h1
    have e2 : posB 1 L (some (q + 1)) = some (q + 2) := by
      simp only [posB]
      rw [if_neg (by omega)]
      rfl
    have c2 : cutB 1 (stOf L (some (q + 1))) = ((L.drop (q + 1)).take 1, some ((L.drop (q + 1)).drop 1)) := cutB_good (n := 1) (by rw [List.length_drop]; omega)
    obtain ⟨x, hx⟩ : ∃ x, x = L[q + 1] := ⟨_, rfl⟩
    have v2 : val (cutB 1 (stOf L (posB 1 L (some q)))).1 = x.toNat := by rw [e1, c2, d2, ← hx]; exact val1 x
    have hxl := x.toNat_lt
    have hn : nextP L q = posB ((x.toNat : Int) * 8 - 2) L (some (q + 2)) := by unfold nextP; rw [v2, e1, e2]
    have ho : optsG (k + 1) (L.drop q) = if (L.drop q).length < 2 ∨ x = 0 ∨ (L.drop q).length < 8 * x.toNat then none else (optsG k ((L.drop q).drop (8 * x.toNat))).map fun l => (L[q], ((L.drop q).take (8 * x.toNat)).drop 2) :: l := by
      rw [d1, d2, ← hx]; rfl
    by_cases hb : x = 0 ∨ (L.drop q).length < 8 * x.toNat
    · left
      refine ⟨?_, by rw [ho, if_pos (.inr hb)]⟩
      rw [hn]
      simp only [posB]
      refine if_pos ?_
      rcases hb with rfl | hb
      · left; show (((0 : UInt8).toNat : Int) * 8 - 2 < 0); decide
      · rw [List.length_drop] at hb; right; omega
    · right
      have hx0 : x ≠ 0 := fun e => hb (.inl e)
      have hxp : 0 < x.toNat := Nat.pos_of_ne_zero fun e => hx0 (by apply UInt8.toNat_inj.1; rw [e]; rfl)
      have hle : q + 8 * x.toNat ≤ L.length := by
        have : ¬ (L.drop q).length < 8 * x.toNat := fun e => hb (.inr e)
        rw [List.length_drop] at this; omega
      have ec : (((x.toNat : Nat) : Int) * 8 - 2) = ((8 * x.toNat - 2 : Nat) : Int) := by omega
      refine ⟨x.toNat, h1, hxp, hxl, hle, v2, ?_, ?_, ?_, by rw [e1, e2], ?_⟩
      · rw [hn, ec]
        simp only [posB]
        rw [if_neg (by omega)]
        simp; omega
      · rw [c1, d1]; exact val1 _
      · rw [e1, e2, ec]
        have := cutB_good (n := 8 * x.toNat - 2) (l := L.drop (q + 2)) (by rw [List.length_drop]; omega)
        rw [show stOf L (some (q + 2)) = some (L.drop (q + 2)) from rfl, this]
      · rw [ho, if_neg (by rw [List.length_drop] at hb ⊢; simp only [not_or] at hb ⊢; exact ⟨by omega, hb.1, hb.2⟩), List.drop_drop]
        congr 2
        funext l
        congr 2
        rw [List.drop_take, List.drop_drop]
  · left
    have e2 : posB 1 L (some (q + 1)) = none := by
      simp only [posB]
      rw [if_pos (by omega)]
    refine ⟨by unfold nextP; rw [e1, e2]; rfl, ?_⟩
    have d2 : L.drop (q + 1) = [] := List.drop_of_length_le (by omega)
    rw [d1, d2]
    rfl
end Go.Proofs.Ytjimmfbjhkoekaa

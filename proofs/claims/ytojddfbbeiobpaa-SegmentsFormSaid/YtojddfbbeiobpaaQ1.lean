/- Segments put: the program's. -/
import Derived.Test.YtojddfbbeiobpaaQ0
import Derived.Test.YtojddfbbeiobpaaU5
import Derived.Test.YtojddfbbeiobpaaS30
import Derived.Deep.Onto
import Derived.Deep.DeepCutAuto
namespace Go.Proofs.Ytojddfbbeiobpaa
open Go.RowKit
set_option maxRecDepth 100000
/-- A segment's bytes: its head with a checksum, its option, its Data. -/
def sopt (s : Sg) : List UInt8 := if s.ms = 0 then [] else [2, 4] ++ nb 2 s.ms
def sahd (s : Sg) : Nat := if s.ms = 0 then 20 else 24
def shead (s : Sg) (cs : Nat) : List UInt8 := nb 2 s.f ++ nb 2 s.t ++ nb 4 s.sq ++ nb 4 s.ak ++ [UInt8.ofNat (4 * sahd s), s.fl &&& 63] ++ nb 2 s.wi ++ nb 2 cs ++ [0, 0]
def ssum (src dst : List UInt8) (s : Sg) (l : List UInt8) : Nat := sumOf (ovr src dst 6 (shead s 0 ++ (sopt s ++ l)))
def sgb (src dst : List UInt8) (s : Sg) (l : List UInt8) : List UInt8 := shead s (ssum src dst s l) ++ (sopt s ++ l)
theorem shead_length (s : Sg) (cs : Nat) : (shead s cs).length = 20 := by simp [shead, nb_length]
theorem sopt_length (s : Sg) : 20 + (sopt s).length = sahd s := by unfold sopt sahd; split <;> simp [nb_length]
theorem sgb_length (src dst : List UInt8) (s : Sg) (l : List UInt8) : (sgb src dst s l).length = sahd s + l.length := by
  have := sopt_length s
  simp only [sgb, List.length_append, shead_length]; omega
theorem nb4' (k : Nat) : nb 4 k = [UInt8.ofNat (k / 256 / 256 / 256), UInt8.ofNat (k / 256 / 256), UInt8.ofNat (k / 256), UInt8.ofNat k] := by simp [nb, List.range_succ, Nat.div_div_eq_div_mul]
theorem sset (s : Sg) (c : Nat) (X : List UInt8) : ((shead s 0 ++ X).set 16 (UInt8.ofNat (c / 256))).set 17 (UInt8.ofNat c) = shead s c ++ X := by
  simp only [shead, nb2', nb4', List.cons_append, List.nil_append, List.set_cons_succ, List.set_cons_zero]
theorem sput_end {w : World} {base g cap : Nat} {src dst l L : List UInt8} {s : Sg} {v6 v7 : Value} (h : w.ownsRow base 5 1 (.slice (some ⟨g, 0, none⟩) L.length cap) L.length (L.map B)) (hL : L = shead s 0 ++ (sopt s ++ l))
    (h6 : v6 = B (UInt8.ofNat (ssum src dst s l / 256))) (h7 : v7 = B (UInt8.ofNat (ssum src dst s l))) :
    ((w.setCell ⟨g, 16, none⟩ v6).setCell ⟨g, 17, none⟩ v7).ownsRow base 5 1 (.slice (some ⟨g, 0, none⟩) L.length cap) (sgb src dst s l).length ((sgb src dst s l).map B) := by
  subst h6 h7
  have o1 := own_set (j := 17) (own_set (j := 16) h (UInt8.ofNat (ssum src dst s l / 256))) (UInt8.ofNat (ssum src dst s l))
  have e1 : (L.set 16 (UInt8.ofNat (ssum src dst s l / 256))).set 17 (UInt8.ofNat (ssum src dst s l)) = sgb src dst s l := by rw [hL, sset]; rfl
  have e2 : L.length = (sgb src dst s l).length := by rw [← e1]; simp
  rw [e1, e2] at o1
  rw [e2]
  exact o1
theorem bits_and63 (x : UInt8) : bits BinOp.and IntKind.u8 (x.toNat : Int) 63 = ((x &&& 63).toNat : Int) := by
  have : ∀ a : Fin 256, bits BinOp.and IntKind.u8 (a.1 : Int) 63 = ((UInt8.ofNat a.1 &&& 63).toNat : Int) := by decide +kernel
  have h := this ⟨x.toNat, x.toNat_lt⟩
  simpa using h
theorem sput_long (src dst : List UInt8) (s : Sg) (hs : s.Ok) (A : Option Addr) (n c : Nat) (w : World) (hl : 65535 < sahd s + n) (h63 : n < 2 ^ 62) :
    Calls Try.prog 10 #[av src, av dst, .agg (sgc s A n c)] w fun e w' => e = .returned (.tuple #[.slice none 0 0, .int .i64 3]) ∧ Below w.heap.size w w' := by
  have hms := hs.ms
  have bl : sahd s = 20 ∨ sahd s = 24 := by unfold sahd; split <;> simp
  have hol := sopt_length s
  go_enter Try.func10, Try.ntmps10
  have a0 : Below w.heap.size w (((w.alloc (.cells (src.map B).toArray 23)).alloc (.cells (dst.map B).toArray 23)).alloc (.cells (sgc s A n c) 30)) := (by (repeat (first | exact Below.refl _ _ | assumption | refine Below.drew ?_ | refine bdrewN ?_ _ | refine Below.alloc ?_ (by first | omega | (simp <;> omega) | (simp only [World.size_alloc] <;> omega)) _ | refine below_setRow ?_ (by first | omega | (simp <;> omega)) _ | refine Below.setCell ?_ (by first | omega | (simp <;> omega)) _)))
  have KG : Hid (bk (((w.alloc (.cells (src.map B).toArray 23)).alloc (.cells (dst.map B).toArray 23)).alloc (.cells (sgc s A n c) 30)) (w.heap.size + 1 + 1) = some (.cells (sgc s A n c) 30 (0, 0))) := Lib.hid (bk_alloc_at _ _ _ (by simp))
  have c6 := (bk_cell KG.out 6).trans sgc_6
  have c7 := (bk_cell KG.out 7).trans sgc_7
  have lG := bk_lt KG.out
  go_upto_if 14 with fail
  generalize ((w.alloc (.cells (src.map B).toArray 23)).alloc (.cells (dst.map B).toArray 23)).alloc (.cells (sgc s A n c) 30) = w0 at *
  by_cases hm : s.ms = 0
  · have d1 : decide (0 < (s.ms : Int)) = false := by simp; omega
    have e0 : sahd s = 20 := by unfold sahd; rw [if_pos hm]
    have w1 : IntKind.i64.wrap (20 + (n : Int)) = 20 + (n : Int) := by rw [IntKind.wrap_i64]; omega
    have d2 : decide (65535 < 20 + (n : Int)) = true := by simp; omega
    clear bl hol
    go_wp2_with fail
    refine bodyPost_ret (results_tmp2 rfl _ _ _) rfl ?_
    exact ⟨rfl, a0⟩
  · have d1 : decide (0 < (s.ms : Int)) = true := by simp; omega
    have e0 : sahd s = 24 := by unfold sahd; rw [if_neg hm]
    have w1 : IntKind.i64.wrap (24 + (n : Int)) = 24 + (n : Int) := by rw [IntKind.wrap_i64]; omega
    have d2 : decide (65535 < 24 + (n : Int)) = true := by simp; omega
    clear bl hol
    go_wp2_with fail
    rw [show (#[Value.int IntKind.u8 2, Value.int IntKind.u8 4] : Array Value) = (List.map B [2, 4]).toArray from rfl]
    have a1 := (Below.refl w0.heap.size w0).alloc (Nat.le_refl _) (.cells (List.map B [2, 4]).toArray 5 (0, 0))
    refine (put_any (some ⟨w0.heap.size, 0, none⟩) [2, 4] 2 s.ms 2 (w0.alloc (.cells (List.map B [2, 4]).toArray 5 (0, 0))) (Rd.lit w0 [2, 4] 5) (fun h => by cases h) (by decide) (by omega) (by decide)).mono ?_
    rintro e w1' ⟨g, cur, rfl, _, _, _, _, b1⟩
    have KG1 := bk_keep (a1.trans (b1.mono a1.size)) lG KG.out
    have c7' := (bk_cell KG1 7).trans sgc_7
    have F1 := a0.trans ((a1.trans (b1.mono a1.size)).mono a0.size)
    rw [show ([2, 4] : List UInt8).length + wid 2 = 4 from rfl]
    clear c6 c7 lG b1 a1 KG KG1
    go_wp2_with fail
    refine bodyPost_ret (results_tmp2 rfl _ _ _) rfl ?_
    exact ⟨rfl, F1⟩
set_option maxHeartbeats 1000000 in
theorem sput_any (src dst : List UInt8) (s : Sg) (hs : s.Ok) (A : Option Addr) (l : List UInt8) (c : Nat) (w : World) (h1 : src.length = 16) (h2 : dst.length = 16) (h : Rd w w.heap.size A l) (hA : A = none → l = [] ∧ c = 0) (hl : sahd s + l.length ≤ 65535) :
    Calls Try.prog 10 #[av src, av dst, .agg (sgc s A l.length c)] w fun e w' => ∃ v, e = .returned (.tuple #[v, .int .i64 0]) ∧ w'.ownsRow w.heap.size 5 1 v (sgb src dst s l).length ((sgb src dst s l).map B) ∧ Below w.heap.size w w' := by
  have RI := Lib.hid h; have HA := Lib.hid hA
  clear h hA
  go_enter Try.func10, Try.ntmps10
  have a0 : Below w.heap.size w (((w.alloc (.cells (src.map B).toArray 23)).alloc (.cells (dst.map B).toArray 23)).alloc (.cells (sgc s A l.length c) 30)) := (by (repeat (first | exact Below.refl _ _ | assumption | refine Below.drew ?_ | refine bdrewN ?_ _ | refine Below.alloc ?_ (by first | omega | (simp <;> omega) | (simp only [World.size_alloc] <;> omega)) _ | refine below_setRow ?_ (by first | omega | (simp <;> omega)) _ | refine Below.setCell ?_ (by first | omega | (simp <;> omega)) _)))
  have KS : Hid (bk (((w.alloc (.cells (src.map B).toArray 23)).alloc (.cells (dst.map B).toArray 23)).alloc (.cells (sgc s A l.length c) 30)) w.heap.size = some (.cells (src.map B).toArray 23 (0, 0))) := Lib.hid (by rw [bk_alloc_past _ _ _ (by simp <;> omega), bk_alloc_past _ _ _ (by simp)]; exact bk_alloc_at _ _ _ rfl)
  have KT : Hid (bk (((w.alloc (.cells (src.map B).toArray 23)).alloc (.cells (dst.map B).toArray 23)).alloc (.cells (sgc s A l.length c) 30)) (w.heap.size + 1) = some (.cells (dst.map B).toArray 23 (0, 0))) := Lib.hid (by rw [bk_alloc_past _ _ _ (by simp)]; exact bk_alloc_at _ _ _ (by simp))
  have KG : Hid (bk (((w.alloc (.cells (src.map B).toArray 23)).alloc (.cells (dst.map B).toArray 23)).alloc (.cells (sgc s A l.length c) 30)) (w.heap.size + 1 + 1) = some (.cells (sgc s A l.length c) 30 (0, 0))) := Lib.hid (bk_alloc_at _ _ _ (by simp))
  have F := Lib.hid a0
  replace RI := Lib.hid ((RI.out.below a0 (Nat.le_refl _)).mono a0.size)
  clear a0
  have c6 := (bk_cell KG.out 6).trans sgc_6
  have lG := bk_lt KG.out
  go_upto_if 14 with fail
  generalize ((w.alloc (.cells (src.map B).toArray 23)).alloc (.cells (dst.map B).toArray 23)).alloc (.cells (sgc s A l.length c) 30) = w0 at *
  go_cut [8] (fun s8 wx => ∃ A8 c8, s8 = .slice A8 (sopt s).length c8 ∧ Hid (A8 = none → sopt s = [] ∧ c8 = 0) ∧ Hid (Rd wx wx.heap.size A8 (sopt s)) ∧ Hid (Below w0.heap.size w0 wx))
  case first =>
    have hms := hs.ms
    by_cases hm : s.ms = 0
    · have d1 : decide (0 < (s.ms : Int)) = false := by simp; omega
      have e0 : sopt s = [] := by unfold sopt; rw [if_pos hm]
      have E0 := Lib.hid e0
      clear e0
      go_wp2_with fail
      go_meet
      exact ⟨none, 0, by rw [E0.out]; rfl, Lib.hid fun _ => ⟨E0.out, rfl⟩, Lib.hid (by rw [E0.out]; exact Rd.nil), Lib.hid (Below.refl _ _)⟩
    · have d1 : decide (0 < (s.ms : Int)) = true := by simp; omega
      have e0 : sopt s = [2, 4] ++ nb 2 s.ms := by unfold sopt; rw [if_neg hm]
      have E0 := Lib.hid e0
      clear e0
      go_wp2_with fail
      rw [show (#[Value.int IntKind.u8 2, Value.int IntKind.u8 4] : Array Value) = (List.map B [2, 4]).toArray from rfl]
      have a1 := (Below.refl w0.heap.size w0).alloc (Nat.le_refl _) (.cells (List.map B [2, 4]).toArray 5 (0, 0))
      refine (put_any (some ⟨w0.heap.size, 0, none⟩) [2, 4] 2 s.ms 2 (w0.alloc (.cells (List.map B [2, 4]).toArray 5 (0, 0))) (Rd.lit w0 [2, 4] 5) (fun h => by cases h) (by decide) (by omega) (by decide)).mono ?_
      rintro e w1 ⟨g, cur, rfl, hg, hk, hle, htk, b1⟩
      have RR : Hid (Rd w1 w1.heap.size (some ⟨g, 0, none⟩) (sopt s)) := Lib.hid (by rw [E0.out]; exact Rd.of_take hk htk (bk_lt hk))
      have BB := Lib.hid (a1.trans (b1.mono a1.size))
      have LL : Hid ((sopt s).length = 4) := Lib.hid (by rw [E0.out]; rfl)
      clear hk hle htk b1 a1
      go_wp2_with fail
      go_meet
      exact ⟨some ⟨g, 0, none⟩, _, by rw [LL.out]; rfl, Lib.hid fun h => (by cases h), RR, BB⟩
  case rest =>
    obtain ⟨A8, c8, rfl, N8, R8, B8⟩ := hcut
    have b8 := B8.out
    replace KS := Lib.hid (bk_keep b8 (bk_lt KS.out) KS.out)
    replace KT := Lib.hid (bk_keep b8 (bk_lt KT.out) KT.out)
    replace KG := Lib.hid (bk_keep b8 (bk_lt KG.out) KG.out)
    replace F := Lib.hid (F.out.trans (b8.mono F.out.size))
    replace RI := Lib.hid ((RI.out.below b8 (Nat.le_refl _)).mono b8.size)
    have lG8 := bk_lt KG.out
    have c0 := (bk_cell KG.out 0).trans sgc_0; have c1 := (bk_cell KG.out 1).trans sgc_1; have c2 := (bk_cell KG.out 2).trans sgc_2; have c3 := (bk_cell KG.out 3).trans sgc_3
    have c7 := (bk_cell KG.out 7).trans sgc_7
    clear b8 B8 c6 lG
    obtain ⟨op, hop⟩ : ∃ op, op = sopt s := ⟨_, rfl⟩
    obtain ⟨ah, hah⟩ : ∃ ah, ah = sahd s := ⟨_, rfl⟩
    have hol := sopt_length s
    have h204 : ah = 20 ∨ ah = 24 := by rw [hah]; unfold sahd; split <;> simp
    rw [← hop, ← hah] at hol
    rw [← hop] at N8 R8 ⊢
    rw [← hah] at hl
    have HOP := Lib.hid hop; have HAH := Lib.hid hah
    have w1 : IntKind.i64.wrap (20 + (op.length : Int)) = (ah : Int) := by rw [IntKind.wrap_i64]; omega
    have w2 : IntKind.i64.wrap ((ah : Int) + (l.length : Int)) = (ah : Int) + (l.length : Int) := by rw [IntKind.wrap_i64]; omega
    have d2 : decide (65535 < (ah : Int) + (l.length : Int)) = false := by simp; omega
    have HOL := Lib.hid hol
    clear hop hah hol
    go_wp2_with fail
    have bf := hs.f; have bt := hs.t; have bq := hs.sq; have bk' := hs.ak; have bw := hs.wi
    obtain ⟨D1, hD1⟩ : ∃ D1, D1 = [] ++ nb 2 s.f := ⟨_, rfl⟩
    obtain ⟨D2, hD2⟩ : ∃ D2, D2 = D1 ++ nb 2 s.t := ⟨_, rfl⟩
    obtain ⟨D3, hD3⟩ : ∃ D3, D3 = D2 ++ nb 4 s.sq := ⟨_, rfl⟩
    obtain ⟨D4, hD4⟩ : ∃ D4, D4 = D3 ++ nb 4 s.ak := ⟨_, rfl⟩
    have l1 : D1.length = 2 := by rw [hD1]; simp [nb_length]
    have l2 : D2.length = 4 := by rw [hD2, List.length_append, l1, nb_length]
    have l3 : D3.length = 8 := by rw [hD3, List.length_append, l2, nb_length]
    have l4 : D4.length = 12 := by rw [hD4, List.length_append, l3, nb_length]
    have HD1 := Lib.hid hD1; have HD2 := Lib.hid hD2; have HD3 := Lib.hid hD3; have HD4 := Lib.hid hD4
    have LD1 := Lib.hid l1; have LD2 := Lib.hid l2; have LD3 := Lib.hid l3; have LD4 := Lib.hid l4
    clear hD1 hD2 hD3 hD4 l1 l2 l3 l4
    obtain ⟨MA, hMA⟩ : ∃ M : MadeW (wc).heap.size, M = MadeW.gots _ (fun A => .slice A (D1).length (D1).length) D1 := ⟨_, rfl⟩
    obtain ⟨MB, hMB⟩ : ∃ M : MadeW (wc).heap.size, M = MadeW.gots _ (fun A => .slice A (D2).length (D2).length) D2 := ⟨_, rfl⟩
    have HA' := Lib.hid hMA; have HB' := Lib.hid hMB
    clear hMA hMB
    refine wp_region_e ((wc).heap.size) ([.gots 3 HA', .gots 7 HB']) (fun k => (([(7, [3])] : List (Nat × List Nat)).lookup k).getD []) (Fs.nil) (by first | omega | (simp <;> omega)) (by kernel_rfl) (by kernel_rfl) (by kernel_rfl) (by kernel_rfl) EnvW.Ini.nil ?_
    refine walkW_segn 3 [] facts0 noneHx (by kernel_rfl) (by kernel_rfl) ?_
    simp only [List.take_succ_cons, List.take_zero, List.drop_succ_cons, List.drop_zero, Nat.reduceAdd]
    repeat (go_big_quiet_step (fail))
    (first | refine wpQuiet_nil ?_ | (go_big_quiet_want; (try go_big_quiet_op); trace_state; fail))
    refine walkW_mk (fun _ => MA) [] MA ([]) facts0 (by kernel_rfl) (by kernel_rfl) (by kernel_rfl) rfl rfl (fun w' hb' hg' => ?_) (fun va ha => ?_)
    · unfold madeAtW
      go_simp
      ((refine (put_gots none [] 0 s.f 2 2 D1 w' Rd.nil (fun _ => ⟨rfl, rfl⟩) (by first | decide | (have := (LD1).out; omega)) (by omega) (by decide) rfl (HD1).out).mono ?_; rintro e w2 ⟨ad, rfl, hG, hb⟩; exact gots_end HA' hb hb'.size (hG.lower hb'.size)))
    obtain ⟨AA, rfl⟩ := gots_T HA' ha
    simp only [Act.put, List.setIfInBounds_toArray, List.set_cons_succ, List.set_cons_zero, Nat.reduceAdd]
    refine walkW_segn 3 [] facts0 noneHx (by kernel_rfl) (by kernel_rfl) ?_
    simp only [List.take_succ_cons, List.take_zero, List.drop_succ_cons, List.drop_zero, Nat.reduceAdd]
    repeat (go_big_quiet_step (fail))
    (first | refine wpQuiet_nil ?_ | (go_big_quiet_want; (try go_big_quiet_op); trace_state; fail))
    refine walkW_mk (fun _ => MB) [] MB ([(3, MA.R (.slice AA (D1).length (D1).length))]) (facts1 fun w h => h.1 rfl) (by kernel_rfl) (by kernel_rfl) (by kernel_rfl) rfl rfl (fun w' hb' hg' => ?_) (fun vb hb0 => ?_)
    · unfold madeAtW
      go_simp
      ((have hG1 := gots_R HA' (fun A A' h => by simpa using h) (hg' _ (.head _)); refine (put_gots AA D1 (D1).length s.t 2 2 D2 w' hG1.rd hG1.nn (by have := (LD1).out; omega) (by omega) (by decide) rfl (HD2).out).mono ?_; rintro e w2 ⟨ad, rfl, hG, hb⟩; exact gots_end HB' hb hb'.size (hG.lower hb'.size)))
    obtain ⟨A7, rfl⟩ := gots_T HB' hb0
    simp only [Act.put, List.setIfInBounds_toArray, List.set_cons_succ, List.set_cons_zero, Nat.reduceAdd]
    refine walkW_segn 1 [] facts0 noneHx (by kernel_rfl) (by kernel_rfl) ?_
    simp only [List.take_succ_cons, List.take_zero, List.drop_succ_cons, List.drop_zero, Nat.reduceAdd]
    repeat (go_big_quiet_step (fail))
    (first | refine wpQuiet_nil ?_ | (go_big_quiet_want; (try go_big_quiet_op); trace_state; fail))
    refine walkW_nil ?_
    intro w7 bv hf
    have Q7 := Lib.hid (gots_R HB' (fun A A' h => by simpa using h) ((hf 7 (by kernel_rfl)).1 rfl))
    replace KS := Lib.hid (bk_keep bv (bk_lt KS.out) KS.out)
    replace KT := Lib.hid (bk_keep bv (bk_lt KT.out) KT.out)
    replace KG := Lib.hid (bk_keep bv (bk_lt KG.out) KG.out)
    replace F := Lib.hid (F.out.trans (bv.mono F.out.size))
    replace RI := Lib.hid ((RI.out.below bv (Nat.le_refl _)).mono bv.size)
    replace R8 := Lib.hid ((R8.out.below bv (Nat.le_refl _)).mono bv.size)
    clear bv hf ha hb0 c0 c1 c2 c3 c7 lG8
    have c2 := (bk_cell KG.out 2).trans sgc_2; have c3 := (bk_cell KG.out 3).trans sgc_3
    have lG8 := bk_lt KG.out
    go_wp2_with fail
    obtain ⟨MA, hMA⟩ : ∃ M : MadeW (w7).heap.size, M = MadeW.gots _ (fun A => .slice A (D3).length (D3).length) D3 := ⟨_, rfl⟩
    obtain ⟨MB, hMB⟩ : ∃ M : MadeW (w7).heap.size, M = MadeW.gots _ (fun A => .slice A (D4).length (D4).length) D4 := ⟨_, rfl⟩
    have HA' := Lib.hid hMA; have HB' := Lib.hid hMB
    clear hMA hMB
    refine wp_region_e ((w7).heap.size) ([.gots 4 HA', .gots 8 HB']) (fun k => (([(8, [4])] : List (Nat × List Nat)).lookup k).getD []) (Fs.nil) (by first | omega | (simp <;> omega)) (by kernel_rfl) (by kernel_rfl) (by kernel_rfl) (by kernel_rfl) EnvW.Ini.nil ?_
    refine walkW_segn 4 [] facts0 noneHx (by kernel_rfl) (by kernel_rfl) ?_
    simp only [List.take_succ_cons, List.take_zero, List.drop_succ_cons, List.drop_zero, Nat.reduceAdd]
    repeat (go_big_quiet_step (fail))
    (first | refine wpQuiet_nil ?_ | (go_big_quiet_want; (try go_big_quiet_op); trace_state; fail))
    refine walkW_mk (fun _ => MA) [] MA ([]) facts0 (by kernel_rfl) (by kernel_rfl) (by kernel_rfl) rfl rfl (fun w' hb' hg' => ?_) (fun va ha => ?_)
    · unfold madeAtW
      go_simp
      ((refine (put_gots A7 D2 D2.length s.sq 4 4 D3 w' (Q7.out.below hb').rd Q7.out.nn (by first | decide | (have := (LD2).out; omega)) (by omega) (by decide) rfl (HD3).out).mono ?_; rintro e w2 ⟨ad, rfl, hG, hb⟩; exact gots_end HA' hb hb'.size (hG.lower hb'.size)))
    obtain ⟨AA, rfl⟩ := gots_T HA' ha
    simp only [Act.put, List.setIfInBounds_toArray, List.set_cons_succ, List.set_cons_zero, Nat.reduceAdd]
    refine walkW_segn 3 [] facts0 noneHx (by kernel_rfl) (by kernel_rfl) ?_
    simp only [List.take_succ_cons, List.take_zero, List.drop_succ_cons, List.drop_zero, Nat.reduceAdd]
    repeat (go_big_quiet_step (fail))
    (first | refine wpQuiet_nil ?_ | (go_big_quiet_want; (try go_big_quiet_op); trace_state; fail))
    refine walkW_mk (fun _ => MB) [] MB ([(4, MA.R (.slice AA (D3).length (D3).length))]) (facts1 fun w h => h.1 rfl) (by kernel_rfl) (by kernel_rfl) (by kernel_rfl) rfl rfl (fun w' hb' hg' => ?_) (fun vb hb0 => ?_)
    · unfold madeAtW
      go_simp
      ((have hG1 := gots_R HA' (fun A A' h => by simpa using h) (hg' _ (.head _)); refine (put_gots AA D3 (D3).length s.ak 4 4 D4 w' hG1.rd hG1.nn (by have := (LD3).out; omega) (by omega) (by decide) rfl (HD4).out).mono ?_; rintro e w2 ⟨ad, rfl, hG, hb⟩; exact gots_end HB' hb hb'.size (hG.lower hb'.size)))
    obtain ⟨A9, rfl⟩ := gots_T HB' hb0
    simp only [Act.put, List.setIfInBounds_toArray, List.set_cons_succ, List.set_cons_zero, Nat.reduceAdd]
    refine walkW_segn 1 [] facts0 noneHx (by kernel_rfl) (by kernel_rfl) ?_
    simp only [List.take_succ_cons, List.take_zero, List.drop_succ_cons, List.drop_zero, Nat.reduceAdd]
    repeat (go_big_quiet_step (fail))
    (first | refine wpQuiet_nil ?_ | (go_big_quiet_want; (try go_big_quiet_op); trace_state; fail))
    refine walkW_nil ?_
    intro w9 bv hf
    have Q9 := Lib.hid (gots_R HB' (fun A A' h => by simpa using h) ((hf 8 (by kernel_rfl)).1 rfl))
    replace KS := Lib.hid (bk_keep bv (bk_lt KS.out) KS.out)
    replace KT := Lib.hid (bk_keep bv (bk_lt KT.out) KT.out)
    replace KG := Lib.hid (bk_keep bv (bk_lt KG.out) KG.out)
    replace F := Lib.hid (F.out.trans (bv.mono F.out.size))
    replace RI := Lib.hid ((RI.out.below bv (Nat.le_refl _)).mono bv.size)
    replace R8 := Lib.hid ((R8.out.below bv (Nat.le_refl _)).mono bv.size)
    clear bv hf ha hb0 c2 c3 lG8
    have c4 := (bk_cell KG.out 4).trans sgc_4
    have lG8 := bk_lt KG.out
    obtain ⟨ad9, rfl⟩ : ∃ ad, A9 = some ad := by
      cases A9 with
      | none => exact absurd (Q9.out.nn rfl).2 (by rw [LD4.out]; decide)
      | some ad => exact ⟨ad, rfl⟩
    obtain ⟨x12, hx12⟩ : ∃ x, x = UInt8.ofNat (4 * ah) := ⟨_, rfl⟩
    obtain ⟨x13, hx13⟩ : ∃ x, x = s.fl &&& 63 := ⟨_, rfl⟩
    have e12 : (ah : Int) / 4 * 16 = (x12.toNat : Int) := by rw [hx12, UInt8.toNat_ofNat']; omega
    have e13 : bits BinOp.and IntKind.u8 (s.fl.toNat : Int) 63 = (x13.toNat : Int) := by rw [hx13]; exact bits_and63 s.fl
    obtain ⟨D5, hD5⟩ : ∃ D5, D5 = D4 ++ [x12, x13] := ⟨_, rfl⟩
    have l5 : D5.length = 14 := by rw [hD5, List.length_append, LD4.out]; rfl
    have HD5 := Lib.hid hD5; have LD5 := Lib.hid l5; have HX12 := Lib.hid hx12; have HX13 := Lib.hid hx13
    clear hD5 l5 hx12 hx13
    have a9 := (Below.refl w9.heap.size w9).alloc (Nat.le_refl _) (.cells (List.map B [x12, x13]).toArray 5 (0, 0))
    have R9a := Lib.hid (Q9.out.below a9).rd
    go_wp2_with (at_builtin; refine append_full rfl _ _ rfl ad9 D4 _ _ rfl rfl rfl R9a.out ⟨w9.heap.size, 0, none⟩ [x12, x13] 2 2 rfl rfl (Rd.lit w9 [x12, x13] 5) (by simp) (by rw [LD4.out]; simp) ?_)
    intro v10 w10 ho b10
    have ho' : w10.ownsRow (w9.heap.size + 1) 5 1 v10 D5.length (D5.map B) := by rw [HD5.out, List.length_append, List.map_append]; exact ho
    obtain ⟨A10, c10, rfl, hR10, hN10, _⟩ := Rd.of_own ho' rfl
    have R10 := Lib.hid hR10; have N10 := Lib.hid hN10
    have b10' := a9.trans (b10.mono (Nat.le_succ _))
    replace KS := Lib.hid (bk_keep b10' (bk_lt KS.out) KS.out)
    replace KT := Lib.hid (bk_keep b10' (bk_lt KT.out) KT.out)
    replace KG := Lib.hid (bk_keep b10' (bk_lt KG.out) KG.out)
    replace F := Lib.hid (F.out.trans (b10'.mono F.out.size))
    replace RI := Lib.hid ((RI.out.below b10' (Nat.le_refl _)).mono b10'.size)
    replace R8 := Lib.hid ((R8.out.below b10' (Nat.le_refl _)).mono b10'.size)
    clear ho ho' hR10 hN10 b10 b10' a9 R9a c4 lG8 e12 e13
    have c5 := (bk_cell KG.out 5).trans sgc_5
    have lG8 := bk_lt KG.out
    obtain ⟨D6, hD6⟩ : ∃ D6, D6 = D5 ++ nb 2 s.wi := ⟨_, rfl⟩
    obtain ⟨D7, hD7⟩ : ∃ D7, D7 = D6 ++ nb 4 0 := ⟨_, rfl⟩
    have l6 : D6.length = 16 := by rw [hD6, List.length_append, LD5.out, nb_length]
    have l7 : D7.length = 20 := by rw [hD7, List.length_append, l6, nb_length]
    have HD6 := Lib.hid hD6; have HD7 := Lib.hid hD7; have LD6 := Lib.hid l6; have LD7 := Lib.hid l7
    clear hD6 hD7 l6 l7
    go_wp2_with fail
    refine (put_gots A10 D5 c10 s.wi 2 2 D6 w10 R10.out N10.out (by rw [LD5.out]; omega) (by omega) (by decide) rfl HD6.out).mono ?_
    rintro e w11 ⟨ad11, rfl, hG, b11⟩
    have G11 := Lib.hid hG
    replace KS := Lib.hid (bk_keep b11 (bk_lt KS.out) KS.out)
    replace KT := Lib.hid (bk_keep b11 (bk_lt KT.out) KT.out)
    replace KG := Lib.hid (bk_keep b11 (bk_lt KG.out) KG.out)
    replace F := Lib.hid (F.out.trans (b11.mono F.out.size))
    replace RI := Lib.hid ((RI.out.below b11 (Nat.le_refl _)).mono b11.size)
    replace R8 := Lib.hid ((R8.out.below b11 (Nat.le_refl _)).mono b11.size)
    clear hG b11 c5 lG8
    go_wp2_with fail
    refine (put_gots (some ad11) D6 D6.length 0 4 4 D7 w11 G11.out.rd G11.out.nn (by rw [LD6.out]; omega) (by omega) (by decide) rfl HD7.out).mono ?_
    rintro e w12 ⟨ad12, rfl, hG, b12⟩
    have G12 := Lib.hid hG
    replace KS := Lib.hid (bk_keep b12 (bk_lt KS.out) KS.out)
    replace KT := Lib.hid (bk_keep b12 (bk_lt KT.out) KT.out)
    replace KG := Lib.hid (bk_keep b12 (bk_lt KG.out) KG.out)
    replace F := Lib.hid (F.out.trans (b12.mono F.out.size))
    replace RI := Lib.hid ((RI.out.below b12 (Nat.le_refl _)).mono b12.size)
    replace R8 := Lib.hid ((R8.out.below b12 (Nat.le_refl _)).mono b12.size)
    clear hG b12 G11
    have c7 := (bk_cell KG.out 7).trans sgc_7
    have lG8 := bk_lt KG.out
    go_wp2_with fail
    have a13 : Below w12.heap.size w12 (w12.alloc (.cells #[.slice (some ad12) D7.length D7.length, .slice A8 op.length c8, .slice A l.length c] 28)) := (Below.refl _ _).alloc (Nat.le_refl _) _
    have hfl : flat [(some ad12, D7, D7.length), (A8, op, c8), (A, l, c)] = D7 ++ (op ++ l) := by simp [flat]
    have CC := concat_any w12.heap.size [(some ad12, D7, D7.length), (A8, op, c8), (A, l, c)] 28 (0, 0) (w12.alloc (.cells #[.slice (some ad12) D7.length D7.length, .slice A8 op.length c8, .slice A l.length c] 28)) (by rw [bk_alloc_at _ _ _ rfl]; simp [Src.v]) (fun q hq => by
      simp only [List.mem_cons, List.not_mem_nil, or_false] at hq
      rcases hq with rfl | rfl | rfl
      · exact ⟨(G12.out.below a13).rd, G12.out.nn⟩
      · exact ⟨(R8.out.below a13 (Nat.le_refl _)).mono a13.size, N8.out⟩
      · exact ⟨(RI.out.below a13 (Nat.le_refl _)).mono a13.size, HA.out⟩) (by rw [hfl, List.length_append, List.length_append, LD7.out]; have := HOL.out; clear w1 w2; omega) (by simp)
    rw [hfl] at CC
    refine CC.mono ?_
    clear CC
    rintro e w14 ⟨v14, rfl, ho, b14⟩
    have b14' := a13.trans (b14.mono a13.size)
    have s12 := F.out.size
    have s13 := a13.size
    obtain ⟨L, hL⟩ : ∃ L, L = D7 ++ (op ++ l) := ⟨_, rfl⟩
    rw [← hL] at ho
    have hLl : L.length = ah + l.length := by rw [hL, List.length_append, List.length_append, LD7.out]; have := HOL.out; omega
    have HL := Lib.hid hL; have HLL := Lib.hid hLl
    replace KS := Lib.hid (bk_keep b14' (bk_lt KS.out) KS.out)
    replace KT := Lib.hid (bk_keep b14' (bk_lt KT.out) KT.out)
    replace F := Lib.hid (F.out.trans (b14'.mono F.out.size))
    have ho' := World.ownsRow.mono ho (show w.heap.size ≤ _ from Nat.le_trans s12 s13)
    obtain ⟨A14, c14, rfl, hR14, _, _⟩ := Rd.of_own ho' rfl
    have HO := Lib.hid ho'; have R14 := Lib.hid hR14
    clear ho ho' hR14 b14 b14' a13 hL hLl hfl c7 lG8 w1 w2 d2
    have vKS := KS.out; have wKS := bk_lt vKS
    have vKT := KT.out; have wKT := bk_lt vKT
    go_wp2_with fail
    refine (over_any src dst 6 A14 L c14 w14 h1 h2 R14.out (by rw [HLL.out]; omega)).mono ?_
    rintro e w15 ⟨rfl, b15⟩
    clear vKS wKS
    clear vKT wKT
    replace F := Lib.hid (F.out.trans (b15.mono F.out.size))
    have HO8 := own_below HO.out b15
    obtain ⟨g, cur, rfl, hgb, hgs, hgl⟩ := own_some HO8 (by rw [HLL.out]; omega)
    have u6 := bk_cell hgb 16
    have u7 := bk_cell hgb 17
    rw [Array.getElem?_eq_getElem (by have := HLL.out; omega)] at u6 u7
    have z6 := bk_frozen hgb 16
    have z7 := bk_frozen hgb 17
    generalize cur[16]'(by have := HLL.out; omega) = cu6 at u6
    generalize cur[17]'(by have := HLL.out; omega) = cu7 at u7
    have HO9 := Lib.hid HO8
    have i6 : 16 < L.length := by rw [HLL.out]; omega
    have i7 : 17 < L.length := by rw [HLL.out]; omega
    have hS := sumOf_le (ovr src dst 6 L)
    have hcs : ssum src dst s l = sumOf (ovr src dst 6 L) := by
      unfold ssum
      rw [HL.out, HD7.out, HD6.out, HD5.out, HD4.out, HD3.out, HD2.out, HD1.out, HX12.out, HX13.out, HOP.out, HAH.out]
      simp only [shead, List.nil_append, List.append_assoc]
      rfl
    have HCS := Lib.hid hcs
    clear hcs
    generalize hSe : sumOf (ovr src dst 6 L) = S at *
    clear HO8 hgb hgs hSe b15 HO R14
    go_wp2_with fail
    refine bodyPost_ret (results_tmp2 rfl _ _ _) rfl ?_
    have hLs : L = shead s 0 ++ (sopt s ++ l) := by
      rw [HL.out, HD7.out, HD6.out, HD5.out, HD4.out, HD3.out, HD2.out, HD1.out, HX12.out, HX13.out, HOP.out, HAH.out]
      simp only [shead, List.nil_append, List.append_assoc]
      rfl
    refine ⟨_, rfl, sput_end HO9.out hLs (by rw [HCS.out, B_ofNat']; congr 1; omega) (by rw [HCS.out, B_ofNat']), (F.out.setCell (p := ⟨g, 16, none⟩) hgl _).setCell (p := ⟨g, 17, none⟩) hgl _⟩
end Go.Proofs.Ytojddfbbeiobpaa

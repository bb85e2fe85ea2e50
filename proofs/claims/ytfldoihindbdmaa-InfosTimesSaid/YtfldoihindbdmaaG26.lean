/- InfosPlay, walked. -/
import Derived.Test.YtfldoihindbdmaaG24
import Derived.Test.YtfldoihindbdmaaMgH
namespace Go.Proofs.Ytfldoihindbdmaa
open Go.RowKit
set_option maxRecDepth 100000
set_option maxHeartbeats 2000000
@[go_sem ↓] theorem bfWds (dst : Option Tmp) (ps : Array (Nat × Operand)) (t : TypeId) (pos : String) (af : Array Edge) (g : Option (Nat × Bool)) (a : Act) (m : Nat) (W : World) (gs : List (Nat × (World → Prop))) [hne : Nonempty (LaterF m W gs)] (K : Act → Prop) :
    Oper.quiet Try.prog ⟨dst, .build 61 ps, t, pos, af, g⟩ a (fun w' => ∃ x : LaterF m W gs, w' = x.w) K = bldTo (quietHid0 Try.prog ⟨dst, .build 61 ps, t, pos, af, g⟩ a (fun w' => ∃ x : LaterF m W gs, w' = x.w) K) (fun c => K (a.put dst (.agg c))) (Try.prog.built 61 (ps.toList.map fun x => (x.1, a.eval x.2))) :=
  quiet_build_bk 61 dst ps t pos af g a _ (hne.elim fun x => ⟨x.w, x, rfl⟩) K
@[go_sem ↓] theorem bfWld (dst : Option Tmp) (ps : Array (Nat × Operand)) (t : TypeId) (pos : String) (af : Array Edge) (g : Option (Nat × Bool)) (a : Act) (m : Nat) (W : World) (gs : List (Nat × (World → Prop))) [hne : Nonempty (LaterF m W gs)] (K : Act → Prop) :
    Oper.quiet Try.prog ⟨dst, .build 63 ps, t, pos, af, g⟩ a (fun w' => ∃ x : LaterF m W gs, w' = x.w) K = bldTo (quietHid0 Try.prog ⟨dst, .build 63 ps, t, pos, af, g⟩ a (fun w' => ∃ x : LaterF m W gs, w' = x.w) K) (fun c => K (a.put dst (.agg c))) (Try.prog.built 63 (ps.toList.map fun x => (x.1, a.eval x.2))) :=
  quiet_build_bk 63 dst ps t pos af g a _ (hne.elim fun x => ⟨x.w, x, rfl⟩) K
theorem bk_apart {w : World} {a b : Nat} {c c' : Array Value} {t t' : TypeId} {f f' : Nat × Nat} (h : bk w a = some (.cells c t f)) (h' : bk w b = some (.cells c' t' f')) (ht : t ≠ t') : a ≠ b := fun e => by
  subst e
  rw [h] at h'
  cases h'
  exact ht rfl
@[go_sem] theorem builtWds : Try.prog.built 61 [] = some #[.slice none 0 0] := by kernel_rfl
theorem builtWld (x y q : Nat) (p : Option Addr) : Try.prog.built 63 [(0, .pointer (some ⟨x, 0, none⟩)), (1, .pointer (some ⟨y, 0, none⟩)), (2, .pointer p), (3, .pointer (some ⟨q, 0, none⟩))] = some (wlC x y p q) := by kernel_rfl
/-- Both sides, new. -/
structure New26 (w : World) (n x y q b : Nat) (p : Option Addr) (c : Cl) : Prop where
  kx : bk w x = some (.cells (clC c) 31 (0, 0))
  ky : bk w y = some (.cells (rcC c) 88 (0, 0))
  kq : bk w q = some (.cells #[.slice none 0 0] 61 (0, 0))
  kb : bk w b = some (.cells (wlC x y p q) 63 (0, 0))
  nx : n ≤ x
  ny : n ≤ y
  nq : n ≤ q
  nb : n ≤ b
theorem new_inv (a0 a1 a2 a3 a4 a5 : UInt8) : (newCl a0 a1 a2 a3 a4 a5).Inv :=
  ⟨Nat.le_refl _, (fun h => by cases h), Nat.zero_le _, Nat.zero_le _, (by show (0 : Nat) < 16777216; decide), .inl rfl, Nat.zero_le _⟩
theorem New26.cl {w : World} {n x y q b : Nat} {p : Option Addr} {a0 a1 a2 a3 a4 a5 : UInt8} (h : New26 w n x y q b p (newCl a0 a1 a2 a3 a4 a5)) : ClB w x (newCl a0 a1 a2 a3 a4 a5) :=
  ⟨h.kx, Nat.zero_le _, Nat.zero_le _, (by show (0 : Nat) < 16777216; decide), Nat.zero_le _, Nat.zero_le _⟩
theorem New26.rc {w : World} {n x y q b : Nat} {p : Option Addr} {a0 a1 a2 a3 a4 a5 : UInt8} (h : New26 w n x y q b p (newCl a0 a1 a2 a3 a4 a5)) : RClB w y (newCl a0 a1 a2 a3 a4 a5) :=
  ⟨h.ky, Nat.zero_le _, Nat.zero_le _, (by show (0 : Nat) < 16777216; decide), Nat.zero_le _, Nat.zero_le _⟩
theorem New26.rw {w : World} {n x y q b : Nat} {p : Option Addr} {c : Cl} (h : New26 w n x y q b p c) : RWd w w.heap.size q [] :=
  ⟨⟨none, 0, h.kq, World.ownsRow_nil _ _ _ _, Nat.le_refl _⟩, bk_lt h.kq, fun _ h => by simp at h, by simp, Nat.le_refl _⟩
/-- What is held from round to round. -/
structure Pl (w0 w : World) (n x y : Nat) (p : Option Addr) (m q b : Nat) : Prop where
  wv : ∃ c l, Wv w n x y p m q c l
  kb : bk w b = some (.cells (wlC x y p q) 63 (0, 0))
  df : ¬ DF x y q p b
  bl : Below n w0 w
  hn : n = w0.heap.size
theorem Pl.does {w0 w w' : World} {n x y m q b : Nat} {p : Option Addr} (h : Pl w0 w n x y p m q b) (hv : ∃ c l, Wv w' n x y p m q c l) (t : Tn (DF x y q p) w w') : Pl w0 w' n x y p m q b :=
  ⟨hv, t.keep h.df h.kb, h.df, h.bl.trans (t.below (fun k hk => by
    obtain ⟨c, l, hw⟩ := h.wv
    rcases hk with (rfl | e) | (rfl | rfl)
    · exact hw.xn
    · exact (hw.pn k e).1
    · exact hw.yn
    · exact hw.qn) (by rw [h.hn]; exact h.bl.size)), h.hn⟩
theorem Pl.below {w0 w w' : World} {n x y m q b : Nat} {p : Option Addr} (h : Pl w0 w n x y p m q b) (t : Below w.heap.size w w') : Pl w0 w' n x y p m q b := by
  obtain ⟨c, l, hw⟩ := h.wv
  exact h.does ⟨c, l, hw.below t⟩ (Tn.of t)
theorem Pl.nw {w0 w : World} {n x y m q b : Nat} {p : Option Addr} (h : Pl w0 w n x y p m q b) : n ≤ w.heap.size := by
  obtain ⟨c, l, hw⟩ := h.wv
  exact hw.nm.1
theorem Pl.cells {w0 w : World} {n x y m q b : Nat} {p : Option Addr} (h : Pl w0 w n x y p m q b) : w.cell? ⟨b, 0, none⟩ = some (.pointer (some ⟨x, 0, none⟩)) ∧ w.cell? ⟨b, 1, none⟩ = some (.pointer (some ⟨y, 0, none⟩)) ∧ w.cell? ⟨b, 2, none⟩ = some (.pointer p) ∧ w.cell? ⟨b, 3, none⟩ = some (.pointer (some ⟨q, 0, none⟩)) :=
  ⟨(bk_cell h.kb 0).trans rfl, (bk_cell h.kb 1).trans rfl, (bk_cell h.kb 2).trans rfl, (bk_cell h.kb 3).trans rfl⟩
/-- An act's cells. -/
abbrev AiC (w : World) (g o : Nat) (a : Ai) : Prop := w.cell? ⟨g, o, none⟩ = some (.int .u8 (a.kind.toNat : Int)) ∧ w.cell? ⟨g, o + 1, none⟩ = some (.slice a.A a.l.length a.c) ∧ w.cell? ⟨g, o + 2, none⟩ = some (.bool a.ours) ∧ w.cell? ⟨g, o + 3, none⟩ = some (.int .u32 (a.n : Int))
theorem Ais.cells {w : World} {n g o : Nat} {l : List Ai} (h : Ais w n (some ⟨g, o, none⟩) l) {k : Nat} (hk : k < l.length) : AiC w g (o + k * 4) l[k] := by
  obtain ⟨ga, o', cc, t, fr, e, _, _, _, _, hc⟩ := h.at hk
  cases e
  exact ⟨hc 0 (by omega), hc 1 (by omega), hc 2 (by omega), hc 3 (by omega)⟩
theorem Pl.calls {w0 w : World} {n x y m q b : Nat} {p : Option Addr} (h : Pl w0 w n x y p m q b) (now : Nat) (a : Ai) (ha : AiOk w n a) (hn : now ≤ far) (hal : a.l.length ≤ 1500) :
    Calls Try.prog 21 #[.agg (wlC x y p q), .int .u64 (now : Int), .agg a.row] w fun e w' => e = .returned (.bool true) ∧ Pl w0 w' n x y p m q b := by
  obtain ⟨c, l, hw⟩ := h.wv
  refine (does_any n x y m q now p c l a w hw ha hn hal).mono ?_
  rintro e w' ⟨rfl, c', l', h1, h2⟩
  exact ⟨rfl, h.does ⟨c', l', h1⟩ h2⟩
end Go.Proofs.Ytfldoihindbdmaa

/- Infos: an answer with names. -/
import Derived.Test.YtfldoihindbdmaaMgH
namespace Go.Proofs.Ytfldoihindbdmaa
open Go.RowKit Go.Shelf
attribute [local go_sem] Oper.semAt_some
set_option maxRecDepth 100000
set_option maxHeartbeats 1000000
@[go_sem ↓] theorem ldAh (dst : Option Tmp) (x : Operand) (t : TypeId) (pos : String) (af : Array Edge) (g : Option (Nat × Bool)) (a : Act) (w : World) (K : Act → World → Prop) (Q : Exit → Act → World → Prop) :
    Oper.wp Try.prog ⟨dst, .load 36 x, t, pos, af, g⟩ a w K Q = ldPtr (wpHid Try.prog ⟨dst, .load 36 x, t, pos, af, g⟩ a w K Q) 3 w (fun c => K (a.put dst (.agg c)) w) (a.eval x) :=
  wp_load_bk 36 3 _ Try.underlying36 rfl (by kernel_rfl) dst x t pos af g a w K Q
@[go_sem ↓] theorem stAh (dst : Option Tmp) (x y : Operand) (t : TypeId) (pos : String) (af : Array Edge) (g : Option (Nat × Bool)) (a : Act) (w : World) (K : Act → World → Prop) (Q : Exit → Act → World → Prop) :
    Oper.wp Try.prog ⟨dst, .store 36 x y, t, pos, af, g⟩ a w K Q = stPtr (wpHid Try.prog ⟨dst, .store 36 x y, t, pos, af, g⟩ a w K Q) 3 w (fun w' => K (a.put dst undef) w') (a.eval x) (a.eval y) :=
  wp_store_bk 36 3 (by kernel_rfl) dst x y t pos af g a w K Q
@[go_sem ↓] theorem qlAh (dst : Option Tmp) (x : Operand) (t : TypeId) (pos : String) (af : Array Edge) (g : Option (Nat × Bool)) (a : Act) (m : Nat) (W : World) (K : Act → Prop) :
    Oper.quiet Try.prog ⟨dst, .load 36 x, t, pos, af, g⟩ a (fun w' => ∃ x : Later m W, w' = x.w) K =
      ldLater (quietHid Try.prog ⟨dst, .load 36 x, t, pos, af, g⟩ a (fun w' => ∃ x : Later m W, w' = x.w) K) m 3 W (fun c => K (a.put dst (.agg c))) (a.eval x) :=
  quiet_load_bk 36 3 _ Try.underlying36 rfl (by kernel_rfl) dst x t pos af g a m W K
@[go_sem ↓] theorem qfAdr (dst : Option Tmp) (x : Operand) (t : TypeId) (pos : String) (af : Array Edge) (g : Option (Nat × Bool)) (a : Act) (m : Nat) (W : World) (gs : List (Nat × (World → Prop))) [Nonempty (LaterF m W gs)] (K : Act → Prop) :
    Oper.quiet Try.prog ⟨dst, .load 110 x, t, pos, af, g⟩ a (fun w' => ∃ x : LaterF m W gs, w' = x.w) K =
      ldF (quietHid Try.prog ⟨dst, .load 110 x, t, pos, af, g⟩ a (fun w' => ∃ x : LaterF m W gs, w' = x.w) K) gs m 16 W (fun c => K (a.put dst (.agg c))) (a.eval x) :=
  quiet_load_F 110 16 _ Try.underlying110 rfl (by kernel_rfl) dst x t pos af g a m W gs K
/-- Cells of addresses, one behind the other. -/
def adV (l : List (List UInt8)) : List Value := l.flatMap fun s => s.map B
def OutA (w : World) (n : Nat) (v : Value) (ss : List (List UInt8)) : Prop := w.ownsRow n 110 16 v ss.length (adV ss)
/-- What an answer hands back. -/
structure AnsR (w : World) (n : Nat) (SA DA : Option Addr) (sv ds : List (List UInt8)) (c1 c2 : Nat) : Prop where
  hs : OutA w n (.slice SA sv.length c1) sv
  hd : OutT w n (.slice DA ds.length c2) ds
  ne : ∀ k, (Value.slice SA sv.length c1).ownBlock = some k → (Value.slice DA ds.length c2).ownBlock ≠ some k
theorem OutA.mono {w : World} {n m : Nat} {v : Value} {ss : List (List UInt8)} (h : OutA w n v ss) (hm : m ≤ n) : OutA w m v ss := by
  refine ⟨h.1, ?_⟩
  rcases h.2 with h2 | ⟨g, cap, cur, h3, h4, h5⟩
  · exact .inl h2
  · exact .inr ⟨g, cap, cur, h3, Nat.le_trans hm h4, h5⟩
theorem AnsR.turn {F : Nat → Prop} {w w' : World} {n : Nat} {SA DA : Option Addr} {sv ds : List (List UInt8)} {c1 c2 : Nat} (h : AnsR w n SA DA sv ds c1 c2) (ht : Tn F w w') (hF : ∀ k, F k → k < n) : AnsR w' n SA DA sv ds c1 c2 :=
  ⟨own_turnS h.hs fun k hk => ht.old k (h.hs.lt k hk).2 fun hf => by have h1 := hF k hf; have h2 := (h.hs.lt k hk).1; omega, h.hd.turn ht fun k hk hf => by have h1 := hF k hf; have h2 := (h.hd.lt k hk).1; omega, h.ne⟩
theorem AnsR.below {w w' : World} {n : Nat} {SA DA : Option Addr} {sv ds : List (List UInt8)} {c1 c2 : Nat} (h : AnsR w n SA DA sv ds c1 c2) (hb : Below w.heap.size w w') : AnsR w' n SA DA sv ds c1 c2 := h.turn (Tn.of hb) (F := fun _ => False) (fun _ hk => hk.elim)
def ansG (SA DA : Option Addr) (a d f : Nat) : Array Value := #[.slice SA a a, .slice DA d d, .int .u32 (f : Int)]
theorem ansG_ones (SA DA : Option Addr) (a d f : Nat) : ones (ansG SA DA a d f).toList = true := rfl
theorem ansG_size (SA DA : Option Addr) (a d f : Nat) : (ansG SA DA a d f).size = 3 := rfl
theorem clipT_any (A : Option Addr) (n c : Nat) (h : n ≤ c) (w : World) : Calls Try.prog 60 #[.slice A n c] w fun e w' => e = .returned (.slice A n n) ∧ Below w.heap.size w w' := by
  go_enter Try.func60, Try.ntmps60
  go_wp2
  go_ret
  exact ⟨rfl, Below.refl _ _⟩
theorem clipA_any (A : Option Addr) (n c : Nat) (h : n ≤ c) (w : World) : Calls Try.prog 59 #[.slice A n c] w fun e w' => e = .returned (.slice A n n) ∧ Below w.heap.size w w' := by
  go_enter Try.func59, Try.ntmps59
  go_wp2
  go_ret
  exact ⟨rfl, Below.refl _ _⟩
theorem txt_kept {D : List TypeId} {m n : Nat} {w w' : World} {v : Value} {ds : List (List UInt8)} (h : OutT w m v ds) (hd : 9 ∉ D) (hk : Kept n D w w') : OutT w' m v ds := by
  obtain ⟨hl, h1 | ⟨g, cap, cur, h1, hg, hb, h2⟩⟩ := h
  · exact ⟨hl, .inl h1⟩
  · exact ⟨hl, .inr ⟨g, cap, cur, h1, hg, hk.row (show bk w g = _ from hb) hd, h2⟩⟩
section
variable {m : Nat}
/-- A call hands back a row of strings of its own. -/
def MadeW.txt (m : Nat) (ds : List (List UInt8)) : MadeW m where
  T v := ∃ A c, v = .slice A ds.length c ∧ ds.length ≤ c
  R v w := OutT w m v ds
  D := []
  O := [9]
  inh := ⟨.slice none ds.length ds.length, _, _, rfl, Nat.le_refl _⟩
  mono := fun D v w w' hd hk h => txt_kept h (fun h' => hd _ h' (by simp)) hk
theorem txt_T {M : MadeW m} {ds : List (List UInt8)} {v : Value} (HM : Hid (M = MadeW.txt m ds)) (h : M.T v) : ∃ A c, v = .slice A ds.length c ∧ ds.length ≤ c := by
  have := HM.out
  subst this
  exact h
theorem txt_R {M : MadeW m} {ds : List (List UInt8)} {v : Value} {w : World} (HM : Hid (M = MadeW.txt m ds)) (h : M.R v w) : OutT w m v ds := by
  have := HM.out
  subst this
  exact h
theorem txt_mk {M : MadeW m} {ds : List (List UInt8)} {v : Value} {w w' : World} (HM : Hid (M = MadeW.txt m ds)) (hb : Below w.heap.size w w') (hm : m ≤ w.heap.size) (h : OutT w' m v ds) : Kept m M.D w w' ∧ M.T v ∧ M.R v w' := by
  have := HM.out
  subst this
  exact ⟨Kept.of_below hb hm, h.sl, h⟩
def Ent.txt (k : Nat) {M : MadeW m} {ds : List (List UInt8)} (HM : Hid (M = MadeW.txt m ds)) : Ent m := ⟨k, fun _ => M, [], [9], [], fun _ => by have := HM.out; subst this; exact ⟨rfl, rfl⟩⟩
def clipF (m : Nat) : List Value → MadeW m
  | [.slice A n _] => .val (.slice A n n)
  | _ => .val undef
def Ent.clip (m k : Nat) (X : List Tmp) : Ent m := ⟨k, clipF m, [], [], X, fun x => by unfold clipF; split <;> exact ⟨rfl, rfl⟩⟩
end
/-- The option that is told lies there. -/
def OptAt (w : World) (M : Nat → Option Value) (k : Nat) (d : Option (List UInt8)) : Prop :=
  match d with
  | none => M k = none
  | some d => ∃ b o c, M k = some (.slice (some ⟨b, o, none⟩) d.length c) ∧ Rd w w.heap.size (some ⟨b, o, none⟩) d ∧ d.length ≤ c ∧ c < 2 ^ 63 ∧ d.length < 2 ^ 30
theorem OptAt.below {w w' : World} {M : Nat → Option Value} {k : Nat} {d : Option (List UInt8)} (h : OptAt w M k d) (hb : Below w.heap.size w w') : OptAt w' M k d := by
  unfold OptAt at h ⊢
  cases d with
  | none => exact h
  | some d =>
    obtain ⟨b, o, c, h1, h2, h3⟩ := h
    exact ⟨b, o, c, h1, (h2.below hb (Nat.le_refl _)).mono hb.size, h3⟩
theorem OptAt.at32 {w : World} {M : Nat → Option Value} {d : Option (List UInt8)} (h : OptAt w M 32 d) : At32 w M d := by
  unfold OptAt at h
  unfold At32
  cases d with
  | none => exact h
  | some d =>
    obtain ⟨b, o, c, h1, h2, _, _, h3⟩ := h
    exact ⟨b, o, c, h1, h2, by omega⟩
/-- The names that an option tells. -/
def dnm (d : Option (List UInt8)) : List (List UInt8) := nms (d.getD [])
theorem names_opt {w : World} {g nn : Nat} {M : Nat → Option Value} {d : Option (List UInt8)} (hM : MapIs w g nn M) (h : OptAt w M 24 d) : ∃ v, (Instr.lookup 70 (.map (some g)) (.int .u64 24) false).run Try.prog w = .ok v w ∧
    ∀ w', Below w.heap.size w w' → (Instr.lookup 70 (.map (some g)) (.int .u64 24) false).run Try.prog w' = .ok v w' ∧ Calls Try.prog 61 #[v] w' fun e w'' => ∃ u, e = .returned u ∧ OutT w'' w'.heap.size u (dnm d) ∧ Below w'.heap.size w' w'' := by
  have hl := hM.look (k := 24) (by decide)
  refine ⟨_, hl, fun w' hb => ⟨(hM.turn (Tn.of hb) (F := fun _ => False) (fun e => e)).look (k := 24) (by decide), ?_⟩⟩
  unfold OptAt at h
  unfold dnm
  cases d with
  | none =>
    have h' : M 24 = none := h
    rw [h']
    refine (names_nil w').mono ?_
    rintro e w'' ⟨rfl, rfl⟩
    exact ⟨_, rfl, by rw [Option.getD_none, nms_nil]; exact OutT.nil, Below.refl _ _⟩
  | some d =>
    obtain ⟨b, o, c, h1, h2, h3, h4, h5⟩ := h
    rw [h1]
    exact names_any (some ⟨b, o, none⟩) d c w' ((h2.below hb (Nat.le_refl _)).mono hb.size) h3 h5 h4
theorem own_cells {w : World} {e : TypeId} {s n m k : Nat} {v : Value} {xs : List Value} (h : w.ownsRow n e s v m xs) (hk : v.ownBlock = some k) : ∃ c t fr, bk w k = some (.cells c t fr) := by
  rcases h.2 with ⟨q, _⟩ | ⟨g, cap, cur, q, _, hb, _⟩
  · rw [q] at hk; cases hk
  · rw [q] at hk; cases hk; exact ⟨cur, _, _, hb⟩
theorem AnsR.obj {w : World} {n D : Nat} {o o' : Obj} {SA DA : Option Addr} {sv ds : List (List UInt8)} {c1 c2 : Nat} (h : AnsR w n SA DA sv ds c1 c2) (hD : w.heap[D]? = some o) (ho : o.isCells = false) : AnsR (w.putObj D o') n SA DA sv ds c1 c2 := by
  have key : ∀ k, (∃ c t fr, bk w k = some (.cells c t fr)) → bk (w.putObj D o') k = bk w k := fun k ⟨c, t, fr, hk⟩ => World.putObj_heap_other fun e => by
    subst e
    rw [show w.heap[k]? = _ from hk] at hD
    cases hD
    cases ho
  exact ⟨own_turnS h.hs fun k hk => key k (own_cells h.hs hk), own_turnS h.hd fun k hk => key k (own_cells h.hd hk), h.ne⟩
theorem AnsR.setRow {w : World} {n r : Nat} {c : Array Value} {SA DA : Option Addr} {sv ds : List (List UInt8)} {c1 c2 : Nat} (h : AnsR w n SA DA sv ds c1 c2) (hr : r < n) : AnsR (w.setRow r c) n SA DA sv ds c1 c2 :=
  ⟨own_turnS h.hs fun k hk => bk_setRow_other _ _ _ _ (by have := (h.hs.lt k hk).1; omega), own_turnS h.hd fun k hk => bk_setRow_other _ _ _ _ (by have := (h.hd.lt k hk).1; omega), h.ne⟩
/-- The addresses that an option's chunks tell. -/
def svf (b : List UInt8) (l : List Nat) : List (List UInt8) := l.flatMap fun j => if 16 * (j + 1) ≤ b.length then [(b.drop (16 * j)).take 16] else []
def srv' (d : Option (List UInt8)) : List (List UInt8) := svf (d.getD []) (List.range (((d.getD []).length + 15) / 16))
theorem svf_snoc (b : List UInt8) (l : List Nat) (x : Nat) : svf b (l ++ [x]) = svf b l ++ if 16 * (x + 1) ≤ b.length then [(b.drop (16 * x)).take 16] else [] := by simp [svf]
theorem svf_len (b : List UInt8) : ∀ l : List Nat, (svf b l).length ≤ l.length
  | [] => Nat.le_refl _
  | x :: l => by
    have := svf_len b l
    show ((if 16 * (x + 1) ≤ b.length then [(b.drop (16 * x)).take 16] else []) ++ svf b l).length ≤ l.length + 1
    rw [List.length_append]
    split
    · show 1 + _ ≤ _
      omega
    · show 0 + _ ≤ _
      omega
theorem chunkG_in (n : Nat) (A : Option Addr) (L c : Nat) (w : World) :
    CallsIn Fence.wide n Try.prog 58 #[.slice A L c, .int .i64 16] w fun e w' => e = .returned (.func (.func 79) #[] #[.pointer (some ⟨w.heap.size, 0, none⟩), .pointer (some ⟨w.heap.size + 1, 0, none⟩)]) ∧ w' = (w.alloc (.cells #[.slice A L c] 22)).alloc (.cells #[.int .i64 16] 3) := by
  refine callsIn_of_wp Try.func58 rfl trivial ?_ rfl
  simp only [Try.ntmps58, List.size_toArray, List.length_cons, List.length_nil, Nat.reduceAdd, Nat.reduceSub, Array.replicate_succ, Array.replicate_zero, List.push_toArray, List.append_toArray, List.nil_append, List.cons_append]
  gi_wp2
  go_ret
  exact ⟨rfl, rfl⟩
def ansZ (SA : Option Addr) (k c : Nat) : Array Value := #[.slice SA k c, .slice none 0 0, .int .u32 0]
/-- What holds in the loop over the chunks. -/
def SvI (w : World) (m0 : Nat) (b : List UInt8) (pre : List Nat) (W : World) : Prop :=
  ∃ SA c1, bk W w.heap.size = some (.cells (ansZ SA (svf b pre).length c1) 36 (0, 0)) ∧ OutA W m0 (.slice SA (svf b pre).length c1) (svf b pre) ∧ (svf b pre).length ≤ c1 ∧ Below w.heap.size w W ∧ m0 ≤ W.heap.size
theorem svI_own {w : World} {m0 B : Nat} {b : List UInt8} (hB : w.heap.size ≤ B) : OwnFrom B (SvI w m0 b) := by
  rintro s W W' row ⟨SA, c1, h1, h2, h3, h4, h5⟩ hg hr
  have key : ∀ k o, bk W k = some o → o.isCells = true → bk W' k = bk W k := fun k o hk ho => grownBy_keeps_cells hg (fun r e => (hr r e).2) hk ho
  refine ⟨SA, c1, (key _ _ h1 rfl).trans h1, own_turnS h2 fun k hk => ?_, h3, h4.grown hg (by have := h4.size; omega) (fun k e => by have := (hr k e).1; omega), Nat.le_trans h5 hg.size⟩
  obtain ⟨c, t, fr, hc⟩ := own_cells h2 hk
  exact key k _ hc rfl
theorem look23 {w : World} {M : Nat → Option Value} {d : Option (List UInt8)} (h : OptAt w M 23 d) : ∃ A c p o, (M 23).getD (.slice none 0 0) = .slice A (d.getD []).length c ∧
    (0 < (d.getD []).length → A = some ⟨p, o, none⟩) ∧ Rd w w.heap.size A (d.getD []) ∧ (d.getD []).length ≤ c ∧ c < 2 ^ 63 ∧ (d.getD []).length < 2 ^ 30 := by
  unfold OptAt at h
  cases d with
  | none =>
    have h' : M 23 = none := h
    rw [h']
    exact ⟨none, 0, 0, 0, rfl, fun h => absurd h (by simp), Rd.nil, Nat.le_refl _, by decide, by decide⟩
  | some d =>
    obtain ⟨b, o, c, h1, h2, h3, h4, h5⟩ := h
    rw [h1]
    exact ⟨some ⟨b, o, none⟩, c, b, o, rfl, fun _ => rfl, h2, h3, h4, h5⟩
theorem run_arrayAt {P : Program} (w : World) (arr e : TypeId) (n : Nat) (a : Option Addr) (l c : Nat) (ha : P.underlying arr = some (.array n e)) (h : n ≤ l) :
    (Instr.arrayAt arr (.slice a l c)).run P w = .ok (.pointer a) w := by
  have : ¬ l < n := by omega
  simp [Instr.arrayAt, run_underlying ha, this]
@[go_sem] theorem arr16 (a : Option Addr) (w : World) : (Instr.arrayAt 110 (.slice a 16 16)).run Try.prog w = .ok (.pointer a) w := run_arrayAt w _ _ 16 a 16 16 Try.underlying110 (Nat.le_refl _)
def zero16 : Array Value := #[.int .u8 0, .int .u8 0, .int .u8 0, .int .u8 0, .int .u8 0, .int .u8 0, .int .u8 0, .int .u8 0, .int .u8 0, .int .u8 0, .int .u8 0, .int .u8 0, .int .u8 0, .int .u8 0, .int .u8 0, .int .u8 0]
theorem infoAd : (Try.prog.info? 110).map (fun i => (i.zero, i.size, i.bytes)) = some (some (.agg zero16), 16, 16) := by kernel_rfl
theorem fold_ad (c : Array Value) (h : c.size = 16) : Array.foldl (fun cs x => cs.setIfInBounds x.snd x.fst) (#[.int .u8 0, .int .u8 0, .int .u8 0, .int .u8 0, .int .u8 0, .int .u8 0, .int .u8 0, .int .u8 0, .int .u8 0, .int .u8 0, .int .u8 0, .int .u8 0, .int .u8 0, .int .u8 0, .int .u8 0, .int .u8 0] : Array Value) c.zipIdx 0 16 = c := by
  have e := fill_all (fun k => some (k * 16, 16)) [.agg c] 0 0 zero16 (by simp [placesOk, Value.cells, h]) (by simp [widths, Value.cells, h, zero16])
  simp [widths, Value.cells, h, partsAt, Instr.fill, zero16] at e
  simpa using e
theorem adV_append (l r : List (List UInt8)) : adV (l ++ r) = adV l ++ adV r := by simp [adV]
theorem adV_one (z : List UInt8) : adV [z] = z.map B := by simp [adV]
theorem ads_kept {D : List TypeId} {m n : Nat} {w w' : World} {v : Value} {ss : List (List UInt8)} (h : OutA w m v ss) (hd : 110 ∉ D) (hk : Kept n D w w') : OutA w' m v ss := by
  obtain ⟨hl, h1 | ⟨g, cap, cur, h1, hg, hb, h2⟩⟩ := h
  · exact ⟨hl, .inl h1⟩
  · exact ⟨hl, .inr ⟨g, cap, cur, h1, hg, hk.row (show bk w g = _ from hb) hd, h2⟩⟩
section
variable {m : Nat}
/-- A row of addresses of one's own, one more behind it. -/
def MadeW.ads (m : Nat) (ss : List (List UInt8)) : MadeW m where
  T v := ∃ A c, v = .slice A ss.length c ∧ ss.length ≤ c
  R v w := OutA w m v ss
  D := [110]
  O := [110]
  inh := ⟨.slice none ss.length ss.length, _, _, rfl, Nat.le_refl _⟩
  mono := fun D v w w' hd hk h => ads_kept h (fun h' => hd _ h' (by simp)) hk
theorem ads_T {M : MadeW m} {ss : List (List UInt8)} {v : Value} (HM : Hid (M = MadeW.ads m ss)) (h : M.T v) : ∃ A c, v = .slice A ss.length c ∧ ss.length ≤ c := by
  have := HM.out
  subst this
  exact h
theorem ads_R {M : MadeW m} {ss : List (List UInt8)} {v : Value} {w : World} (HM : Hid (M = MadeW.ads m ss)) (h : M.R v w) : OutA w m v ss := by
  have := HM.out
  subst this
  exact h
def Ent.ads (k : Nat) {M : MadeW m} {ss : List (List UInt8)} (HM : Hid (M = MadeW.ads m ss)) : Ent m := ⟨k, fun _ => M, [110], [110], [], fun _ => by have := HM.out; subst this; exact ⟨rfl, rfl⟩⟩
theorem append_ads {M : MadeW m} {o : Oper} {a : Act} {w : World} {s x : Operand} (ho : o.op = .call { callee := .builtin .append, args := #[s, x], argTypes := #[33, 33] })
    {v : Value} {l1 : List (List UInt8)} {z : List UInt8} (HM : Hid (M = MadeW.ads m (l1 ++ [z]))) (hs : a.eval s = v) (hown : OutA w m v l1) {b : Nat} (hx : a.eval x = .slice (some ⟨b, 0, none⟩) 1 1) (hb : bk w b = some (.cells (z.map B).toArray 110 (0, 0))) (hz : z.length = 16)
    (hl : l1.length < 2 ^ 30) (hbase : m ≤ w.heap.size) : madeAtW Try.prog M o a w := by
  obtain ⟨i0, hi, hz0, hz1, hz2⟩ := info_parts infoAd
  obtain ⟨v', w', hrun, h2, h3, _⟩ := run_append_own (P := Try.prog) w m 33 o.type 110 i0 (.agg zero16) 16 16 Try.underlying33 hi hz0 hz1 hz2 rfl (by decide) v l1.length (adV l1) hown ⟨b, 0, none⟩ 1 1 (z.map B) (by simp [hz]) (fun j u hu => by
    have hj : ((⟨b, 0, none⟩ : Addr).add j) = ⟨b, j, none⟩ := by unfold Addr.add; split <;> simp_all
    rw [hj, bk_cell hb]
    simpa using hu) (B_one z) (by unfold maxLen; omega) (by omega) hbase
  have h2' : OutA w' m v' (l1 ++ [z]) := by
    unfold OutA
    rw [List.length_append, adV_append, adV_one]
    exact h2
  unfold madeAtW execOp
  simp only [ho, resolve, invoke, builtin, Sem.run_bind, Sem.run_pure, Result.andThen_ok, List.map_toArray, List.map_cons, List.map_nil, hs, hx, hrun]
  have hk : Kept m [110] w w' := Kept.grown h3 hbase fun g hg => by
    have h4 := (hown.lt g hg).1
    obtain ⟨_, ⟨rfl, _⟩ | ⟨g', cap, cur, rfl, _, hb', _⟩⟩ := hown
    · cases hg
    · cases hg
      exact ⟨h4, cur, _, _, hb', by simp⟩
  have := HM.out
  subst this
  exact ⟨hk, own_slS h2', h2'⟩
theorem others_kept {D : List TypeId} {W w w' : World} (h : KeepsOthers W w) (hk : Kept m D w w') : KeepsOthers W w' :=
  ⟨Nat.le_trans h.size hk.size, fun k o ho hc => by
    have h1 := h.same k o ho hc
    have h2 := hk.block k (Array.getElem?_eq_some_iff.1 h1).1 (fun c t fr hb => by
      rw [show bk w k = w.heap[k]? from rfl, h1] at hb
      cases hb
      cases hc)
    exact h2.trans h1⟩
def fsO (W : World) (m : Nat) (v : Value) (ss : List (List UInt8)) : Fs := fun j w => (j = 12 → KeepsOthers W w) ∧ (j = 13 → OutA w m v ss)
def Ent.rest1 (m k : Nat) (t : TypeId) : Ent m := ⟨k, fun _ => ⟨fun _ => True, fun _ _ => True, [], [t], ⟨undef, trivial⟩, fun _ _ _ _ _ _ h => h⟩, [], [t], [], fun _ => ⟨rfl, rfl⟩⟩
theorem ini_others {E : EnvW} {v : Value} {ss : List (List UInt8)} (hs : E.ops.size ≤ 12) (ho : E.Ot 13 = [110]) (hO : OutA E.W E.m v ss) : E.Ini (fsO E.W E.m v ss) :=
  ⟨fun j D w w' hd hk h => ⟨fun e => others_kept (h.1 e) hk, fun e => ads_kept (h.2 e) (fun h' => by subst e; exact hd _ h' (by rw [ho]; simp)) hk⟩, fun j hj w => ⟨fun e => by omega, fun e => by omega⟩, fun j => ⟨fun _ => KeepsOthers.refl _, fun _ => hO⟩⟩
end
def noDefer : Op → Bool
  | .defer .. => false
  | _ => true
theorem nd_of {L : List Oper} (h : (L.all fun o => noDefer o.op) = true) (i : Nat) (o : Oper) (ho : L.toArray[i]? = some o) : ∀ c, o.op ≠ .defer c := by
  intro c
  have hm : o ∈ L := by
    rw [List.getElem?_toArray] at ho
    exact List.mem_of_getElem? ho
  have := List.all_eq_true.1 h o hm
  intro e
  rw [e] at this
  cases this
/-- Bytes that are read lie in a block of cells. -/
theorem Rd.obj {w : World} {n bb o : Nat} {l : List UInt8} (h : Rd w n (some ⟨bb, o, none⟩) l) (h0 : 0 < l.length) :
    ∃ c t fr, bk w bb = some (.cells c t fr) ∧ o + l.length ≤ c.size ∧ ∀ i m, i + m ≤ l.length → xt c (o + i) m = (List.map B ((l.drop i).take m)).toArray := by
  obtain ⟨b', o', e, hlt, hc⟩ := h h0
  cases e
  have h1 := hc 0 h0
  rw [Nat.add_zero] at h1
  have hobj : ∃ c t fr, bk w bb = some (.cells c t fr) := by
    unfold World.cell? at h1
    split at h1
    · rename_i c t fr hb; exact ⟨c, t, fr, hb⟩
    · cases h1
  obtain ⟨c, t, fr, hb⟩ := hobj
  have hcell : ∀ j (hj : j < l.length), c[o + j]? = some (B l[j]) := fun j hj => by rw [← bk_cell hb]; exact hc j hj
  have hsz : o + l.length ≤ c.size := by
    have := hcell (l.length - 1) (by omega)
    have := (Array.getElem?_eq_some_iff.1 this).1
    omega
  refine ⟨c, t, fr, hb, hsz, fun i m him => ?_⟩
  apply Array.ext_getElem?
  intro j
  unfold xt
  rw [Array.getElem?_extract]
  by_cases hj : j < m
  · rw [if_pos (by omega), Nat.add_assoc, hcell (i + j) (by omega)]
    simp [hj, List.getElem?_drop, List.getElem?_eq_getElem (show i + j < l.length by omega)]
  · rw [if_neg (by omega)]
    simp [List.getElem?_take, hj]
theorem answer2_in (n : Nat) (hn : 4 ≤ n) (g nn : Nat) (M : Nat → Option Value) (d23 d24 d : Option (List UInt8)) (w : World) (hM : MapIs w g nn M) (h23 : OptAt w M 23 d23) (h24 : OptAt w M 24 d24) (h32 : OptAt w M 32 d) :
    CallsIn Fence.wide n Try.prog 28 #[.map (some g)] w fun e w' => ∃ SA DA c1 c2, e = .returned (.agg (ansG SA DA (srv' d23).length (dnm d24).length (frsh d))) ∧ AnsR w' (w.heap.size + 1) SA DA (srv' d23) (dnm d24) c1 c2 ∧ Below w.heap.size w w' := by
  have h1 : 1 ≤ n := by omega
  have HM := Lib.hid hM; have O23 := Lib.hid h23; have O24 := Lib.hid h24; have H32 := Lib.hid h32.at32
  clear hM h23 h24 h32
  refine callsIn_of_wp_marks Try.func28 rfl trivial ?_ rfl
  simp only [Try.ntmps28, List.size_toArray, List.length_cons, List.length_nil, Nat.reduceAdd, Nat.reduceSub, Array.replicate_succ, Array.replicate_zero, List.push_toArray, List.append_toArray, List.nil_append, List.cons_append]
  refine wpIn_wide.2 ?_
  go_upto_region 1 with fail
  have b1 : Below w.heap.size w (w.alloc (.cells (ansC 0) 36 (0, 0))) := (Below.refl _ _).alloc (Nat.le_refl _) _
  have K1 := Lib.hid (bk_alloc_at w (.cells (ansC 0) 36 (0, 0)) _ rfl)
  have M1 := Lib.hid (HM.out.turn (Tn.of b1) (F := fun _ => False) (fun e => e))
  have B1 := Lib.hid b1
  change Code.wp _ _ _ _ (w.alloc (.cells (ansC 0) 36 (0, 0)))
  clear b1
  generalize w.alloc (.cells (ansC 0) 36 (0, 0)) = w1 at *
  obtain ⟨b, hb⟩ : ∃ b, b = d23.getD [] := ⟨_, rfl⟩
  obtain ⟨A, c, p, o, hl0, hA, hRd, hLc, hc63, hL30⟩ := look23 O23.out
  have hl := M1.out.look (k := 23) (by decide)
  rw [hl0] at hl
  rw [← hb] at hl hA hRd hLc hL30
  have HBB := Lib.hid hb
  have HAD := Lib.hid (And.intro hA (And.intro hRd (And.intro hLc (And.intro hc63 hL30))))
  obtain ⟨L, hL⟩ : ∃ L, L = b.length := ⟨_, rfl⟩
  have HLL := Lib.hid hL
  rw [← hL] at hl
  have CK := Lib.hid ((callsIn_wide (n := 1)).1 (chunkG_in 1 A L c w1))
  clear hb hA hRd hLc hc63 hL30 hL hl0 O23
  have hl' : Sem.run Try.prog (Instr.lookup 70 (.map (some g)) (.int .u64 23) false) w1 = .ok (.slice A L c) w1 := hl
  clear hl
  go_wp2_with fail
  refine CK.out.mono ?_
  rintro e w2 ⟨rfl, rfl⟩
  clear hl' CK
  have b2 : Below w1.heap.size w1 ((w1.alloc (.cells #[.slice A L c] 22)).alloc (.cells #[.int .i64 16] 3)) := (by (repeat (first | exact Below.refl _ _ | assumption | refine Below.drew ?_ | refine bdrewN ?_ _ | refine Below.alloc ?_ (by first | omega | (simp <;> omega) | (simp only [World.size_alloc] <;> omega)) _ | refine below_setRow ?_ (by first | omega | (simp <;> omega)) _ | refine Below.setCell ?_ (by first | omega | (simp <;> omega)) _)))
  have L2 : (w1.alloc (.cells #[.slice A L c] 22)).heap.size = w1.heap.size + 1 := World.size_alloc _ _
  have kb : bk ((w1.alloc (.cells #[.slice A L c] 22)).alloc (.cells #[.int .i64 16] 3)) w1.heap.size = some (.cells #[.slice A L c] 22 (0, 0)) := (bk_alloc_past _ _ _ (by omega)).trans (bk_alloc_at _ _ _ rfl)
  have kb2 : bk ((w1.alloc (.cells #[.slice A L c] 22)).alloc (.cells #[.int .i64 16] 3)) (w1.heap.size + 1) = some (.cells #[.int .i64 16] 3 (0, 0)) := bk_alloc_at _ _ _ L2.symm
  have hlt : w1.heap.size + 1 < ((w1.alloc (.cells #[.slice A L c] 22)).alloc (.cells #[.int .i64 16] 3)).heap.size := by simp <;> omega
  have K2 := Lib.hid (bk_keep b2 (bk_lt K1.out) K1.out)
  have B2 := Lib.hid (B1.out.trans (b2.mono B1.out.size))
  have W12 := Lib.hid (bk_lt K1.out)
  have KB := Lib.hid (And.intro kb kb2)
  have HLT := Lib.hid hlt
  clear b2 L2 kb kb2 hlt K1 M1 B1
  go_wp2_with fail
  generalize (w1.alloc (.cells #[.slice A L c] 22)).alloc (.cells #[.int .i64 16] 3) = w2 at *
  obtain ⟨q1, hq1⟩ : ∃ q, q = w1.heap.size := ⟨_, rfl⟩
  have HQ1 : Hid (w.heap.size < q1 ∧ q1 + 1 < w2.heap.size) := Lib.hid (by rw [hq1]; exact ⟨W12.out, HLT.out⟩)
  rw [← hq1] at KB ⊢
  clear hq1 HLT W12
  refine (wpIn_wide (n := n)).1 ?_
  refine wpIn_rangeFunc_ownF rfl h1 (gf := 79) (lb := #[.pointer (some ⟨q1, 0, none⟩), .pointer (some ⟨q1 + 1, 0, none⟩)]) rfl trivial (enters_of Try.func79 (by kernel_rfl) rfl)
    (encs := chv p o L) (Kp := KpC q1 (q1 + 1)) (S := fun ys => ys = List.range ((L + 15) / 16)) (Sp := fun _ => True) (N := (L + 15) / 16) (w0 := w2)
    (fun l J Jx W hW hJ _ hY h0 => chunk1_in (n - 1) (by omega) l q1 (q1 + 1) p o L c A J Jx (by rw [HLL.out]; exact HAD.out.1) (by have := HAD.out.2.2.2.2; have := HLL.out; omega) (by rw [HLL.out]; exact HAD.out.2.2.1) HAD.out.2.2.2.1 hY (fun xs W1 h => hJ xs W1 W1.drew none h ⟨rfl, rfl, rfl, Nat.le_refl _, fun _ _ _ => rfl⟩ (fun r e => by cases e)) W ((hW.cell (p := ⟨q1, 0, none⟩) (Nat.lt_of_succ_lt HQ1.out.2)).trans (bk_cell KB.out.1 0)) ((hW.cell (p := ⟨q1 + 1, 0, none⟩) HQ1.out.2).trans (bk_cell KB.out.2 0)) h0)
    (fun h k => ⟨k.1.trans h.1, k.2.trans h.2⟩) (fun W l o o' hl _ _ _ => ?kb) (Below.refl _ _) (fun _ => rfl)
    (SvI w w2.heap.size b) (fun _ _ _ => False) (svI_own B2.out.size) (fun _ _ _ _ _ hs _ _ => hs) ⟨none, 0, K2.out, World.ownsRow_nil _ _ _ _, Nat.le_refl _, B2.out, Nat.le_refl _⟩
    (fun x => { tmps := #[.map (some g), undef, .pointer (some ⟨w.heap.size, 0, none⟩), .slice (some ⟨p, o + 16 * x, none⟩) (clen L x) (clen L x), undef, .map (some g), .slice A L c, .func (.func 79) #[] #[.pointer (some ⟨q1, 0, none⟩), .pointer (some ⟨q1 + 1, 0, none⟩)], .slice (some ⟨p, o + 16 * x, none⟩) (clen L x) (clen L x), undef, undef, undef, undef, undef, undef, undef, undef, undef, undef, undef, undef, undef, undef, undef, undef, undef, undef, undef, undef, undef, undef, undef, undef, undef, undef, undef, undef, undef, undef, undef, undef, undef, undef], defers := [] }) ?assign ?body ?done ?stop
  case kb =>
    have h0 := HQ1.out.2
    have e1 : (W.putObj l o').heap[q1]? = W.heap[q1]? := World.putObj_heap_other (by omega)
    have e2 : (W.putObj l o').heap[q1 + 1]? = W.heap[q1 + 1]? := World.putObj_heap_other (by omega)
    exact ⟨by simp only [World.cell?, e1], by simp only [World.cell?, e2]⟩
  case assign =>
    intro l x W K hK
    unfold chv
    gi_wp2
    exact hK
  case body =>
    intro l pre x W hI hlt
    by_cases hx : 16 * (x + 1) ≤ L
    · have hcl : clen L x = 16 := by unfold clen; omega
      rw [hcl]
      have hA := HAD.out.1 (by rw [← HLL.out]; omega)
      subst hA
      obtain ⟨SA, c1, hbk, hOA, hsc, hB, hm0⟩ := hI
      obtain ⟨cc, t, fr, hob, hosz, hoxt⟩ := (HAD.out.2.1.below hB (Nat.le_refl _)).obj (by rw [← HLL.out]; omega)
      obtain ⟨_, _, e9, hpw, _⟩ := HAD.out.2.1 (by rw [← HLL.out]; omega)
      cases e9
      obtain ⟨z, hz⟩ : ∃ z, z = (b.drop (16 * x)).take 16 := ⟨_, rfl⟩
      have hzl : z.length = 16 := by rw [hz, List.length_take, List.length_drop]; have := HLL.out; omega
      have hxt := hoxt (16 * x) 16 (by have := HLL.out; omega)
      rw [← hz] at hxt
      have hsz : o + 16 * x + 16 ≤ cc.size := by have := HLL.out; omega
      have e : svf b (pre ++ [x]) = svf b pre ++ [z] := by rw [svf_snoc, if_pos (by rw [← HLL.out]; exact hx), hz]
      obtain ⟨ss, hss⟩ : ∃ ss, ss = svf b pre := ⟨_, rfl⟩
      rw [← hss] at hbk hOA hsc e
      have hsl : ss.length < 2 ^ 30 := by rw [hss]; have h1 := svf_len b pre; have h2 := HAD.out.2.2.2.2; have h3 := HLL.out; omega
      obtain ⟨K, hK⟩ : ∃ K, K = ss.length := ⟨_, rfl⟩
      have HSS := Lib.hid (And.intro e (And.intro hsl hK))
      have HOA := Lib.hid hOA
      have HMW := Lib.hid hm0
      have HBB2 := Lib.hid hB
      have HZ := Lib.hid hzl
      rw [← hK] at hbk hsc
      obtain ⟨m, hm⟩ : ∃ m, m = w2.heap.size := ⟨_, rfl⟩
      have lr : w.heap.size < m := by rw [hm]; have := HQ1.out; omega
      have lp : p < m := by omega
      have hmw : m ≤ W.heap.size := by rw [hm]; exact hm0
      have hzs : ((z.map B).toArray : Array Value).size = 16 := by simp [hzl]
      rw [← hm] at HOA
      have HM2 := Lib.hid hm
      have HKR := Lib.hid hbk
      have c0 : W.cell? ⟨w.heap.size, 0, none⟩ = some (.slice SA K c1) := bk_cell hbk 0
      obtain ⟨Y, hY⟩ : ∃ Y, Y = (z.map B).toArray := ⟨_, rfl⟩
      have HY := Lib.hid hY
      rw [← hY] at hxt hzs
      clear hoxt hosz hOA hss hsl hK hm0 hB hzl hz hm e hlt hcl hY
      gi_wp2
      obtain ⟨M5, hM5⟩ : ∃ M : MadeW m, M = MadeW.row _ (fun b => .slice (some ⟨b, 0, none⟩) 1 1) Y 110 := ⟨_, rfl⟩
      have H5 := Lib.hid hM5
      obtain ⟨M6, hM6⟩ : ∃ M : MadeW m, M = MadeW.ads _ (ss ++ [z]) := ⟨_, rfl⟩
      have H6 := Lib.hid hM6
      clear hM5 hM6
      refine wpIn_region_round m 8 [.row 5 H5, .ads 6 H6, .rest1 m 13 110] (fun k => (([(6, [5, 13])] : List (Nat × List Nat)).lookup k).getD []) (fsO W m (.slice SA K c1) ss) (nd_of (by kernel_rfl)) (by rintro ⟨a, w9, h⟩; exact h) hmw (by kernel_rfl) (by kernel_rfl) (by kernel_rfl) (by kernel_rfl) (ini_others (by show 9 ≤ 12; decide) rfl (by have h := HOA.out; rw [← HSS.out.2.2] at h; exact h)) ?_
      simp only [List.take_succ_cons, List.take_zero, List.drop_succ_cons, List.drop_zero]
      refine walkW_segn 5 [] facts0 noneHx (by kernel_rfl) (by kernel_rfl) ?_
      simp only [List.take_succ_cons, List.take_zero, List.drop_succ_cons, List.drop_zero, Nat.reduceAdd]
      repeat (go_big_quiet_step (fail))
      (first | refine wpQuiet_nil ?_ | (go_big_quiet_want; (try go_big_quiet_op); trace_state; fail))
      refine walkW_mk (fun _ => M5) [] M5 ([]) facts0 (by kernel_rfl) (by kernel_rfl) (by kernel_rfl) rfl rfl (fun w' hb' hg' => ?_) (fun v5 h5 => ?_)
      · unfold madeAtW
        go_simp
        ((rw [fold_ad _ hzs]; exact (row_mk (b := w'.heap.size) H5 ((Below.refl _ _).alloc (Nat.le_refl _) _) (Nat.le_trans hmw hb'.size) (Nat.le_trans hmw hb'.size) (bk_alloc_at _ _ _ rfl) :)))
      obtain ⟨b5, m5, rfl⟩ := row_T H5 h5
      simp only [Act.put, List.setIfInBounds_toArray, List.set_cons_succ, List.set_cons_zero, Nat.reduceAdd]
      refine walkW_mk (fun _ => M6) [] M6 ([(5, M5.R (.slice (some ⟨b5, 0, none⟩) 1 1)), (13, fun w => OutA w m (.slice SA K c1) ss)]) (facts2 (fun w h => h.1 rfl) (fun w h => h.2.2 rfl)) (by kernel_rfl) (by kernel_rfl) (by kernel_rfl) rfl rfl (fun w' hb' hg' => ?_) (fun v6 h6 => ?_)
      · ((exact append_ads rfl H6 rfl (hg' _ (.tail _ (.head _))) rfl (by have h := row_R H5 (fun b b' h => by simpa using h) (hg' _ (.head _)); rw [HY.out] at h; exact h) HZ.out HSS.out.2.1 (Nat.le_trans hmw hb'.size)))
      obtain ⟨SA6, c6, rfl, hc6⟩ := ads_T H6 h6
      simp only [Act.put, List.setIfInBounds_toArray, List.set_cons_succ, List.set_cons_zero, Nat.reduceAdd]
      refine walkW_segn 1 [] facts0 noneHx (by kernel_rfl) (by kernel_rfl) ?_
      simp only [List.take_succ_cons, List.take_zero, List.drop_succ_cons, List.drop_zero, Nat.reduceAdd]
      repeat (go_big_quiet_step (fail))
      (first | refine wpQuiet_nil ?_ | (go_big_quiet_want; (try go_big_quiet_op); trace_state; fail))
      refine walkW_nil ?_
      intro w6 b6 hf
      have hO6 := ads_R H6 ((hf 6 (by kernel_rfl)).1 rfl)
      have hKO := (hf 12 (by kernel_rfl)).2.2.1 rfl
      have k6 := bk_keep b6 lr HKR.out
      have c6' : w6.cell? ⟨w.heap.size, 0, none⟩ = some (.slice SA K c1) := bk_cell k6 0
      have f6 := bk_frozen k6 0
      have l6 := bk_lt k6
      have HO6 := Lib.hid hO6
      have HKO := Lib.hid hKO
      have HB6 := Lib.hid b6
      have HK6 := Lib.hid k6
      have HLR := Lib.hid (And.intro lr hmw)
      clear hf hO6 hKO b6 k6 h5 h6 H5 H6 c0 hob hxt hsz lp hpw lr hmw
      go_wp2_with fail
      have e := HSS.out.1
      have hq := HQ1.out
      have hlr := HLR.out
      refine ⟨HKO.out.trans (KeepsOthers.setCell _ _ _), ⟨?_, ?_⟩, SA6, c6, ?_, ?_, ?_, ?_, ?_⟩
      · exact (World.cell?_setCell_other _ _ _ _ (by simp <;> omega)).trans (HB6.out.cell (p := ⟨q1, 0, none⟩) (by rw [HM2.out]; show q1 < _; omega))
      · exact (World.cell?_setCell_other _ _ _ _ (by simp <;> omega)).trans (HB6.out.cell (p := ⟨q1 + 1, 0, none⟩) (by rw [HM2.out]; show q1 + 1 < _; omega))
      · rw [bk_setCell_same, HK6.out, e, List.length_append]; rfl
      · rw [e, ← HM2.out]
        exact own_turnS HO6.out fun k hk => bk_setCell_other _ _ _ _ _ (by have h1 := (HO6.out.lt k hk).1; omega)
      · rw [e]; exact hc6
      · exact (HBB2.out.trans (HB6.out.mono (by omega))).setCell (p := ⟨w.heap.size, 0, none⟩) (Nat.le_refl _) _
      · rw [World.size_setCell, ← HM2.out]; exact Nat.le_trans hlr.2 HB6.out.size
    · have hcl : ((clen L x : Nat) : Int) ≠ 16 := by unfold clen; omega
      have n1 : (((clen L x : Nat) : Int) == 16) = false := beq_eq_false_iff_ne.2 hcl
      have e : svf b (pre ++ [x]) = svf b pre := by rw [svf_snoc, if_neg (by rw [← HLL.out]; exact hx), List.append_nil]
      have HI := Lib.hid (show SvI w w2.heap.size b (pre ++ [x]) W by unfold SvI; rw [e]; exact hI)
      clear hcl e hI hx
      gi_wp2
      exact ⟨KeepsOthers.refl _, ⟨rfl, rfl⟩, HI.out⟩
  case stop =>
    rintro D c pre W _ _ h _
    exact h.elim
  case done =>
    rintro D ys W hD rfl hI hK
    obtain ⟨SA, c1, hbk, hOA, hsc, hB, hm0⟩ := hI
    obtain ⟨sv, hsv⟩ : ∃ sv, sv = svf b (List.range ((L + 15) / 16)) := ⟨_, rfl⟩
    rw [← hsv] at hbk hOA hsc
    have HSV : Hid (sv = srv' d23) := Lib.hid (by rw [hsv, HLL.out, HBB.out]; rfl)
    obtain ⟨ns, hns⟩ : ∃ n, n = sv.length := ⟨_, rfl⟩
    rw [← hns] at hbk hsc
    have HNS := Lib.hid hns
    have K3 := Lib.hid hbk
    have S3 := Lib.hid (And.intro hOA hsc)
    have M3 := Lib.hid (HM.out.turn (Tn.of hB) (F := fun _ => False) (fun e => e))
    have A3 := Lib.hid (H32.out.below hB)
    have O3 := Lib.hid (O24.out.below hB)
    have B3 := Lib.hid hB
    have HD := Lib.hid (And.intro hK (Nat.le_trans B2.out.size hD))
    have HM0 := Lib.hid (And.intro hm0 (show w.heap.size + 1 ≤ w2.heap.size by have := HQ1.out; omega))
    clear hbk hOA hsc hB hm0 hsv hns hK hD K2 B2 KB O24 HAD HLL HBB
    obtain ⟨vD, hvD, hND⟩ := names_opt M3.out O3.out
    go_upto_region 5 with fail
    have c0 : W.cell? ⟨w.heap.size, 0, none⟩ = some (.slice SA ns c1) := bk_cell K3.out 0
    have lx := bk_lt K3.out
    have HWW := Lib.hid B3.out.size
    obtain ⟨ds, hds⟩ : ∃ ds, ds = dnm d24 := ⟨_, rfl⟩
    have HDS := Lib.hid hds
    rw [← hds] at hND
    obtain ⟨MT, hMT⟩ : ∃ M : MadeW W.heap.size, M = MadeW.txt _ ds := ⟨_, rfl⟩
    have HT := Lib.hid hMT
    have HNC := Lib.hid hND
    clear hvD hND hds hMT
    refine wp_region_e_tail (W.heap.size) 8 ([.val W.heap.size 2 (.slice SA ns ns), .val W.heap.size 4 vD, .txt 5 HT, .clip W.heap.size 6 [25]]) (fun _ => []) (Fs.nil) (by first | omega | (simp <;> omega)) (by kernel_rfl) (by kernel_rfl) (by kernel_rfl) (by kernel_rfl) EnvW.Ini.nil ?_
    simp only [List.take_succ_cons, List.take_zero, List.drop_succ_cons, List.drop_zero]
    refine walkW_segn 2 [] facts0 noneHx (by kernel_rfl) (by kernel_rfl) ?_
    simp only [List.take_succ_cons, List.take_zero, List.drop_succ_cons, List.drop_zero, Nat.reduceAdd]
    repeat (go_big_quiet_step (fail))
    (first | refine wpQuiet_nil ?_ | (go_big_quiet_want; (try go_big_quiet_op); trace_state; fail))
    refine walkW_val (.slice SA ns ns) (fun _ => .val (.slice SA ns ns)) [] ([]) facts0 (by kernel_rfl) (by kernel_rfl) (by kernel_rfl) rfl rfl (fun w' hb' hg' => ?_) ?_
    · unfold madeAtW
      go_simp
      ((refine (clipA_any SA ns c1 S3.out.2 w').mono ?_; rintro e w2 ⟨rfl, hb⟩; exact valW hb hb'.size))
    simp only [Act.put, List.setIfInBounds_toArray, List.set_cons_succ, List.set_cons_zero, Nat.reduceAdd]
    refine walkW_segn 1 [] facts0 noneHx (by kernel_rfl) (by kernel_rfl) ?_
    simp only [List.take_succ_cons, List.take_zero, List.drop_succ_cons, List.drop_zero, Nat.reduceAdd]
    repeat (go_big_quiet_step (fail))
    (first | refine wpQuiet_nil ?_ | (go_big_quiet_want; (try go_big_quiet_op); trace_state; fail))
    refine walkW_val (vD) (fun _ => .val (vD)) [] ([]) facts0 (by kernel_rfl) (by kernel_rfl) (by kernel_rfl) rfl rfl (fun w' hb' hg' => ?_) ?_
    · unfold madeAtW
      go_simp
      ((rw [(HNC.out w' hb').1]; exact ⟨Kept.refl _ _ _, rfl, trivial⟩))
    simp only [Act.put, List.setIfInBounds_toArray, List.set_cons_succ, List.set_cons_zero, Nat.reduceAdd]
    refine walkW_mk (fun _ => MT) [] MT ([]) facts0 (by kernel_rfl) (by kernel_rfl) (by kernel_rfl) rfl rfl (fun w' hb' hg' => ?_) (fun v5 h5 => ?_)
    · unfold madeAtW
      go_simp
      ((refine ((HNC.out w' hb').2).mono ?_; rintro e w2 ⟨u, rfl, hO, hb⟩; exact ⟨u, rfl, txt_mk HT hb hb'.size (hO.mono hb'.size)⟩))
    obtain ⟨DA, c2, rfl, hc2⟩ := txt_T HT h5
    simp only [Act.put, List.setIfInBounds_toArray, List.set_cons_succ, List.set_cons_zero, Nat.reduceAdd]
    refine walkW_val (.slice DA ds.length ds.length) (clipF _) [.slice DA ds.length c2] [] facts0 (by kernel_rfl) (by kernel_rfl) (by kernel_rfl) rfl rfl (fun w' hb' hg' => ?_) ?_
    · unfold madeAtW
      go_simp
      refine (clipT_any DA ds.length c2 hc2 w').mono ?_
      rintro e w2 ⟨rfl, hb⟩
      exact valW hb hb'.size
    simp only [Act.put, List.setIfInBounds_toArray, List.set_cons_succ, List.set_cons_zero, Nat.reduceAdd]
    refine walkW_segn 1 [] facts0 noneHx (by kernel_rfl) (by kernel_rfl) ?_
    simp only [List.take_succ_cons, List.take_zero, List.drop_succ_cons, List.drop_zero, Nat.reduceAdd]
    repeat (go_big_quiet_step (fail))
    (first | refine wpQuiet_nil ?_ | (go_big_quiet_want; (try go_big_quiet_op); trace_state; fail))
    refine walkW_nil ?_
    intro w4 b4 hf
    have hO4 := txt_R HT ((hf 5 (by kernel_rfl)).1 rfl)
    have R4 : Hid (AnsR w4 (w.heap.size + 1) SA DA sv ds c1 c2) := Lib.hid ⟨(OutA.mono (own_turnS S3.out.1 fun k hk => b4.block k (S3.out.1.lt k hk).2) HM0.out.2), hO4.mono (by have := HM0.out; omega), fun k hk hk2 => by have h7 := (S3.out.1.lt k hk).2; have h8 := (hO4.lt k hk2).1; omega⟩
    obtain ⟨nd, hnd⟩ : ∃ n, n = ds.length := ⟨_, rfl⟩
    have HND := Lib.hid hnd
    rw [← hnd]
    clear hf hO4 hnd h5 HT HNC hc2
    have K4 := bk_keep b4 lx K3.out
    clear c0
    have l4 := bk_lt K4
    have f0 := bk_frozen K4 0; have f1 := bk_frozen K4 1; have f2 := bk_frozen K4 2
    have c0 : w4.cell? ⟨w.heap.size, 0, none⟩ = some (.slice SA ns c1) := bk_cell K4 0
    have c1' : w4.cell? ⟨w.heap.size, 1, none⟩ = some (.slice none 0 0) := bk_cell K4 1
    have c2' : w4.cell? ⟨w.heap.size, 2, none⟩ = some (.int .u32 0) := bk_cell K4 2
    have HK4 := Lib.hid K4
    have M4 := Lib.hid (M3.out.turn (Tn.of b4) (F := fun _ => False) (fun e => e))
    have A4 := Lib.hid (A3.out.below b4)
    have B4 := Lib.hid (B3.out.trans (b4.mono B3.out.size))
    have HD4 : Hid (w4.heap[D]? = some (.deferred (some []))) := Lib.hid ((b4.block D (Array.getElem?_eq_some_iff.1 HD.out.1).1).trans HD.out.1)
    have HWD := Lib.hid HD.out.2
    clear K4 b4 M3 A3 B3 O3 HD lx K3 S3
    go_upto_region 6 with fail
    have K5 : Hid (bk (((w4.setCell ⟨w.heap.size, 0, none⟩ (.slice SA ns ns)).setCell ⟨w.heap.size, 1, none⟩ (.slice DA nd nd)).setCell ⟨w.heap.size, 2, none⟩ (.int .u32 86400)) w.heap.size = some (.cells (ansG SA DA ns nd 86400) 36 (0, 0))) := Lib.hid (by
      rw [bk_setCell_same, bk_setCell_same, bk_setCell_same, HK4.out]; rfl)
    have t5 : Tn (fun j => j = w.heap.size) w4 (((w4.setCell ⟨w.heap.size, 0, none⟩ (.slice SA ns ns)).setCell ⟨w.heap.size, 1, none⟩ (.slice DA nd nd)).setCell ⟨w.heap.size, 2, none⟩ (.int .u32 86400)) := (((Tn.refl (fun j => j = w.heap.size) w4).set (g := w.heap.size) (.inl rfl)).set (g := w.heap.size) (.inl rfl)).set (g := w.heap.size) (.inl rfl)
    have hgw : g ≠ w.heap.size := Nat.ne_of_lt HM.out.lt
    have M5 := Lib.hid (M4.out.turn t5 hgw)
    have B5 := Lib.hid (((B4.out.setCell (p := ⟨w.heap.size, 0, none⟩) (Nat.le_refl _) (.slice SA ns ns)).setCell (p := ⟨w.heap.size, 1, none⟩) (Nat.le_refl _) (.slice DA nd nd)).setCell (p := ⟨w.heap.size, 2, none⟩) (Nat.le_refl _) (.int .u32 86400))
    have D5 : Hid (D ≠ w.heap.size → (((w4.setCell ⟨w.heap.size, 0, none⟩ (.slice SA ns ns)).setCell ⟨w.heap.size, 1, none⟩ (.slice DA nd nd)).setCell ⟨w.heap.size, 2, none⟩ (.int .u32 86400)).heap[D]? = some (.deferred (some []))) := Lib.hid fun hne => (t5.old D (Array.getElem?_eq_some_iff.1 HD4.out).1 hne).trans HD4.out
    have hDne : D ≠ w.heap.size := fun e => by
      have h1 := HD4.out
      rw [e] at h1
      have h2 : w4.heap[w.heap.size]? = _ := HK4.out
      rw [h2] at h1
      cases h1
    have HD5 := Lib.hid (D5.out hDne)
    have HNE := Lib.hid hDne
    have A5 : Hid (At32 (((w4.setCell ⟨w.heap.size, 0, none⟩ (.slice SA ns ns)).setCell ⟨w.heap.size, 1, none⟩ (.slice DA nd nd)).setCell ⟨w.heap.size, 2, none⟩ (.int .u32 86400)) M d) := Lib.hid (by
      have h0 := H32.out.below (w' := ((w4.setCell ⟨w.heap.size, 0, none⟩ (.slice SA ns ns)).setCell ⟨w.heap.size, 1, none⟩ (.slice DA nd nd)).setCell ⟨w.heap.size, 2, none⟩ (.int .u32 86400)) B5.out
      exact h0)
    have R5 := Lib.hid (R4.out.turn t5 (fun k e => by omega))
    clear t5 hgw M4 B4 A4 HD4 D5 hDne HK4 c0 c1' c2' f0 f1 f2 l4 R4
    generalize ((w4.setCell ⟨w.heap.size, 0, none⟩ (.slice SA ns ns)).setCell ⟨w.heap.size, 1, none⟩ (.slice DA nd nd)).setCell ⟨w.heap.size, 2, none⟩ (.int .u32 86400) = w5 at *
    have hlk := M5.out.look (k := 32) (by decide)
    cases d with
    | none =>
      have e32 : M 32 = none := A5.out
      rw [e32] at hlk
      have hlk' : Sem.run Try.prog (Instr.lookup 70 (.map (some g)) (.int .u64 32) false) w5 = .ok (.slice none 0 0) w5 := hlk
      have CO := Lib.hid (of_K none [] 0 w5 Rd.nil (fun _ => ⟨rfl, rfl⟩) (by simp))
      have LK6 : Hid (∀ w', Below w5.heap.size w5 w' → Sem.run Try.prog (Instr.lookup 70 (.map (some g)) (.int .u64 32) false) w' = .ok (.slice none 0 0) w') := Lib.hid fun w' hb => by
        have h := (M5.out.turn (Tn.of hb) (F := fun _ => False) (fun e => e)).look (k := 32) (by decide)
        rw [e32] at h
        exact h
      clear hlk
      go_wp2_with fail
      refine CO.out.mono ?_
      rintro e w6 ⟨gc, rfl, hgc, hkc, b6⟩
      have hlk6 := LK6.out w6 b6
      have K6 := Lib.hid (bk_keep b6 (bk_lt K5.out) K5.out)
      have B6 := Lib.hid (B5.out.trans (b6.mono B5.out.size))
      have HD6 : Hid (w6.heap[D]? = some (.deferred (some []))) := Lib.hid ((b6.block D (Array.getElem?_eq_some_iff.1 HD5.out).1).trans HD5.out)
      have l6 := bk_lt K6.out
      have R6 := Lib.hid (R5.out.below b6)
      clear CO LK6 hlk' hgc hkc b6 K5 M5 B5 HD5 A5 R5
      go_upto_region 9 with fail
      have kv := (K6).out
      have os1 := ansG_ones SA DA ns nd (86400)
      have os2 := ansG_size SA DA ns nd (86400)
      have os3 := ansC_size 0
      have lv := bk_lt kv
      go_wp2_with fail
      have hK2 : ((w6).setRow w.heap.size (ansG SA DA ns nd (86400))).heap[D]? = some (.deferred (some [])) := (bk_setRow_other _ _ _ _ HNE.out).trans (HD6).out
      have kf : bk (((w6).setRow w.heap.size (ansG SA DA ns nd (86400))).putObj D (.deferred none)) w.heap.size = some (.cells (ansG SA DA ns nd (86400)) 36 (0, 0)) := by
        refine (World.putObj_heap_other (fun e => HNE.out e.symm)).trans ?_
        show bk ((w6).setRow w.heap.size (ansG SA DA ns nd (86400))) w.heap.size = _
        rw [bk_setRow_same, (K6).out]; rfl
      have hB9 : Below w.heap.size w (((w6).setRow w.heap.size (ansG SA DA ns nd (86400))).putObj D (.deferred none)) := by
        have h1 := below_setRow (B6).out (Nat.le_refl w.heap.size) (ansG SA DA ns nd (86400))
        exact h1.grown (grownBy_putObj' _ D (.deferred none)) h1.size (fun k e => by cases e; exact HWD.out)
      have hA9 : AnsR (((w6).setRow w.heap.size (ansG SA DA ns nd (86400))).putObj D (.deferred none)) (w.heap.size + 1) SA DA sv ds c1 c2 := by
        exact ((R6).out.setRow (c := ansG SA DA ns nd (86400)) (Nat.lt_succ_self w.heap.size)).obj hK2 rfl
      refine ⟨by simp, .inl ⟨_, _, rfl, run_takeDeferred hK2, ?_⟩⟩
      exact ⟨_, results_cell_row rfl _ _ w.heap.size 36 (ansG SA DA ns nd (86400)) (0, 0) _ rfl kf Try.underlying36 rfl (by rw [ansG_size]; kernel_rfl), SA, DA, c1, c2, (by rw [HNS.out, HND.out, ← HSV.out, ← HDS.out]; exact rfl), (by have h := hA9; rw [HSV.out, HDS.out] at h; exact h), hB9⟩
    | some d =>
      obtain ⟨b0, o0, c0, e32, hr5, hdl⟩ := A5.out
      rw [e32] at hlk
      have hlk' : Sem.run Try.prog (Instr.lookup 70 (.map (some g)) (.int .u64 32) false) w5 = .ok (.slice (some ⟨b0, o0, none⟩) d.length c0) w5 := hlk
      have CO := Lib.hid (of_K (some ⟨b0, o0, none⟩) d c0 w5 hr5 (fun h => by cases h) (by omega))
      have LK6 : Hid (∀ w', Below w5.heap.size w5 w' → Sem.run Try.prog (Instr.lookup 70 (.map (some g)) (.int .u64 32) false) w' = .ok (.slice (some ⟨b0, o0, none⟩) d.length c0) w') := Lib.hid fun w' hb => by
        have h := (M5.out.turn (Tn.of hb) (F := fun _ => False) (fun e => e)).look (k := 32) (by decide)
        rw [e32] at h
        exact h
      clear hlk hr5 hdl
      go_wp2_with fail
      refine CO.out.mono ?_
      rintro e w6 ⟨gc, rfl, hgc, hkc, b6⟩
      have hlk6 := LK6.out w6 b6
      have hgw : w.heap.size < gc := Nat.lt_of_lt_of_le (bk_lt K5.out) hgc
      have K6 := Lib.hid (bk_keep b6 (bk_lt K5.out) K5.out)
      have B6 := Lib.hid (B5.out.trans (b6.mono B5.out.size))
      have HD6 : Hid (w6.heap[D]? = some (.deferred (some []))) := Lib.hid ((b6.block D (Array.getElem?_eq_some_iff.1 HD5.out).1).trans HD5.out)
      have hDg : D < gc := Nat.lt_of_lt_of_le (Array.getElem?_eq_some_iff.1 HD5.out).1 hgc
      have l6 := bk_lt K6.out
      have R6 := Lib.hid (R5.out.below b6)
      have R5g : Hid ((∀ k, (Value.slice SA sv.length c1).ownBlock = some k → k ≠ gc) ∧ (∀ k, (Value.slice DA ds.length c2).ownBlock = some k → k ≠ gc)) := Lib.hid ⟨fun k hk => by have := (R5.out.hs.lt k hk).2; omega, fun k hk => by have := (R5.out.hd.lt k hk).2; omega⟩
      clear CO LK6 hlk' hgc b6 K5 M5 B5 HD5 A5 R5
      by_cases h4 : d.length = 4
      · have n4 : ((d.length : Int) == 4) = true := by rw [h4]; rfl
        have CN := Lib.hid (num_K gc d 4 w6 hkc (by decide) (by decide) (by omega))
        have htk : d.take 4 = d := List.take_of_length_le (by omega)
        rw [htk] at CN
        obtain ⟨v, hv⟩ : ∃ v, v = val d := ⟨_, rfl⟩
        have hv32 : v < 4294967296 := by have h := val_lt d; rw [h4] at h; rw [hv]; exact h
        rw [← hv] at CN
        have hf : frsh (some d) = max 600 v := by unfold frsh; simp only [if_pos h4, hv]
        have HF := Lib.hid hf
        clear htk hv hf hkc h4
        go_wp2_with fail
        refine CN.out.mono ?_
        rintro e w7 ⟨rfl, _, ho7⟩
        have K7 : Hid (bk w7 w.heap.size = some (.cells (ansG SA DA ns nd 86400) 36 (0, 0))) := Lib.hid ((ho7.old _ (by omega)).trans K6.out)
        have B7 := Lib.hid (B6.out.trans (ho7.below (n := w.heap.size) (by omega)))
        have HD7 : Hid (w7.heap[D]? = some (.deferred (some []))) := Lib.hid ((ho7.old D (by omega)).trans HD6.out)
        have R7 : Hid (AnsR w7 (w.heap.size + 1) SA DA sv ds c1 c2) := Lib.hid ⟨own_turnS R6.out.hs fun k hk => ho7.old k (R5g.out.1 k hk), own_turnS R6.out.hd fun k hk => ho7.old k (R5g.out.2 k hk), R6.out.ne⟩
        have f2 := bk_frozen K7.out 2
        have cc2 : w7.cell? ⟨w.heap.size, 2, none⟩ = some (.int .u32 86400) := bk_cell K7.out 2
        have l7 := bk_lt K7.out
        have FIN : ∀ F : Nat, Hid (bk (w7.setCell ⟨w.heap.size, 2, none⟩ (.int .u32 (F : Int))) w.heap.size = some (.cells (ansG SA DA ns nd F) 36 (0, 0))) ∧ Hid (Below w.heap.size w (w7.setCell ⟨w.heap.size, 2, none⟩ (.int .u32 (F : Int)))) ∧ Hid ((w7.setCell ⟨w.heap.size, 2, none⟩ (.int .u32 (F : Int))).heap[D]? = some (.deferred (some []))) := fun F =>
          ⟨Lib.hid (by rw [bk_setCell_same, K7.out]; rfl), Lib.hid (B7.out.setCell (p := ⟨w.heap.size, 2, none⟩) (Nat.le_refl _) _), Lib.hid ((bk_setCell_other _ _ _ _ _ HNE.out).trans HD7.out)⟩
        have HFIN := Lib.hid FIN
        clear ho7 CN K6 B6 HD6 FIN hgw hDg
        go_upto_region 9 with fail
        obtain ⟨F, hF⟩ : ∃ F, F = max 600 v := ⟨_, rfl⟩
        have hmx : max (600 : Int) (v : Int) = (F : Int) := by omega
        rw [hmx]
        obtain ⟨K8, B8, HD8⟩ := HFIN.out F
        have HF8 : Hid (frsh (some d) = F) := Lib.hid (HF.out.trans hF.symm)
        have R8 : Hid (AnsR (w7.setCell ⟨w.heap.size, 2, none⟩ (.int .u32 (F : Int))) (w.heap.size + 1) SA DA sv ds c1 c2) := Lib.hid (R7.out.turn ((Tn.refl (fun j => j = w.heap.size) w7).set (g := w.heap.size) (.inl rfl)) (fun k e => by omega))
        clear hmx hF HF HFIN cc2 f2 l7 B7 HD7 K7 R7 R6 R5g
        generalize w7.setCell ⟨w.heap.size, 2, none⟩ (.int .u32 (F : Int)) = w8 at *
        have kv := (K8).out
        have os1 := ansG_ones SA DA ns nd (F)
        have os2 := ansG_size SA DA ns nd (F)
        have os3 := ansC_size 0
        have lv := bk_lt kv
        go_wp2_with fail
        have hK2 : ((w8).setRow w.heap.size (ansG SA DA ns nd (F))).heap[D]? = some (.deferred (some [])) := (bk_setRow_other _ _ _ _ HNE.out).trans (HD8).out
        have kf : bk (((w8).setRow w.heap.size (ansG SA DA ns nd (F))).putObj D (.deferred none)) w.heap.size = some (.cells (ansG SA DA ns nd (F)) 36 (0, 0)) := by
          refine (World.putObj_heap_other (fun e => HNE.out e.symm)).trans ?_
          show bk ((w8).setRow w.heap.size (ansG SA DA ns nd (F))) w.heap.size = _
          rw [bk_setRow_same, (K8).out]; rfl
        have hB9 : Below w.heap.size w (((w8).setRow w.heap.size (ansG SA DA ns nd (F))).putObj D (.deferred none)) := by
          have h1 := below_setRow (B8).out (Nat.le_refl w.heap.size) (ansG SA DA ns nd (F))
          exact h1.grown (grownBy_putObj' _ D (.deferred none)) h1.size (fun k e => by cases e; exact HWD.out)
        have hA9 : AnsR (((w8).setRow w.heap.size (ansG SA DA ns nd (F))).putObj D (.deferred none)) (w.heap.size + 1) SA DA sv ds c1 c2 := by
          exact ((R8).out.setRow (c := ansG SA DA ns nd (F)) (Nat.lt_succ_self w.heap.size)).obj hK2 rfl
        refine ⟨by simp, .inl ⟨_, _, rfl, run_takeDeferred hK2, ?_⟩⟩
        exact ⟨_, results_cell_row rfl _ _ w.heap.size 36 (ansG SA DA ns nd (F)) (0, 0) _ rfl kf Try.underlying36 rfl (by rw [ansG_size]; kernel_rfl), SA, DA, c1, c2, (by rw [HNS.out, HND.out, ← HSV.out, ← HDS.out]; rw [HF8.out]), (by have h := hA9; rw [HSV.out, HDS.out] at h; exact h), hB9⟩
      · have n4 : ((d.length : Int) == 4) = false := beq_eq_false_iff_ne.2 (by omega)
        have HF : Hid (frsh (some d) = 86400) := Lib.hid (by unfold frsh; simp only [if_neg h4])
        clear h4 hkc hgw hDg
        go_upto_region 9 with fail
        have kv := (K6).out
        have os1 := ansG_ones SA DA ns nd (86400)
        have os2 := ansG_size SA DA ns nd (86400)
        have os3 := ansC_size 0
        have lv := bk_lt kv
        go_wp2_with fail
        have hK2 : ((w6).setRow w.heap.size (ansG SA DA ns nd (86400))).heap[D]? = some (.deferred (some [])) := (bk_setRow_other _ _ _ _ HNE.out).trans (HD6).out
        have kf : bk (((w6).setRow w.heap.size (ansG SA DA ns nd (86400))).putObj D (.deferred none)) w.heap.size = some (.cells (ansG SA DA ns nd (86400)) 36 (0, 0)) := by
          refine (World.putObj_heap_other (fun e => HNE.out e.symm)).trans ?_
          show bk ((w6).setRow w.heap.size (ansG SA DA ns nd (86400))) w.heap.size = _
          rw [bk_setRow_same, (K6).out]; rfl
        have hB9 : Below w.heap.size w (((w6).setRow w.heap.size (ansG SA DA ns nd (86400))).putObj D (.deferred none)) := by
          have h1 := below_setRow (B6).out (Nat.le_refl w.heap.size) (ansG SA DA ns nd (86400))
          exact h1.grown (grownBy_putObj' _ D (.deferred none)) h1.size (fun k e => by cases e; exact HWD.out)
        have hA9 : AnsR (((w6).setRow w.heap.size (ansG SA DA ns nd (86400))).putObj D (.deferred none)) (w.heap.size + 1) SA DA sv ds c1 c2 := by
          exact ((R6).out.setRow (c := ansG SA DA ns nd (86400)) (Nat.lt_succ_self w.heap.size)).obj hK2 rfl
        refine ⟨by simp, .inl ⟨_, _, rfl, run_takeDeferred hK2, ?_⟩⟩
        exact ⟨_, results_cell_row rfl _ _ w.heap.size 36 (ansG SA DA ns nd (86400)) (0, 0) _ rfl kf Try.underlying36 rfl (by rw [ansG_size]; kernel_rfl), SA, DA, c1, c2, (by rw [HNS.out, HND.out, ← HSV.out, ← HDS.out]; rw [HF.out]), (by have h := hA9; rw [HSV.out, HDS.out] at h; exact h), hB9⟩
theorem answer2_any (g nn : Nat) (M : Nat → Option Value) (d23 d24 d : Option (List UInt8)) (w : World) (hM : MapIs w g nn M) (h23 : OptAt w M 23 d23) (h24 : OptAt w M 24 d24) (h32 : OptAt w M 32 d) :
    Calls Try.prog 28 #[.map (some g)] w fun e w' => ∃ SA DA c1 c2, e = .returned (.agg (ansG SA DA (srv' d23).length (dnm d24).length (frsh d))) ∧ AnsR w' (w.heap.size + 1) SA DA (srv' d23) (dnm d24) c1 c2 ∧ Below w.heap.size w w' :=
  (callsIn_wide (n := 4)).1 (answer2_in 4 (by omega) g nn M d23 d24 d w hM h23 h24 h32)
end Go.Proofs.Ytfldoihindbdmaa

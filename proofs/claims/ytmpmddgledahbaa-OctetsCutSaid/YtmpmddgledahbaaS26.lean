/- One ask of both cutters, walked. -/
import Derived.Test.YtmpmddgledahbaaS25
namespace Go.Proofs.Ytmpmddgledahbaa
open Go.RowKit
set_option maxRecDepth 100000
def OneD (w : World) (base gc gb gm kb : Nat) (L : List UInt8) (LL : List Lf) (e : Ending) (w' : World) : Prop :=
  ∃ p' LL', e = .returned (.bool true) ∧ LL'.length ≤ LL.length + 1 ∧ Sd w w' base gc gb gm kb L p' (stOf L p') LL'
theorem Sd.trans {w w' w'' : World} {base gc gb gm kb : Nat} {L : List UInt8} {p p' : Option Nat} {st st' : Option (List UInt8)} {LL LL' : List Lf} (h : Sd w w' base gc gb gm kb L p st LL) (k : Sd w' w'' base gc gb gm kb L p' st' LL') : Sd w w'' base gc gb gm kb L p' st' LL' :=
  ⟨k.st, h.fr.trans k.fr, h.bel.trans k.bel⟩
theorem Sd.below {w w' w'' : World} {base gc gb gm kb : Nat} {L : List UInt8} {p : Option Nat} {st : Option (List UInt8)} {LL : List Lf} (h : Sd w w' base gc gb gm kb L p st LL) (hb : Below w'.heap.size w' w'') : Sd w w'' base gc gb gm kb L p st LL := by
  have hs := h.st.size
  have o1 := h.st.o1; have o2 := h.st.o2; have o3 := h.st.o3; have o4 := h.st.o4
  exact ⟨h.st.below hb, h.fr.trans (KFr.of_below hb), h.bel.trans (hb.mono (by omega))⟩
theorem St.sd {w w' : World} {base gc gb gm kb : Nat} {L : List UInt8} {p : Option Nat} {st : Option (List UInt8)} {LL : List Lf} (h : St w base gc gb gm kb L p st LL) (hb : Below w.heap.size w w') : Sd w w' base gc gb gm kb L p st LL := by
  have hs := h.size
  have o1 := h.o1; have o2 := h.o2; have o3 := h.o3; have o4 := h.o4
  exact ⟨h.below hb, KFr.of_below hb, hb.mono (by omega)⟩
theorem Sd.cell {w w' : World} {base gc gb gm kb h : Nat} {L : List UInt8} {p : Option Nat} {st : Option (List UInt8)} {LL : List Lf} {cs : Array Value} {t : TypeId} (hs : Sd w w' base gc gb gm kb L p st LL) (hb : bk w h = some (.cells cs t (0, 0))) (hx : ¬ Xs gc gm kb h) (ht : t ≠ 64) : bk w' h = some (.cells cs t (0, 0)) :=
  hs.fr.keep h _ hb hx fun cur e => by cases e; exact ht rfl
section
variable {w w' : World} {base gc gb gm kb : Nat} {L : List UInt8} {p p' : Option Nat} {st st' : Option (List UInt8)} {LL LL' : List Lf}
theorem St.notX (h : St w base gc gb gm kb L p st LL) {k : Nat} {cur : Array Value} (hk : Go.Proofs.Ytmpmddgledahbaa.bk w k = some (.cells cur 5 (0, 0))) : ¬ Xs gc gm kb k := by
  obtain ⟨c1, h1⟩ := h.pk.obj
  obtain ⟨c2, h2⟩ := h.rs.obj
  obtain ⟨c3, h3⟩ := h.bk.book.objAt
  rintro (rfl | rfl | rfl)
  · rw [hk] at h1; cases h1
  · rw [hk] at h2; cases h2
  · rw [hk] at h3; cases h3
theorem Sd.bytes (h : St w base gc gb gm kb L p st LL) (hs : Sd w w' base gc gb gm kb L p' st' LL') {k : Nat} {cur : Array Value} (hk : bk w k = some (.cells cur 5 (0, 0))) : bk w' k = some (.cells cur 5 (0, 0)) :=
  hs.fr.keep k _ hk (h.notX hk) fun _ e => by cases e
theorem Rd.of_eq {A : Option Addr} {l : List UInt8} {n n' : Nat} (h : Rd w n A l) (hn : n ≤ n') (hk : ∀ b o, A = some ⟨b, o, none⟩ → bk w' b = bk w b) : Rd w' n' A l := fun h0 => by
  obtain ⟨b, o, e, hlt, hc⟩ := h h0
  refine ⟨b, o, e, by omega, fun j hj => ?_⟩
  have : w'.cell? ⟨b, o + j, none⟩ = w.cell? ⟨b, o + j, none⟩ := World.cell?_of_block (a := ⟨b, o + j, none⟩) (hk b o e)
  rw [this]; exact hc j hj
theorem Sd.rdu (h : St w base gc gb gm kb L p st LL) (hs : Sd w w' base gc gb gm kb L p' st' LL') {A : Option Addr} {l : List UInt8} (hr : Rd w w.heap.size A l) (hu : Ub w A) : Rd w' w'.heap.size A l :=
  hr.of_eq hs.fr.size fun b o e => by
    obtain ⟨cur, hb⟩ := hu _ e
    rw [Sd.bytes h hs hb]; exact hb.symm
theorem Sd.ub (h : St w base gc gb gm kb L p st LL) (hs : Sd w w' base gc gb gm kb L p' st' LL') {A : Option Addr} (hu : Ub w A) : Ub w' A := fun a e => by
  obtain ⟨cur, hb⟩ := hu a e
  exact ⟨cur, Sd.bytes h hs hb⟩
theorem Sd.gave {q q' : Option Nat} {b : List UInt8} {A : Option Addr} (h : St w base gc gb gm kb L p st LL) (hs : Sd w w' base gc gb gm kb L p' st' LL') (hg : Gave w gb L q q' b A) : Gave w' gb L q q' b A := by
  rcases Nat.eq_zero_or_pos b.length with h0 | h0
  · have : b = [] := List.eq_nil_of_length_eq_zero h0
    subst this
    exact ⟨Rd.nil, fun hc => absurd hc (by simp), fun hc => absurd hc (by simp)⟩
  · obtain ⟨b', o, cur, rfl, hb, hle⟩ := hg.room h0
    refine ⟨hg.rd.of_eq hs.fr.size fun b2 o2 e => ?_, fun _ => ⟨b', o, cur, rfl, Sd.bytes h hs hb, hle⟩, hg.at'⟩
    cases e
    rw [Sd.bytes h hs hb]; exact hb.symm
end
set_option maxHeartbeats 2000000 in
theorem one_any (kind : UInt8) (n : Int) (w : World) (base gc gb gm kb : Nat) (L : List UInt8) (p : Option Nat) (LL : List Lf) (h : St w base gc gb gm kb L p (stOf L p) LL) (hl : LL.length < 2 ^ 20) :
    Calls Try.prog 13 #[.pointer (some ⟨gc, 0, none⟩), .pointer (some ⟨gm, 0, none⟩), .agg #[B kind, .int .i64 n], .pointer (some ⟨kb, 0, none⟩)] w (OneD w base gc gb gm kb L LL) := by
  have hkl := kind.toNat_lt
  have hsz := h.size
  have o1 := h.o1; have o2 := h.o2; have o3 := h.o3; have o4 := h.o4
  have a0 : Below w.heap.size w (w.alloc (.cells #[B kind, .int .i64 n] 35)) := (Below.refl _ _).alloc (Nat.le_refl _) _
  have S0 := Lib.hid (h.sd a0)
  have X0 : bk (w.alloc (.cells #[B kind, .int .i64 n] 35)) w.heap.size = some (.cells #[B kind, .int .i64 n] 35 (0, 0)) := bk_alloc_at _ _ _ rfl
  have hnx : ¬ Xs gc gm kb w.heap.size := by unfold Xs; omega
  clear h a0
  rcases (by omega : kind.toNat % 3 = 0 ∨ kind.toNat % 3 = 1 ∨ kind.toNat % 3 = 2) with h3 | h3 | h3
  · have e0 : (((kind.toNat : Int) % 3) == 0) = true := by simp; omega
    have e1 : (((kind.toNat : Int) % 3) == 1) = false := by simp; omega
    clear h3
    go_enter Try.func13, Try.ntmps13
    go_wp2_with fail
    generalize w.alloc (.cells #[B kind, .int .i64 n] 35) = wa at *
    have c1 := bk_cell X0 1
    have HX := Lib.hid X0
    simp at c1
    clear X0
    have SD := Lib.hid (S0.out.below (Below.refl wa.heap.size wa).drew)
    have HXD : Hid (bk wa.drew w.heap.size = some (.cells #[B kind, .int .i64 n] 35 (0, 0))) := Lib.hid HX.out
    go_region_held3 (fun w' => w'.cell? ⟨w.heap.size, 1, none⟩ = some (.int .i64 n)) (first | assumption | go_keep)
      (first
        | (go_at_call 23; refine (pnum_St n SD.out.st).mono ?_; rintro e w1 ⟨rfl, hS1⟩; have hk1 := bk_cell (hS1.cell HXD.out hnx (by decide)) 1; simp at hk1; have HS1 := Lib.hid hS1; clear hS1)
        | (go_at_call 27; refine (rnum_St n HS1.out.st).mono ?_; rintro e w2 ⟨rfl, hS2⟩; have hk2 := bk_cell (hS2.cell (HS1.out.cell HXD.out hnx (by decide)) hnx (by decide)) 1; simp at hk2; have HS2 := Lib.hid hS2; clear hS2))
    have HF := Lib.hid ((SD.out.trans HS1.out).trans HS2.out)
    clear hk1 hk2 c1 HS1 HS2 SD HXD HX S0
    go_wp2_with fail
    go_ret
    exact ⟨_, LL, rfl, by omega, by rw [← posB_st]; exact HF.out⟩
  · have e0 : (((kind.toNat : Int) % 3) == 0) = false := by simp; omega
    have e1 : (((kind.toNat : Int) % 3) == 1) = true := by simp; omega
    clear h3
    go_enter Try.func13, Try.ntmps13
    go_wp2_with fail
    generalize w.alloc (.cells #[B kind, .int .i64 n] 35) = wa at *
    have HX := Lib.hid X0
    clear X0
    refine (pbytes_St n S0.out.st).mono ?_
    rintro e w1 ⟨A, rfl, G1, D1⟩
    have X1 := D1.cell HX.out hnx (by decide)
    have c1 := bk_cell X1 1
    simp at c1
    have HG1 := Lib.hid G1; have HD1 := Lib.hid D1
    clear G1 D1 X1
    generalize hb : (cutB n (stOf L p)).1 = b at *
    have HB := Lib.hid hb
    clear hb
    go_wp2_with fail
    refine (rbytes_St n HD1.out.st).mono ?_
    rintro e w2 ⟨A2, c2, rfl, R2, U2, D2⟩
    rw [HB.out] at R2 ⊢
    have G2 := Sd.gave HD1.out.st D2 HG1.out
    have HG2 := Lib.hid G2; have HD2 := Lib.hid (HD1.out.trans D2); have HR2 := Lib.hid R2; have HU2 := Lib.hid U2
    clear G2 HG1 HD1 R2 U2 D2 c1 HX
    go_wp2_with fail
    refine (book_St HD2.out.st S0.out.st.und HG2.out (by omega)).mono ?_
    rintro e w3 ⟨LL', rfl, hLL, D3⟩
    have G3 := Sd.gave HD2.out.st D3 HG2.out
    have R3 := Sd.rdu HD2.out.st D3 HR2.out HU2.out
    have HLL := Lib.hid hLL
    have HF := Lib.hid ((S0.out.trans HD2.out).trans D3)
    have hbl : b.length < 2 ^ 60 := by
      have hs := S0.out.st.sm
      have := HB.out
      rw [← this]
      unfold cutB
      cases p with
      | none => simp [stOf]
      | some q =>
        simp only [stOf, Option.map_some]
        split
        · simp
        · rw [List.length_take, List.length_drop]; omega
    have CS := Lib.hid (sameBytes_any A A2 b b b.length c2 w3 G3.rd R3 hbl hbl)
    clear G3 R3 D3 HG2 HD2 HR2 HU2 S0 hLL
    go_wp2_with fail
    refine CS.out.mono ?_
    rintro e w4 ⟨rfl, b4⟩
    have HF4 := Lib.hid (HF.out.below b4)
    simp only [beq_self_eq_true]
    clear CS HF b4
    go_wp2_with fail
    go_ret
    exact ⟨_, LL', rfl, by have := HLL.out; omega, by rw [← posB_st]; exact HF4.out⟩
  · have e0 : (((kind.toNat : Int) % 3) == 0) = false := by simp; omega
    have e1 : (((kind.toNat : Int) % 3) == 1) = false := by simp; omega
    clear h3
    go_enter Try.func13, Try.ntmps13
    go_wp2_with fail
    generalize w.alloc (.cells #[B kind, .int .i64 n] 35) = wa at *
    clear X0
    obtain ⟨m, hm⟩ : ∃ m, m = ((stOf L p).getD []).length := ⟨_, rfl⟩
    refine (prest_St S0.out.st m hm).mono ?_
    rintro e w1 ⟨A, rfl, G1, D1⟩
    have HM := Lib.hid hm
    have HG1 := Lib.hid G1; have HD1 := Lib.hid D1
    clear G1 D1 hm
    generalize hb : (cutB (m : Int) (stOf L p)).1 = b at *
    have HB := Lib.hid hb
    clear hb
    go_wp2_with fail
    refine (rrest_St HD1.out.st m HM.out).mono ?_
    rintro e w2 ⟨A2, c2, rfl, R2, U2, D2⟩
    rw [HB.out] at R2 ⊢
    have G2 := Sd.gave HD1.out.st D2 HG1.out
    have HG2 := Lib.hid G2; have HD2 := Lib.hid (HD1.out.trans D2); have HR2 := Lib.hid R2; have HU2 := Lib.hid U2
    clear G2 HG1 HD1 R2 U2 D2
    go_wp2_with fail
    refine (book_St HD2.out.st S0.out.st.und HG2.out (by omega)).mono ?_
    rintro e w3 ⟨LL', rfl, hLL, D3⟩
    have G3 := Sd.gave HD2.out.st D3 HG2.out
    have R3 := Sd.rdu HD2.out.st D3 HR2.out HU2.out
    have HLL := Lib.hid hLL
    have HF := Lib.hid ((S0.out.trans HD2.out).trans D3)
    have hbl : b.length < 2 ^ 60 := by
      have hs := S0.out.st.sm
      have := HB.out
      rw [← this]
      unfold cutB
      cases p with
      | none => simp [stOf]
      | some q =>
        simp only [stOf, Option.map_some]
        split
        · simp
        · rw [List.length_take, List.length_drop]; omega
    have CS := Lib.hid (sameBytes_any A A2 b b b.length c2 w3 G3.rd R3 hbl hbl)
    clear G3 R3 D3 HG2 HD2 HR2 HU2 S0 hLL
    go_wp2_with fail
    refine CS.out.mono ?_
    rintro e w4 ⟨rfl, b4⟩
    have HF4 := Lib.hid (HF.out.below b4)
    simp only [beq_self_eq_true]
    clear CS HF b4
    go_wp2_with fail
    go_ret
    exact ⟨_, LL', rfl, by have := HLL.out; omega, by rw [← posB_st]; exact HF4.out⟩
end Go.Proofs.Ytmpmddgledahbaa

/- InfosTimes, walked. -/
import Derived.Test.YtfldoihindbdmaaG26
import Derived.Deep.RegionHeld3
namespace Go.Proofs.Ytfldoihindbdmaa
open Go.RowKit
set_option maxRecDepth 100000
set_option maxHeartbeats 2000000
@[go_sem] theorem builtMac1 : Try.prog.built 28 [(0, .int .u8 1)] = some #[.int .u8 1, .int .u8 0, .int .u8 0, .int .u8 0, .int .u8 0, .int .u8 0] := by kernel_rfl
@[go_sem] theorem builtWld0 (x y q : Nat) : Try.prog.built 63 [(0, .pointer (some ⟨x, 0, none⟩)), (1, .pointer (some ⟨y, 0, none⟩)), (2, .pointer none), (3, .pointer (some ⟨q, 0, none⟩))] = some (wlC x y none q) := by kernel_rfl
@[go_sem] theorem builtAct1 : Try.prog.built 25 [(0, .int .u8 1)] = some #[.int .u8 1, .slice none 0 0, .bool false, .int .u32 0] := by kernel_rfl
theorem tf_fit (a : Nat) : ∃ T2 : Nat, (a : Int) % 20000000 = (T2 : Int) ∧ (a : Int).tmod 20000000 = (T2 : Int) ∧ T2 < 20000000 := by
  have e : (a : Int).tmod 20000000 = (a : Int) % 20000000 := Int.tmod_eq_emod_of_nonneg (by omega)
  exact ⟨a % 20000000, by omega, by rw [e]; omega, by omega⟩
theorem infosTimes_walk (A : Option Addr) (l : List Ai) (c : Nat) (PA : Option Addr) (ws : List Nat) (pc : Nat) (w : World) (h : Ais w w.heap.size A l) (hl : l.length < 2 ^ 63) (hr : RU w PA ws) (hw : ws.length < 2 ^ 63) :
    Calls Try.prog 7 #[.slice A l.length c, .slice PA ws.length pc] w fun e w' => e = .returned (.bool true) ∧ Below w.heap.size w w' := by
  obtain ⟨n, hn⟩ : ∃ n, n = w.heap.size := ⟨_, rfl⟩
  have HN := Lib.hid hn
  have CG := Lib.hid (great_any A l c none 0 0 w h hl (by decide))
  rw [← hn] at h ⊢
  have HA := Lib.hid h; have HR := Lib.hid hr
  clear h hr hn
  by_cases h80 : 80 < ws.length
  · have d1 : decide ((80 : Int) < (ws.length : Int)) = true := by simp; omega
    have d2 : decide (80 < ws.length) = true := by simp; omega
    have hnb : n ≤ w.heap.size := Nat.le_of_eq HN.out
    clear h80
    go_enter Try.func7, Try.ntmps7
    go_wp2_with fail
    refine CG.out.mono ?_
    rintro e w1 ⟨b, rfl, _, rfl⟩
    clear CG
    cases b
    all_goals
      go_wp2_with fail
      refine (lives26_any _).mono ?_
      rintro e w9 ⟨rfl, b9⟩
      go_wp2_with fail
      go_ret
      exact ⟨rfl, b9.mono hnb⟩
  · have d1 : decide ((80 : Int) < (ws.length : Int)) = false := by simp; omega
    have d2 : decide (80 < ws.length) = false := by simp; omega
    have hnb : n ≤ w.heap.size := Nat.le_of_eq HN.out
    clear h80
    go_enter Try.func7, Try.ntmps7
    go_wp2_with fail
    refine CG.out.mono ?_
    rintro e w1 ⟨b, rfl, hb, rfl⟩
    clear CG
    cases b with
    | true =>
      clear hb
      go_wp2_with fail
      refine (lives26_any _).mono ?_
      rintro e w9 ⟨rfl, b9⟩
      go_wp2_with fail
      go_ret
      exact ⟨rfl, b9.mono hnb⟩
    | false =>
      have HB := Lib.hid (hb rfl)
      have CN : Hid (Calls Try.prog 15 #[.agg #[.int .u8 1, .int .u8 0, .int .u8 0, .int .u8 0, .int .u8 0, .int .u8 0]] w fun e w' => ∃ x, e = .returned (.pointer (some ⟨x, 0, none⟩)) ∧ w.heap.size ≤ x ∧ ClB w' x (newCl 1 0 0 0 0 0) ∧ Below w.heap.size w w') := Lib.hid (inew_any 1 0 0 0 0 0 w)
      clear hb
      go_wp2_with fail
      refine CN.out.mono ?_
      rintro e w1 ⟨x, rfl, hx, h1, b1⟩
      have CM : Hid (Calls Try.prog 20 #[.agg #[.int .u8 1, .int .u8 0, .int .u8 0, .int .u8 0, .int .u8 0, .int .u8 0]] w1 fun e w' => ∃ x, e = .returned (.pointer (some ⟨x, 0, none⟩)) ∧ w1.heap.size ≤ x ∧ RClB w' x (newCl 1 0 0 0 0 0) ∧ Below w1.heap.size w1 w') := Lib.hid (rcnew_any 1 0 0 0 0 0 w1)
      have H1 := Lib.hid h1; have B1 := Lib.hid b1
      have NX : Hid (n ≤ x ∧ x < w1.heap.size) := Lib.hid ⟨by omega, bk_lt h1.box⟩
      clear CN hx h1 b1
      go_wp2_with fail
      refine CM.out.mono ?_
      rintro e w2 ⟨y, rfl, hy, h2, b2⟩
      have H2 := Lib.hid h2
      have X2 := Lib.hid (H1.out.below b2)
      have NY : Hid (w1.heap.size ≤ y ∧ y < w2.heap.size) := Lib.hid ⟨hy, bk_lt h2.box⟩
      have B2 := Lib.hid (B1.out.trans (b2.mono B1.out.size))
      clear CM hy h2 b2 H1 B1
      obtain ⟨W, hW⟩ : ∃ W, W = (w2.alloc (.cells #[.slice none 0 0] 61)).alloc (.cells (wlC x y none w2.heap.size) 63) := ⟨_, rfl⟩
      have b3 : Below w2.heap.size w2 W := by rw [hW]; exact (by (repeat (first | exact Below.refl _ _ | assumption | refine Below.drew ?_ | refine bdrewN ?_ _ | refine Below.alloc ?_ (by first | omega | (simp <;> omega) | (simp only [World.size_alloc] <;> omega)) _ | refine below_setRow ?_ (by first | omega | (simp <;> omega)) _ | refine Below.setCell ?_ (by first | omega | (simp <;> omega)) _)))
      have kq : bk W w2.heap.size = some (.cells #[.slice none 0 0] 61 (0, 0)) := by rw [hW, bk_alloc_past _ _ _ (by simp)]; exact bk_alloc_at _ _ _ rfl
      have kb : bk W (w2.heap.size + 1) = some (.cells (wlC x y none w2.heap.size) 63 (0, 0)) := by rw [hW]; exact bk_alloc_at _ _ _ (by simp)
      have P3 : Hid (Pl w W n x y none W.heap.size w2.heap.size (w2.heap.size + 1)) := Lib.hid (by
        have h1 := NX.out; have h2 := NY.out; have h3 := bk_lt kb; have h4 := HN.out
        refine ⟨⟨newCl 1 0 0 0 0 0, [], ⟨X2.out.below b3, H2.out.below b3, .inl ⟨rfl, rfl⟩, ⟨⟨none, 0, kq, World.ownsRow_nil _ _ _ _, Nat.le_refl _⟩, by omega, fun _ h => by simp at h, by simp, Nat.le_refl _⟩, new_inv .., fun z h => by simp at h, by omega, by omega, by omega, fun k ⟨o, e⟩ => (by cases e), by omega, by omega, by omega, by omega, by omega⟩⟩, kb, ?_, by rw [h4]; exact B2.out.trans (b3.mono B2.out.size), h4⟩
        rintro ((e | ⟨o, e⟩) | (e | e))
        · omega
        · cases e
        · omega
        · omega)
      have HW := Lib.hid hW
      clear b3 kq kb hW X2 H2 B2 NX NY
      go_upto_region 4 with fail
      change Code.wp _ _ _ _ ((w2.alloc (.cells #[.slice none 0 0] 61)).alloc (.cells (wlC x y none w2.heap.size) 63))
      rw [← HW.out]
      generalize hq : w2.heap.size = q at *
      obtain ⟨b8, hb8⟩ : ∃ b, b = q + 1 := ⟨_, rfl⟩
      rw [← hb8] at P3 ⊢
      generalize hm : W.heap.size = m at P3
      have HAW : Hid (∀ wr, Pl w wr n x y none m q b8 → Ais wr n A l ∧ RU wr PA ws) := Lib.hid fun wr hp => ⟨HA.out.below hp.bl (Nat.le_refl _), HR.out.turn (Tn.of (by rw [← HN.out]; exact hp.bl)) (F := fun _ => False) fun _ b o e h => h⟩
      have HLB : Hid (l.length ≤ 80) := Lib.hid HB.out.1
      have HSM : Hid (∀ x ∈ l, x.l.length ≤ 1500) := Lib.hid HB.out.2.2
      clear HB HA HR HW hq hb8 hm d1 d2
      go_wp2_with fail
      go_loopw [6] (fun iv wr => ∃ (k : Nat), k ≤ l.length ∧ k ≤ ws.length ∧ iv = .int .i64 (k : Int) ∧ Hid (Pl w wr n x y none m q b8)) (fun iv _ => l.length - (intOf iv).toNat)
      case atStart => exact ⟨0, by omega, by omega, rfl, P3⟩
      case round =>
        clear P3
        obtain ⟨k, hk, hk2, rfl, HP⟩ := hrel
        by_cases hlt : k < l.length ∧ k < ws.length
        · obtain ⟨hlt1, hlt2⟩ := hlt
          have d1 : decide ((k : Int) < (l.length : Int)) = true := by simp; omega
          have d2 : decide ((k : Int) < (ws.length : Int)) = true := by simp; omega
          obtain ⟨ga, o, cc, t, fr, rfl, hgn, hka, hsz, hxt, hc⟩ := (HAW.out wr HP.out).1.at hlt1
          obtain ⟨gb, p0, rfl, hgb, hcb, hu⟩ := (HAW.out wr HP.out).2 k hlt2
          have hok := (HAW.out wr HP.out).1.2 _ (List.getElem_mem hlt1)
          have hsm := HSM.out _ (List.getElem_mem hlt1)
          obtain ⟨a, ha⟩ : ∃ a, a = l[k] := ⟨_, rfl⟩
          obtain ⟨u, hu'⟩ : ∃ u, u = ws[k] := ⟨_, rfl⟩
          rw [← ha] at hok hsm
          rw [← hu'] at hcb hu
          obtain ⟨T2, f1, f2, hT2⟩ := tf_fit u
          have HCE : Hid (∀ w', Pl w w' n x y none m q b8 → AiC w' ga (o + k * 4) a ∧ w'.cell? ⟨gb, p0 + k, none⟩ = some (.int .u32 (u : Int))) := Lib.hid fun w' hp => ⟨by rw [ha]; exact (HAW.out w' hp).1.cells hlt1, by
            obtain ⟨b', o', e, _, h4, _⟩ := (HAW.out w' hp).2 k hlt2
            cases e
            rw [hu']
            exact h4⟩
          have bd : Below wr.heap.size wr wr.drew := (by (repeat (first | exact Below.refl _ _ | assumption | refine Below.drew ?_ | refine bdrewN ?_ _ | refine Below.alloc ?_ (by first | omega | (simp <;> omega) | (simp only [World.size_alloc] <;> omega)) _ | refine below_setRow ?_ (by first | omega | (simp <;> omega)) _ | refine Below.setCell ?_ (by first | omega | (simp <;> omega)) _)))
          have HPD := Lib.hid (HP.out.below bd)
          have CD : Hid (Calls Try.prog 21 #[.agg #[.pointer (some ⟨x, 0, none⟩), .pointer (some ⟨y, 0, none⟩), .pointer none, .pointer (some ⟨q, 0, none⟩)], .int .u64 (T2 : Int), .agg #[.int .u8 (a.kind.toNat : Int), .slice a.A a.l.length a.c, .bool a.ours, .int .u32 (a.n : Int)]] wr.drew fun e w' => e = .returned (.bool true) ∧ Pl w w' n x y none m q b8) := Lib.hid (HPD.out.calls T2 a ⟨hok.rd.below bd HPD.out.nw, hok.nil, hok.le, hok.lt, hok.n32⟩ (by unfold far; omega) hsm)
          have lb := bk_lt HPD.out.kb
          have hgl := bk_lt hka
          have hgl' : ga < wr.drew.heap.size := hgl
          have hgb' : gb < wr.drew.heap.size := hgb
          obtain ⟨z0, z1, z2, z3⟩ := HPD.out.cells
          obtain ⟨⟨y0, y1, y2, y3⟩, y4⟩ := HCE.out _ HPD.out
          have e1 : IntKind.u64.wrap (u : Int) = (u : Int) := by rw [IntKind.wrap_u64]; omega
          clear bd HP ha hc hka hsz hxt hok hsm hu' hcb
          go_upto_region 7 with (fail)
          go_region_held3 (fun w' => w'.cell? ⟨b8, 0, none⟩ = some (.pointer (some ⟨x, 0, none⟩)) ∧ w'.cell? ⟨b8, 1, none⟩ = some (.pointer (some ⟨y, 0, none⟩)) ∧ w'.cell? ⟨b8, 2, none⟩ = some (.pointer none) ∧ w'.cell? ⟨b8, 3, none⟩ = some (.pointer (some ⟨q, 0, none⟩)) ∧ w'.cell? ⟨ga, o + k * 4, none⟩ = some (.int .u8 (a.kind.toNat : Int)) ∧ w'.cell? ⟨ga, o + k * 4 + 1, none⟩ = some (.slice a.A a.l.length a.c) ∧ w'.cell? ⟨ga, o + k * 4 + 2, none⟩ = some (.bool a.ours) ∧ w'.cell? ⟨ga, o + k * 4 + 3, none⟩ = some (.int .u32 (a.n : Int)) ∧ w'.cell? ⟨gb, p0 + k, none⟩ = some (.int .u32 (u : Int))) (first | assumption | go_keep)
            ((go_at_call 21; with_reducible refine CD.out.mono ?_; rintro e w8 ⟨rfl, p8⟩; have P8 := Lib.hid p8; obtain ⟨s0, s1, s2, s3⟩ := p8.cells; obtain ⟨⟨r0, r1, r2, r3⟩, r4⟩ := HCE.out w8 p8; clear p8 CD HPD))
          clear z0 z1 z2 z3 y0 y1 y2 y3 y4 s0 s1 s2 s3 r0 r1 r2 r3 r4 HCE hgl hgl' hgb hgb' lb f1 f2 e1 hu
          go_wp2_with fail
          go_roundw
          case rel => exact ⟨k + 1, by omega, by omega, by go_num, P8⟩
          case measure => simp [intOf]; omega
        · have hlt' : (decide ((k : Int) < (l.length : Int)) = false ∧ decide (k < l.length) = false) ∨ ((decide ((k : Int) < (l.length : Int)) = true ∧ decide (k < l.length) = true) ∧ decide ((k : Int) < (ws.length : Int)) = false ∧ decide (k < ws.length) = false) := by
            by_cases q : k < l.length
            · exact .inr ⟨⟨by simp; omega, by simp; omega⟩, by simp; omega, by simp; omega⟩
            · exact .inl ⟨by simp; omega, by simp; omega⟩
          clear hlt HAW HSM
          have CDL : ∀ {wr : World}, Pl w wr n x y none m q b8 → Calls Try.prog 21 #[.agg #[.pointer (some ⟨x, 0, none⟩), .pointer (some ⟨y, 0, none⟩), .pointer none, .pointer (some ⟨q, 0, none⟩)], .int .u64 9223372036854770807, .agg #[.int .u8 1, .slice none 0 0, .bool false, .int .u32 0]] wr fun e w' => e = .returned (.bool true) ∧ Pl w w' n x y none m q b8 := fun hp => hp.calls 9223372036854770807 ⟨1, none, [], 0, false, 0⟩ ⟨Rd.nil, fun _ => ⟨rfl, rfl⟩, Nat.le_refl _, by decide, by decide⟩ (by unfold far; omega) (by decide)
          have CD := Lib.hid (CDL HP.out)
          obtain ⟨z0, z1, z2, z3⟩ := HP.out.cells
          have lb := bk_lt HP.out.kb
          clear CDL HP
          rcases hlt' with ⟨d1, d3⟩ | ⟨⟨d1, d3⟩, d2, d4⟩
          all_goals
            go_wp2_with fail
            refine CD.out.mono ?_
            rintro e w8 ⟨rfl, p8⟩
            have BF : Hid (Below n w w8) := Lib.hid p8.bl
            have NF := Lib.hid p8.nw
            clear p8 CD z0 z1 z2 z3
            go_wp2_with fail
            refine (lives26_any _).mono ?_
            rintro e w9 ⟨rfl, b9⟩
            go_wp2_with fail
            go_ret
            exact ⟨rfl, BF.out.trans (b9.mono NF.out)⟩
end Go.Proofs.Ytfldoihindbdmaa

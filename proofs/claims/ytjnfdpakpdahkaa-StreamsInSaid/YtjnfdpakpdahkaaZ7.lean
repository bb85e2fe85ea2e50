/- Streams: an end of reading: bytes come. -/
import Derived.Test.YtjnfdpakpdahkaaZ6
namespace Go.Proofs.Ytjnfdpakpdahkaa
open Go.RowKit
set_option maxRecDepth 100000
set_option maxHeartbeats 1000000
theorem Rd.far {w : World} {n g : Nat} {A : Option Addr} {l : List UInt8} (h : Rd w n A l) (hg : n ≤ g) : 0 < l.length → ∀ bb o, A = some ⟨bb, o, none⟩ → bb ≠ g := fun h0 bb o e => by
  obtain ⟨b, o', e', hb, _⟩ := h h0
  rw [e] at e'
  cases e'
  omega
theorem byte_at (s : Sn) (d : Nat) (c : UInt8) : (s.byte d c).at' = s.at' := by unfold Sn.byte; split <;> rfl
theorem bytes_at' : ∀ (l : List UInt8) (s : Sn) (d : Nat), (s.bytes d l).1.at' = s.at'
  | [], _, _ => rfl
  | c :: l, s, d => (bytes_at' l (s.byte d c) _).trans (byte_at s d c)
theorem bytes_snoc : ∀ (l : List UInt8) (s : Sn) (d : Nat) (c : UInt8), d < m32 → s.bytes d (l ++ [c]) = ((s.bytes d l).1.byte ((d + l.length) % m32) c, (s.bytes d l).2 || (s.bytes d l).1.takes ((d + l.length) % m32))
  | [], s, d, c, h => by
    simp only [List.nil_append, Sn.bytes, List.length_nil, Nat.add_zero, Nat.mod_eq_of_lt h, Bool.or_false, Bool.false_or]
  | y :: l, s, d, c, h => by
    have ih := bytes_snoc l (s.byte d y) ((d + 1) % m32) c (Nat.mod_lt _ (by decide))
    simp only [List.cons_append, Sn.bytes]
    rw [ih]
    have : ((d + 1) % m32 + l.length) % m32 = (d + (y :: l).length) % m32 := by
      rw [Nat.mod_add_mod, List.length_cons]
      congr 1
      omega
    rw [this]
    simp only [Bool.or_assoc]
theorem dist_add {q p : Nat} (k : Nat) (hp : p < m32) : dist ((q + k) % m32) p = (dist q p + k) % m32 := by
  unfold dist m32 at *
  omega
theorem iput_any (n x g e : Nat) (v : Value) (s : Sn) (w : World) (h : InB w n x g e v s) (hn : n ≤ w.heap.size) (q : Nat) (hq : q < m32) (A : Option Addr) (b : List UInt8) (c : Nat) (fin : Bool) (hr : Rd w w.heap.size A b) (hbg : 0 < b.length → ∀ bb o, A = some ⟨bb, o, none⟩ → bb ≠ g) (hA : A = none → b = [] ∧ c = 0) (hbc : b.length ≤ c) (hbl : b.length < 4294967296) :
    Calls Try.prog 9 #[.pointer (some ⟨x, 0, none⟩), .int .u32 (q : Int), .slice A b.length c, .bool fin] w fun r w' => r = .returned (.bool (s.put q b fin).2) ∧ ∃ e' v', InB w' n x g e' v' (s.put q b fin).1 ∧ (∀ k, v'.ownBlock = some k → v.ownBlock = some k ∨ w.heap.size ≤ k) ∧ Tn (Ft x g v) w w' := by
  have HI := Lib.hid h
  have C := h.there
  have CE := Lib.hid (iended_any n x g e v s w h)
  have HR := Lib.hid hr
  have HBG := Lib.hid hbg
  have HN := Lib.hid hn
  obtain ⟨ov, hov⟩ : ∃ ov, ov = s.over := ⟨_, rfl⟩
  rw [← hov] at CE
  have HOV := Lib.hid hov
  obtain ⟨d, hd⟩ : ∃ d, d = dist q s.at' := ⟨_, rfl⟩
  have hd32 : d < m32 := hd ▸ dist_lt _ _
  have HD := Lib.hid hd
  have HP := Lib.hid h.ok.at32
  clear h hr hbg hov hd hn
  go_enter Try.func9, Try.ntmps9
  go_wp2_with fail
  refine (C.out).mono ?_
  rintro e w0 ⟨rfl, hw⟩
  subst hw
  go_wp2_with fail
  refine (CE.out).mono ?_
  rintro e w1 ⟨rfl, b1⟩
  cases ov
  · have HPut : Hid (s.put q b fin = (((if fin then (s.bytes d b).1.end' (dist ((q + b.length) % m32) s.at') else (s.bytes d b).1).settle, (fin && (s.bytes d b).1.endsAt (dist ((q + b.length) % m32) s.at')) || (s.bytes d b).2))) := Lib.hid (by
      unfold Sn.put
      rw [← HOV.out, HD.out]
      rfl)
    have HI1 := Lib.hid (HI.out.below b1)
    have B1 := Lib.hid b1
    clear b1 C CE
    go_wp2_with fail
    go_loopw [8, 20] (fun sv iv wr => ∃ k : Nat, k ≤ b.length ∧ iv = .int .i64 (k : Int) ∧ sv = .bool (s.bytes d (b.take k)).2 ∧ Hid (InB wr n x g e v (s.bytes d (b.take k)).1) ∧ Hid (Tn (fun k => k = g) w wr)) (fun _ iv _ => b.length - (intOf iv).toNat)
    case atStart => exact ⟨0, by omega, rfl, rfl, HI1, Lib.hid (Tn.of B1.out)⟩
    case round =>
      obtain ⟨k, hk, rfl, rfl, HK, HT⟩ := hrel
      by_cases hlt : k < b.length
      · obtain ⟨Q, hQ⟩ : ∃ Q, Q = (q + k) % m32 := ⟨_, rfl⟩
        have hQ32 : Q < m32 := hQ ▸ Nat.mod_lt _ (by decide)
        have hQI : ((q : Int) + (k : Int)) % 4294967296 = (Q : Int) := by subst hQ; unfold m32; omega
        have hki : (k : Int) % 4294967296 = (k : Int) := by omega
        have hltI : (k : Int) < (b.length : Int) := by omega
        obtain ⟨bb, o, rfl, hbn, hcl⟩ := HR.out (by omega)
        have hbk : bk wr bb = bk w bb := HT.out.old bb hbn (HBG.out (by omega) bb o rfl)
        have u1 := (World.cell?_of_block (a := ⟨bb, o + k, none⟩) hbk).trans (hcl k hlt)
        obtain ⟨y, hy⟩ : ∃ y, y = b[k] := ⟨_, rfl⟩
        rw [← hy] at u1
        have CB := Lib.hid (ibyte_any n x g e v _ wr HK.out Q y hQ32)
        have HNX := Lib.hid (show s.bytes d (b.take (k + 1)) = ((s.bytes d (b.take k)).1.byte (dist Q s.at') y, (s.bytes d (b.take k)).2 || (s.bytes d (b.take k)).1.takes (dist Q s.at')) by
          rw [List.take_succ_eq_append_getElem hlt, ← hy, bytes_snoc _ _ _ _ hd32, List.length_take, Nat.min_eq_left hk, HD.out, hQ, dist_add _ HP.out])
        rw [bytes_at'] at CB
        obtain ⟨so, hso⟩ : ∃ so, so = (s.bytes d (b.take k)).2 := ⟨_, rfl⟩
        obtain ⟨tk, htk⟩ : ∃ tk, tk = (s.bytes d (b.take k)).1.takes (dist Q s.at') := ⟨_, rfl⟩
        rw [← hso, ← htk] at HNX
        rw [← htk] at CB
        rw [← hso]
        have H2 : Hid (∀ w2 : World, InB w2 n x g e v ((s.bytes d (b.take k)).1.byte (dist Q s.at') y) → InB w2 n x g e v (s.bytes d (b.take (k + 1))).1) := Lib.hid fun w2 h => by rw [HNX.out]; exact h
        have H3 : Hid ((s.bytes d (b.take (k + 1))).2 = (so || tk)) := Lib.hid (by rw [HNX.out])
        clear hQ hy hso htk hcl hbk hA
        go_wp2_with fail
        refine CB.out.mono ?_
        rintro r w2 ⟨rfl, I2, T2⟩
        have I2' := Lib.hid (H2.out w2 I2)
        have T2' := Lib.hid (HT.out.trans T2 fun j hj => .inl hj)
        clear I2 T2 u1
        cases tk
        · go_wp2_with fail
          exact ⟨⟨k + 1, by omega, by simp, by rw [H3.out, Bool.or_false], I2', T2'⟩, by simp [intOf]; omega⟩
        · go_wp2_with fail
          exact ⟨⟨k + 1, by omega, by simp, by rw [H3.out, Bool.or_true], I2', T2'⟩, by simp [intOf]; omega⟩
      · obtain rfl : k = b.length := by omega
        have hkk : ¬ ((b.length : Int) < (b.length : Int)) := by omega
        rw [List.take_length] at HK ⊢
        obtain ⟨r, hr⟩ : ∃ r, r = s.bytes d b := ⟨_, rfl⟩
        have hat : r.1.at' = s.at' := by rw [hr]; exact bytes_at' b s d
        rw [← hr] at HK ⊢
        rw [← hr] at HPut
        obtain ⟨so, hso⟩ : ∃ so, so = r.2 := ⟨_, rfl⟩
        rw [← hso] at HPut ⊢
        clear hr hso
        obtain ⟨Q, hQ⟩ : ∃ Q, Q = (q + b.length) % m32 := ⟨_, rfl⟩
        have hQ32 : Q < m32 := hQ ▸ Nat.mod_lt _ (by decide)
        have hQI : ((q : Int) + (b.length : Int)) % 4294967296 = (Q : Int) := by subst hQ; unfold m32; omega
        have hbi : (b.length : Int) % 4294967296 = (b.length : Int) := by omega
        rw [← hQ, ← hat] at HPut
        have hnr : n ≤ wr.heap.size := Nat.le_trans HN.out HT.out.size
        clear hQ hat
        cases fin
        · have CS := Lib.hid (isettle_any n x g e v r.1 wr HK.out hnr)
          go_wp2_with fail
          refine CS.out.mono ?_
          rintro _ w3 ⟨rfl, v3, I3, V3, T3⟩
          have I3' := Lib.hid I3; have V3' := Lib.hid V3; have T3' := Lib.hid T3
          clear I3 V3 T3 CS
          go_wp2_with fail
          go_ret
          refine ⟨?_, e, v3, ?_, fun k hk => ?_, ?_⟩
          · rw [HPut.out]; rfl
          · rw [HPut.out]; exact I3'.out
          · exact (V3'.out k hk).imp (fun h => h) (fun h => Nat.le_trans HT.out.size h)
          · exact Tn.trans (F := Ft x g v) (Tn.trans (Tn.refl _ w) HT.out fun j hj => .inl (.inr (.inl hj))) T3'.out fun j hj => .inl hj
        · have CN := Lib.hid (iends_any n x g e v r.1 wr HK.out Q hQ32)
          go_wp2_with fail
          refine CN.out.mono ?_
          rintro _ w2 ⟨rfl, e2, I2, T2⟩
          have CS := Lib.hid (isettle_any n x g e2 v _ w2 I2 (Nat.le_trans hnr T2.size))
          have T2' := Lib.hid T2
          obtain ⟨en, hen⟩ : ∃ en, en = r.1.endsAt (dist Q r.1.at') := ⟨_, rfl⟩
          rw [← hen] at HPut ⊢
          clear I2 T2 CN hen
          cases en
          all_goals
            go_wp2_with fail
            refine CS.out.mono ?_
            rintro _ w3 ⟨rfl, v3, I3, V3, T3⟩
            have I3' := Lib.hid I3; have V3' := Lib.hid V3; have T3' := Lib.hid T3
            clear I3 V3 T3 CS
            go_wp2_with fail
            go_ret
            refine ⟨?_, e2, v3, ?_, fun k hk => ?_, ?_⟩
            · rw [HPut.out]; simp
            · rw [HPut.out]; exact I3'.out
            · exact (V3'.out k hk).imp (fun h => h) (fun h => Nat.le_trans (Nat.le_trans HT.out.size T2'.out.size) h)
            · exact Tn.trans (F := Ft x g v) (Tn.trans (F := Ft x g v) (Tn.trans (Tn.refl _ w) HT.out fun j hj => .inl (.inr (.inl hj))) T2'.out fun j hj => .inl (.inl hj)) T3'.out fun j hj => .inl hj
  · have HPut : Hid (s.put q b fin = (s, false)) := Lib.hid (by unfold Sn.put; rw [← HOV.out]; rfl)
    go_wp2_with fail
    go_ret
    exact ⟨by rw [HPut.out]; rfl, e, v, by rw [HPut.out]; exact HI.out.below b1, fun k hk => .inl hk, Tn.of b1⟩
end Go.Proofs.Ytjnfdpakpdahkaa

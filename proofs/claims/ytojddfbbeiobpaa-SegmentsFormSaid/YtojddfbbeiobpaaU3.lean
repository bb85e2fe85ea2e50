/- Checksums: the document's of one list. -/
import Derived.Test.YtojddfbbeiobpaaU0
import Derived.Test.YtojddfbbeiobpaaS6
namespace Go.Proofs.Ytojddfbbeiobpaa
open Go.RowKit
set_option maxRecDepth 100000
theorem tk_two (l : List UInt8) (m : Nat) (h : 2 * m + 1 < l.length) : ws (tk l (2 * m + 2)) = ws (tk l (2 * m)) + (256 * (l[2 * m]'(by omega)).toNat + l[2 * m + 1].toNat) := by
  rw [tk_succ, tk_succ, ws_snoc, ws_snoc, List.getElem?_eq_getElem (by omega), List.getElem?_eq_getElem h]
  simp [wt, show (2 * m + 1) % 2 = 1 by omega]
  omega
theorem tk_one (l : List UInt8) (m : Nat) (h : 2 * m < l.length) : ws (tk l (2 * m + 1)) = ws (tk l (2 * m)) + 256 * l[2 * m].toNat := by
  rw [tk_succ, ws_snoc, List.getElem?_eq_getElem h]
  simp [wt]
set_option maxHeartbeats 1000000 in
theorem rof_any (A : Option Addr) (l : List UInt8) (c : Nat) (w : World) (h : Rd w w.heap.size A l) (hl : l.length < 2 ^ 40) :
    Calls Try.prog 44 #[.slice A l.length c] w fun e w' => e = .returned (.int .u16 (sumOf l : Nat)) ∧ w = w' := by
  have H := Lib.hid h
  clear h
  go_enter Try.func44, Try.ntmps44
  go_wp2_with fail
  go_loopw [3, 4] (fun s i wr => ∃ m : Nat, 2 * m ≤ l.length + 1 ∧ i = .int .i64 (2 * m : Nat) ∧ s = .int .u32 (red (ws (tk l (min (2 * m) l.length))) : Nat) ∧ w = wr) (fun _ i _ => l.length + 2 - (intOf i).toNat)
  case atStart => exact ⟨0, by omega, rfl, by simp [tk, ws, red], rfl⟩
  case round =>
    obtain ⟨m, hm, rfl, rfl, rfl⟩ := hrel
    by_cases hlt : 2 * m < l.length
    · have d1 : decide (((2 * m : Nat) : Int) < (l.length : Int)) = true := by simp; omega
      obtain ⟨b, o, rfl, hbl, hc⟩ := H.out (by omega)
      have h0 := hc (2 * m) hlt
      have x0 := (l[2 * m]).toNat_lt
      have hmin : min (2 * m) l.length = 2 * m := by omega
      rw [hmin]
      have hS := red_le (ws (tk l (2 * m)))
      by_cases hlt1 : 2 * m + 1 < l.length
      · have h1 := hc (2 * m + 1) hlt1
        have x1 := (l[2 * m + 1]).toNat_lt
        have hmin' : min (2 * (m + 1)) l.length = 2 * m + 2 := by omega
        have hnew := red_add (ws (tk l (2 * m))) (256 * l[2 * m].toNat + l[2 * m + 1].toNat) (by omega)
        rw [← tk_two l m hlt1, ← hmin'] at hnew
        have HN := Lib.hid hnew
        clear hnew hmin hmin' hc
        unfold B at h0 h1
        generalize hgs : red (ws (tk l (2 * m))) = S at *
        generalize l[2 * m].toNat = y0 at *
        generalize l[2 * m + 1].toNat = y1 at *
        obtain ⟨q, hq⟩ : ∃ q, q = 2 * m := ⟨_, rfl⟩
        rw [← hq] at h0 h1 d1 hlt hlt1
        rw [← hq]
        have HQ := Lib.hid hq
        have w0 : IntKind.u32.wrap (y0 : Int) = y0 := by rw [IntKind.wrap_u32]; omega
        have w1 : IntKind.u32.wrap (y1 : Int) = y1 := by rw [IntKind.wrap_u32]; omega
        have w2 : IntKind.u32.wrap (256 * (y0 : Int)) = 256 * y0 := by rw [IntKind.wrap_u32]; omega
        have w3 : IntKind.u32.wrap (256 * (y0 : Int) + y1) = 256 * y0 + y1 := by rw [IntKind.wrap_u32]; omega
        have w4 : IntKind.u32.wrap ((S : Int) + (256 * y0 + y1)) = S + (256 * y0 + y1) := by rw [IntKind.wrap_u32]; omega
        have e1 : decide ((q : Int) + 1 < (l.length : Int)) = true := by simp; omega
        have t1 : ((q : Int) + 1).toNat = q + 1 := by omega
        clear hgs hq
        by_cases hbig : 65535 < S + (256 * y0 + y1)
        · have w5 : IntKind.u32.wrap ((S : Int) + (256 * y0 + y1) - 65535) = S + (256 * y0 + y1) - 65535 := by rw [IntKind.wrap_u32]; omega
          have e2 : decide (65535 < (S : Int) + (256 * y0 + y1)) = true := by simp; omega
          go_wp2_with fail
          go_roundw
          case rel =>
            have hq := HQ.out
            exact ⟨m + 1, by omega, by congr 1; go_num, (by rw [← HN.out, if_pos hbig]; congr 1; omega), by trivial⟩
          case measure => simp [intOf]; omega
        · have e2 : decide (65535 < (S : Int) + (256 * y0 + y1)) = false := by simp; omega
          go_wp2_with fail
          go_roundw
          case rel =>
            have hq := HQ.out
            exact ⟨m + 1, by omega, by congr 1; go_num, (by rw [← HN.out, if_neg hbig]; congr 1), by trivial⟩
          case measure => simp [intOf]; omega
      · have hmin' : min (2 * (m + 1)) l.length = 2 * m + 1 := by omega
        have hnew := red_add (ws (tk l (2 * m))) (256 * l[2 * m].toNat) (by omega)
        rw [← tk_one l m hlt, ← hmin'] at hnew
        have HN := Lib.hid hnew
        clear hnew hmin hmin' hc
        unfold B at h0
        generalize hgs : red (ws (tk l (2 * m))) = S at *
        generalize l[2 * m].toNat = y0 at *
        obtain ⟨q, hq⟩ : ∃ q, q = 2 * m := ⟨_, rfl⟩
        rw [← hq] at h0 d1 hlt hlt1
        rw [← hq]
        have HQ := Lib.hid hq
        have w0 : IntKind.u32.wrap (y0 : Int) = y0 := by rw [IntKind.wrap_u32]; omega
        have w2 : IntKind.u32.wrap (256 * (y0 : Int)) = 256 * y0 := by rw [IntKind.wrap_u32]; omega
        have w4 : IntKind.u32.wrap ((S : Int) + 256 * y0) = S + 256 * y0 := by rw [IntKind.wrap_u32]; omega
        have e1 : decide ((q : Int) + 1 < (l.length : Int)) = false := by simp; omega
        clear hgs hq
        by_cases hbig : 65535 < S + 256 * y0
        · have w5 : IntKind.u32.wrap ((S : Int) + 256 * y0 - 65535) = S + 256 * y0 - 65535 := by rw [IntKind.wrap_u32]; omega
          have e2 : decide (65535 < (S : Int) + 256 * y0) = true := by simp; omega
          go_wp2_with fail
          go_roundw
          case rel =>
            have hq := HQ.out
            exact ⟨m + 1, by omega, by congr 1; go_num, (by rw [← HN.out, if_pos hbig]; congr 1; omega), by trivial⟩
          case measure => simp [intOf]; omega
        · have e2 : decide (65535 < (S : Int) + 256 * y0) = false := by simp; omega
          go_wp2_with fail
          go_roundw
          case rel =>
            have hq := HQ.out
            exact ⟨m + 1, by omega, by congr 1; go_num, (by rw [← HN.out, if_neg hbig]; congr 1), by trivial⟩
          case measure => simp [intOf]; omega
    · have d1 : decide (((2 * m : Nat) : Int) < (l.length : Int)) = false := by simp; omega
      have hmin : min (2 * m) l.length = l.length := by omega
      rw [hmin]
      have hS := red_le (ws (tk l l.length))
      have HE := Lib.hid (show ((65535 - red (ws (tk l l.length)) : Nat) : Int) = (sumOf l : Nat) from rfl)
      generalize red (ws (tk l l.length)) = S at *
      have w4 : IntKind.u32.wrap (65535 - (S : Int)) = 65535 - S := by rw [IntKind.wrap_u32]; omega
      have w5 : IntKind.u16.wrap (65535 - (S : Int)) = 65535 - S := by rw [IntKind.wrap_u16]; omega
      go_wp2_with fail
      go_ret
      exact ⟨ret_int (by rw [← HE.out]; first | omega | (rw [w5]; omega)), rfl⟩
end Go.Proofs.Ytojddfbbeiobpaa

/- Chapter 8: at, next, behind, walked. No condition but bounds. -/
import Derived.Test.YtmjacmjogckihaaWhiteA
namespace Go.Proofs.Ytmjacmjogckihaa.White
open Go.RowKit
set_option linter.unusedVariables false
set_option linter.unusedSimpArgs false

set_option maxHeartbeats 1000000 in
theorem at_any (A : Option Addr) (n c : Nat) (ms : List Mk) (i : Int) (g : Nat) (f : Mk → Bool) (eg : ∀ args w, (callFunc g args).run Try.prog w = .ok (.enter g args) w) (hf : MarkFn g f) (hn : n ≤ 1000000000) (w : World) (hr : Reads w w.heap.size 9 A n (mkL ms)) :
    Calls Try.prog 41 #[.slice A n c, .int .i64 i, .func (.func g) #[] #[]] w fun e w' => e = .returned (.bool (atB ms i f)) ∧ Below w.heap.size w w' := by
  have hl := len_mk hr
  by_cases h0 : 0 ≤ i
  · have q0 : decide (0 ≤ i) = true := decide_eq_true h0
    by_cases h1 : i < n
    · have q1 : decide (i < (n : Int)) = true := decide_eq_true h1
      obtain ⟨j, rfl⟩ : ∃ j : Nat, i = j := ⟨i.toNat, by omega⟩
      obtain ⟨ad, m, rfl, hb, hm, cc⟩ := reads_mk hr (show j < n by omega)
      have HE := Lib.hid (show atB ms j f = f m by unfold atB; rw [geti_nat, hm]; rfl)
      have HF := Lib.hid (fun W => hf m W)
      generalize f m = b at HE HF
      obtain ⟨c0, c1, c2, c3, c4, c5, c6, c7, c8⟩ := cc
      obtain ⟨⟨r0, nd, p, nn, k⟩, st, fo, en, so⟩ := m
      simp only at c0 c1 c2 c3 c4 c5 c6 c7 c8
      clear hr hm hb hf hl
      go_enter Try.func41, Try.ntmps41
      go_wp2_with (go_at_fn g; (refine (HF.out _).mono ?_); rintro e w1 ⟨rfl, b1⟩; have B1 := Lib.hid b1; clear b1)
      go_ret
      exact ⟨by rw [HE.out]; rfl, B1.out⟩
    · have q1 : decide (i < (n : Int)) = false := decide_eq_false h1
      have HE := Lib.hid (show atB ms i f = false by unfold atB; rw [geti_big ms i (by omega)]; rfl)
      clear hr h1 hf hl
      go_enter Try.func41, Try.ntmps41
      go_wp2
      go_ret
      exact ⟨by rw [HE.out]; rfl, Below.refl _ _⟩
  · have q0 : decide (0 ≤ i) = false := decide_eq_false h0
    have HE := Lib.hid (show atB ms i f = false by unfold atB; rw [geti_neg ms i (by omega)]; rfl)
    clear hr h0 hf hl
    go_enter Try.func41, Try.ntmps41
    go_wp2
    go_ret
    exact ⟨by rw [HE.out]; rfl, Below.refl _ _⟩
theorem dw_cons {α : Type} (p : α → Bool) (x : α) (l : List α) : (x :: l).dropWhile p = if p x = true then l.dropWhile p else x :: l := by
  rw [List.dropWhile_cons]
set_option maxHeartbeats 2000000 in
theorem nextL_any (A : Option Addr) (n c : Nat) (ms : List Mk) (j : Nat) (hj : j ≤ n) (hn : n ≤ 1000000000) (w : World) (hr : Reads w w.heap.size 9 A n (mkL ms)) :
    Calls Try.prog 46 #[.slice A n c, .int .i64 j, .int .i64 (-1)] w fun e w' => ∃ q : Int, e = .returned (.int .i64 q) ∧ geti ms q = ((ms.take j).reverse.dropWhile whM).head? ∧ Below w.heap.size w w' := by
  have HL := Lib.hid (len_mk hr)
  have HR := Lib.hid hr
  have nn : (n : Int) ≤ 1000000000 := by omega
  have jj : (j : Int) ≤ (n : Int) := by omega
  clear hr
  go_enter Try.func46, Try.ntmps46
  go_wp2
  go_loopw [1] (fun i wr => ∃ q : Int, i = .int .i64 q ∧ -1 ≤ q ∧ q ≤ (j : Int) - 1 ∧ Hid ((ms.take j).reverse.dropWhile whM = (ms.take (q + 1).toNat).reverse.dropWhile whM) ∧ Hid (Below w.heap.size w wr)) (fun i _ => (intOf i + 1).toNat)
  case atStart => exact ⟨(j : Int) - 1, by go_num, by omega, by omega, Lib.hid (by rw [show ((j : Int) - 1 + 1).toNat = j by omega]), Lib.hid (Below.refl _ _)⟩
  case round =>
    obtain ⟨q, rfl, q0, q1, HD, HB⟩ := hrel
    by_cases h0 : 0 ≤ q
    · have g0 : decide (0 ≤ q) = true := decide_eq_true h0
      obtain ⟨k, rfl⟩ : ∃ k : Nat, q = k := ⟨q.toNat, by omega⟩
      have g1 : decide ((k : Int) < (n : Int)) = true := decide_eq_true (by omega)
      obtain ⟨ad, m, rfl, hb, hm, cc⟩ := reads_mk (HR.out.below HB.out) (show k < n by omega)
      have HS := Lib.hid (rev_step ms k m hm)
      have HG := Lib.hid (show geti ms (k : Int) = some m by rw [geti_nat, hm])
      have HF := Lib.hid (fun W => white_any m W)
      obtain ⟨c0, c1, c2, c3, c4, c5, c6, c7, c8⟩ := cc
      have HE : Hid (((k : Int) + 1).toNat = k + 1) := Lib.hid (by omega)
      rw [HE.out, HS.out, dw_cons] at HD
      obtain ⟨b, hb'⟩ : ∃ b, whM m = b := ⟨_, rfl⟩
      rw [hb'] at HF HD
      clear hm hb hb' HS
      cases b with
      | true =>
        have HD2 := Lib.hid (show (ms.take j).reverse.dropWhile whM = (ms.take k).reverse.dropWhile whM by have := HD.out; rwa [if_pos rfl] at this)
        obtain ⟨⟨r0, nd, p, nn', kk⟩, st, fo, en, so⟩ := m
        simp only at c0 c1 c2 c3 c4 c5 c6 c7 c8
        go_wp2_with (go_at_call 45; (refine (HF.out _).mono ?_); rintro e w1 ⟨rfl, b1⟩; have B1 := Lib.hid (bel_trans HB.out b1); clear b1)
        go_roundw
        case rel => exact ⟨(k : Int) - 1, by go_num, by omega, by omega, Lib.hid (by rw [show ((k : Int) - 1 + 1).toNat = k by omega]; exact HD2.out), B1⟩
        case measure => simp [intOf]; omega
      | false =>
        have HD2 := Lib.hid (show geti ms (k : Int) = ((ms.take j).reverse.dropWhile whM).head? by have := HD.out; rw [if_neg (by simp)] at this; rw [this]; exact HG.out)
        obtain ⟨⟨r0, nd, p, nn', kk⟩, st, fo, en, so⟩ := m
        simp only at c0 c1 c2 c3 c4 c5 c6 c7 c8
        go_wp2_with (go_at_call 45; (refine (HF.out _).mono ?_); rintro e w1 ⟨rfl, b1⟩; have B1 := Lib.hid (bel_trans HB.out b1); clear b1)
        go_ret
        exact ⟨_, rfl, HD2.out, B1.out⟩
    · have g0 : decide (0 ≤ q) = false := decide_eq_false h0
      have HD2 := Lib.hid (show geti ms q = ((ms.take j).reverse.dropWhile whM).head? by
        rw [HD.out, show (q + 1).toNat = 0 by omega, geti_neg ms q (by omega)]
        rfl)
      go_wp2
      go_ret
      exact ⟨_, rfl, HD2.out, HB.out⟩
set_option maxHeartbeats 2000000 in
theorem nextR_any (A : Option Addr) (n c : Nat) (ms : List Mk) (j : Nat) (hj : j < n) (hn : n ≤ 1000000000) (w : World) (hr : Reads w w.heap.size 9 A n (mkL ms)) :
    Calls Try.prog 46 #[.slice A n c, .int .i64 j, .int .i64 1] w fun e w' => ∃ q : Int, e = .returned (.int .i64 q) ∧ geti ms q = ((ms.drop (j + 1)).dropWhile whM).head? ∧ Below w.heap.size w w' := by
  have HL := Lib.hid (len_mk hr)
  have HR := Lib.hid hr
  have nn : (n : Int) ≤ 1000000000 := by omega
  have jj : (j : Int) < (n : Int) := by omega
  clear hr
  go_enter Try.func46, Try.ntmps46
  go_wp2
  go_loopw [1] (fun i wr => ∃ k : Nat, i = .int .i64 k ∧ k ≤ n ∧ Hid ((ms.drop (j + 1)).dropWhile whM = (ms.drop k).dropWhile whM) ∧ Hid (Below w.heap.size w wr)) (fun i _ => n - (intOf i).toNat)
  case atStart => exact ⟨j + 1, by go_num, by omega, Lib.hid rfl, Lib.hid (Below.refl _ _)⟩
  case round =>
    obtain ⟨k, rfl, hk, HD, HB⟩ := hrel
    have g0 : decide ((0 : Int) ≤ (k : Int)) = true := decide_eq_true (by omega)
    by_cases h1 : k < n
    · have g1 : decide ((k : Int) < (n : Int)) = true := decide_eq_true (by omega)
      have g2 : (k : Int) < (n : Int) := by omega
      obtain ⟨ad, m, rfl, hb, hm, cc⟩ := reads_mk (HR.out.below HB.out) h1
      have HS := Lib.hid (drop_step ms k m hm)
      have HG := Lib.hid (show geti ms (k : Int) = some m by rw [geti_nat, hm])
      have HF := Lib.hid (fun W => white_any m W)
      obtain ⟨c0, c1, c2, c3, c4, c5, c6, c7, c8⟩ := cc
      rw [HS.out, dw_cons] at HD
      obtain ⟨b, hb'⟩ : ∃ b, whM m = b := ⟨_, rfl⟩
      rw [hb'] at HF HD
      have HBb := Lib.hid hb'
      clear hm hb hb' HS
      cases b with
      | true =>
        have HD2 := Lib.hid (show (ms.drop (j + 1)).dropWhile whM = (ms.drop (k + 1)).dropWhile whM by have := HD.out; rwa [if_pos rfl] at this)
        obtain ⟨⟨r0, nd, p, nn', kk⟩, st, fo, en, so⟩ := m
        simp only at c0 c1 c2 c3 c4 c5 c6 c7 c8
        go_wp2_with (go_at_call 45; (refine (HF.out _).mono ?_); rintro e w1 ⟨rfl, b1⟩; have B1 := Lib.hid (bel_trans HB.out b1); clear b1)
        go_roundw
        case rel => exact ⟨k + 1, by go_num, by omega, HD2, B1⟩
        case measure => simp [intOf]; omega
      | false =>
        have HD2 := Lib.hid (show geti ms (k : Int) = ((ms.drop (j + 1)).dropWhile whM).head? by have := HD.out; rw [if_neg (by simp)] at this; rw [this]; exact HG.out)
        obtain ⟨⟨r0, nd, p, nn', kk⟩, st, fo, en, so⟩ := m
        simp only at c0 c1 c2 c3 c4 c5 c6 c7 c8
        go_wp2_with (go_at_call 45; (refine (HF.out _).mono ?_); rintro e w1 ⟨rfl, b1⟩; have B1 := Lib.hid (bel_trans HB.out b1); clear b1)
        go_ret
        exact ⟨_, rfl, HD2.out, B1.out⟩
    · have g1 : decide ((k : Int) < (n : Int)) = false := decide_eq_false (by omega)
      have HD2 := Lib.hid (show geti ms (k : Int) = ((ms.drop (j + 1)).dropWhile whM).head? by
        rw [HD.out, List.drop_of_length_le (by rw [HL.out]; omega), geti_big ms k (by rw [HL.out]; omega)]
        rfl)
      go_wp2
      go_ret
      exact ⟨_, rfl, HD2.out, HB.out⟩
set_option maxHeartbeats 2000000 in
theorem behind_any (A : Option Addr) (n c : Nat) (ms : List Mk) (j : Nat) (hj : j < n) (hn : n ≤ 1000000000) (w : World) (hr : Reads w w.heap.size 9 A n (mkL ms)) :
    Calls Try.prog 49 #[.slice A n c, .int .i64 j] w fun e w' => ∃ q : Int, e = .returned (.int .i64 q) ∧ geti ms q = ((ms.drop j).dropWhile Mk.so).head? ∧ Below w.heap.size w w' := by
  have HL := Lib.hid (len_mk hr)
  have HR := Lib.hid hr
  have nn : (n : Int) ≤ 1000000000 := by omega
  have jj : (j : Int) < (n : Int) := by omega
  clear hr
  go_enter Try.func49, Try.ntmps49
  go_wp2
  go_loopw [1] (fun i wr => ∃ k : Nat, i = .int .i64 k ∧ k ≤ n ∧ Hid ((ms.drop j).dropWhile Mk.so = (ms.drop k).dropWhile Mk.so) ∧ Hid (Below w.heap.size w wr)) (fun i _ => n - (intOf i).toNat)
  case atStart => exact ⟨j, by go_num, by omega, Lib.hid rfl, Lib.hid (Below.refl _ _)⟩
  case round =>
    obtain ⟨k, rfl, hk, HD, HB⟩ := hrel
    have g0 : decide ((0 : Int) ≤ (k : Int)) = true := decide_eq_true (by omega)
    by_cases h1 : k < n
    · have g1 : decide ((k : Int) < (n : Int)) = true := decide_eq_true (by omega)
      have g2 : (k : Int) < (n : Int) := by omega
      obtain ⟨ad, m, rfl, hb, hm, cc⟩ := reads_mk (HR.out.below HB.out) h1
      have HS := Lib.hid (drop_step ms k m hm)
      have HG := Lib.hid (show geti ms (k : Int) = some m by rw [geti_nat, hm])
      obtain ⟨c0, c1, c2, c3, c4, c5, c6, c7, c8⟩ := cc
      rw [HS.out, dw_cons] at HD
      obtain ⟨b, hb'⟩ : ∃ b, m.so = b := ⟨_, rfl⟩
      rw [hb'] at HD
      have HBb := Lib.hid hb'
      clear hm hb hb' HS
      cases b with
      | true =>
        have HD2 := Lib.hid (show (ms.drop j).dropWhile Mk.so = (ms.drop (k + 1)).dropWhile Mk.so by have := HD.out; rwa [if_pos rfl] at this)
        obtain ⟨⟨r0, nd, p, nn', kk⟩, st, fo, en, so⟩ := m
        simp only at c0 c1 c2 c3 c4 c5 c6 c7 c8
        have e8 := HBb.out
        simp only at e8
        rw [e8] at c8
        go_wp2
        go_roundw
        case rel => exact ⟨k + 1, by go_num, by omega, HD2, HB⟩
        case measure => simp [intOf]; omega
      | false =>
        have HD2 := Lib.hid (show geti ms (k : Int) = ((ms.drop j).dropWhile Mk.so).head? by have := HD.out; rw [if_neg (by simp)] at this; rw [this]; exact HG.out)
        obtain ⟨⟨r0, nd, p, nn', kk⟩, st, fo, en, so⟩ := m
        simp only at c0 c1 c2 c3 c4 c5 c6 c7 c8
        have e8 := HBb.out
        simp only at e8
        rw [e8] at c8
        go_wp2
        go_ret
        exact ⟨_, rfl, HD2.out, HB.out⟩
    · have g1 : decide ((k : Int) < (n : Int)) = false := decide_eq_false (by omega)
      have HD2 := Lib.hid (show geti ms (k : Int) = ((ms.drop j).dropWhile Mk.so).head? by
        rw [HD.out, List.drop_of_length_le (by rw [HL.out]; omega), geti_big ms k (by rw [HL.out]; omega)]
        rfl)
      go_wp2
      go_ret
      exact ⟨_, rfl, HD2.out, HB.out⟩
end Go.Proofs.Ytmjacmjogckihaa.White

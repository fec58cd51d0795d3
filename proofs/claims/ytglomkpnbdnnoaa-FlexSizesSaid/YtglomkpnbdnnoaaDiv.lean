/- bits.Div64, walked: quotient and rest of 128 bits by 64, where the high word is less than the divisor. -/
import Derived.Test.YtglomkpnbdnnoaaDivL
namespace Go.Proofs.Ytglomkpnbdnnoaa.Div
open Go.RowKit
set_option linter.unusedVariables false

theorem u64_mod (n : Int) : IntKind.u64.wrap n = n % 18446744073709551616 := by simp [IntKind.wrap, IntKind.bits, IntKind.signed]
/-- What lies between the loops, and behind them: one digit's rest, reckoned round 2^64. -/
theorem sub_wraps (U C T R M1 M2 M3 : Nat) (h : T + R = U * 4294967296 + C) (hR : R < 18446744073709551616) (h1 : U * 4294967296 % 18446744073709551616 = M1) (h2 : (M1 + C) % 18446744073709551616 = M2) (h3 : T % 18446744073709551616 = M3) :
    IntKind.u64.wrap ((U : Int) * 4294967296) = (M1 : Int) ∧ IntKind.u64.wrap ((M1 : Int) + (C : Int)) = (M2 : Int) ∧ IntKind.u64.wrap ((T : Nat) : Int) = (M3 : Int) ∧ IntKind.u64.wrap ((M2 : Int) - (M3 : Int)) = (R : Int) := by
  simp only [u64_mod]
  omega

set_option maxHeartbeats 4000000 in
set_option maxRecDepth 1000000 in
theorem div_core (hi lo y s A B C D U Y Z H L Q R QA : Nat) (h0 : 0 < hi) (h1 : hi < y) (hy : y ≤ 18446744073709551615) (hl : lo ≤ 18446744073709551615) (hs : s ≤ 63) (hb : (64 : Int) - (Lib.bitLen y : Int) = (s : Int))
    (e1 : IntKind.u64.wrap ((y : Int) * 2 ^ s) = (Y : Int)) (e2 : (Y : Int) / 4294967296 = (A : Int)) (e3 : bits .and .u64 (Y : Int) 4294967295 = (B : Int))
    (e4 : IntKind.u64.wrap ((hi : Int) * 2 ^ s) = (H : Int)) (e5 : (lo : Int) / 2 ^ (64 - s) = (L : Int)) (e6 : bits .or .u64 (H : Int) (L : Int) = (U : Int))
    (e7 : IntKind.u64.wrap ((lo : Int) * 2 ^ s) = (Z : Int)) (e8 : (Z : Int) / 4294967296 = (C : Int)) (e9 : bits .and .u64 (Z : Int) 4294967295 = (D : Int))
    (hA : 2147483648 ≤ A) (hU : U ≤ 18446744073709551615) (hD : Dig A B C U) (hd : D < 4294967296) (hQ : U / A = Q) (hR : U % A = R) (hQA : Q * A = QA) (hYB : A * 4294967296 + B = Y) (hYM : Y < 18446744073709551616) (w : World) :
    Calls Try.prog 46 #[.int .u64 hi, .int .u64 lo, .int .u64 y] w fun e w' => e = .returned (.tuple #[.int .u64 ((quo A B C U * 4294967296 + quo A B D (rst A B C U) : Nat) : Int), .int .u64 ((rst A B D (rst A B C U) / 2 ^ s : Nat) : Int)]) ∧ Drawn w w' := by
  have HB := Lib.hid hb
  have HY := Lib.hid hy
  have q1 : (((y : Nat) : Int) == 0) = false := by rw [beq_eq_false_iff_ne]; omega
  have q2 : (((hi : Nat) : Int) == 0) = false := by rw [beq_eq_false_iff_ne]; omega
  have HD := Lib.hid hD
  have H0 := Lib.hid (head_start hD)
  have hQ2 : Q ≤ 4294967297 := by rw [← hQ]; exact (head_start hD).le
  have hA1 := hD.a1
  have hB1 := hD.b1
  have hC1 := hD.c1
  have hUd : QA + R = U := by rw [← hQA, ← hQ, ← hR, Nat.mul_comm]; exact Nat.div_add_mod U A
  have hR1 : R < A := by rw [← hR]; exact Nat.mod_lt _ (by omega)
  have e10 : (U : Int) / (A : Int) = (Q : Int) := by rw [← hQ]; rfl
  have e11 : IntKind.u64.wrap ((Q : Int) * (A : Int)) = (QA : Int) := by rw [← Int.natCast_mul, hQA]; exact u64_in _ (by omega) (by omega)
  have e12 : IntKind.u64.wrap ((U : Int) - (QA : Int)) = (R : Int) := by rw [u64_in _ (by omega) (by omega)]; omega
  have e13 : IntKind.u64.wrap (Q : Int) = (Q : Int) := u64_in _ (by omega) (by omega)
  rw [hQ, hR] at H0
  clear hb hy hD hQ hR hQA hl
  have y0 : (1 : Int) ≤ (A : Int) := by omega
  have HYM := Lib.hid hYM
  have HYB := Lib.hid hYB
  have HA := Lib.hid hA
  have HU := Lib.hid hU
  have Hd := Lib.hid hd
  clear hYM hYB hA hU hd
  go_enter Try.func46, Try.ntmps46
  go_upto_block 0 with (go_at_call 52; refine (lz_any y s HY.out HB.out _).mono ?_; rintro e w' ⟨rfl, rfl⟩)
  clear e1 e2 e3 e4 e5 e6 e7 e8 e9 e10 e11 e12 e13
  rename_i K0 hK
  have hx : ∀ a wr, WX1 Y s A B U C D w a wr → K0 a wr := by
    rintro a wr ⟨c, u, r, rfl, ⟨m, rfl⟩⟩
    refine hK _ _ ?_
    clear hK
    have qr := quo_rst A B C U
    have rl := rst_lt HD.out
    have D2 := Lib.hid (dig_next HD.out Hd.out)
    have H2 := Lib.hid (head_start D2.out)
    have ql := quo_lt HD.out
    rw [HYB.out] at qr rl
    generalize hQ1 : quo A B C U = Q1 at *
    generalize hR1 : rst A B C U = R1 at *
    have HQ1 := Lib.hid hQ1
    have HR1 := Lib.hid hR1
    clear hQ1 hR1
    obtain ⟨T, hT⟩ : ∃ T, Q1 * Y = T := ⟨_, rfl⟩
    rw [hT] at qr
    obtain ⟨g1, g2, g3, g4⟩ := sub_wraps U C T R1 _ _ _ qr (by have := HYM.out; omega) rfl rfl rfl
    have g3' : IntKind.u64.wrap ((Q1 : Int) * (Y : Int)) = ((T % 18446744073709551616 : Nat) : Int) := by rw [← Int.natCast_mul, hT]; exact g3
    obtain ⟨q0, hq0⟩ : ∃ q0, R1 / A = q0 := ⟨_, rfl⟩
    obtain ⟨r0, hr0⟩ : ∃ r0, R1 % A = r0 := ⟨_, rfl⟩
    have hd0 := Nat.div_add_mod R1 A
    have hr1 : r0 < A := by rw [← hr0]; exact Nat.mod_lt _ (by have := HA.out; omega)
    rw [hq0, hr0] at H2
    have hq2 := H2.out.le
    rw [hq0, hr0, Nat.mul_comm] at hd0
    obtain ⟨QA0, hQA0⟩ : ∃ QA0, q0 * A = QA0 := ⟨_, rfl⟩
    rw [hQA0] at hd0
    have k1 : (R1 : Int) / (A : Int) = (q0 : Int) := by rw [← hq0]; rfl
    have k2 : IntKind.u64.wrap (q0 : Int) = (q0 : Int) := u64_in _ (by omega) (by omega)
    have k3 : IntKind.u64.wrap ((q0 : Int) * (A : Int)) = (QA0 : Int) := by rw [← Int.natCast_mul, hQA0]; exact u64_in _ (by omega) (by have := HYM.out; omega)
    have k4 : IntKind.u64.wrap ((R1 : Int) - (QA0 : Int)) = (r0 : Int) := by rw [u64_in _ (by omega) (by have := HYM.out; omega)]; omega
    have y1 : (1 : Int) ≤ (A : Int) := by have := HA.out; omega
    generalize hM1 : U * 4294967296 % 18446744073709551616 = M1 at *
    generalize hM2 : (M1 + C) % 18446744073709551616 = M2 at *
    generalize hM3 : T % 18446744073709551616 = M3 at *
    have hr2 : (r0 : Int) < 4294967296 := by have := HD.out.a1; omega
    have hq3 : (q0 : Int) ≤ 4294967297 := by omega
    clear hM1 hM2 hM3 g3 hT qr rl hq0 hr0 hd0 hQA0 hq2 hr1
    unfold Fr1
    go_upto_block 2 with (fail)
    rename_i K2 hK2
    clear g1 g2 g3' g4 k1 k2 k3 k4
    have hx2 : ∀ a wr, WX2 Y s A B U C D Q1 R1 w a wr → K2 a wr := by
      rintro a wr ⟨c, u, r, rfl, ⟨m, rfl⟩⟩
      refine hK2 _ _ ?_
      clear hK2
      have qr2 := quo_rst A B D R1
      have rl2 := rst_lt D2.out
      have ql2 := quo_lt D2.out
      rw [HYB.out] at qr2 rl2
      generalize hQ0 : quo A B D R1 = Q0 at *
      generalize hR0 : rst A B D R1 = R0 at *
      have HQ0 := Lib.hid hQ0
      have HR0 := Lib.hid hR0
      clear hQ0 hR0
      obtain ⟨T, hT⟩ : ∃ T, Q0 * Y = T := ⟨_, rfl⟩
      rw [hT] at qr2
      obtain ⟨g1, g2, g3, g4⟩ := sub_wraps R1 D T R0 _ _ _ qr2 (by have := HYM.out; omega) rfl rfl rfl
      have g3' : IntKind.u64.wrap ((Q0 : Int) * (Y : Int)) = ((T % 18446744073709551616 : Nat) : Int) := by rw [← Int.natCast_mul, hT]; exact g3
      obtain ⟨P1, hP1⟩ : ∃ P1, Q1 * 4294967296 = P1 := ⟨_, rfl⟩
      have k1 : IntKind.u64.wrap ((Q1 : Int) * 4294967296) = (P1 : Int) := by rw [u64_in _ (by omega) (by omega)]; omega
      have k2 : IntKind.u64.wrap ((P1 : Int) + (Q0 : Int)) = ((P1 + Q0 : Nat) : Int) := by rw [u64_in _ (by omega) (by omega)]; omega
      generalize R1 * 4294967296 % 18446744073709551616 = M1 at *
      generalize (M1 + D) % 18446744073709551616 = M2 at *
      generalize T % 18446744073709551616 = M3 at *
      have k3 : (R0 : Int) / 2 ^ s = ((R0 / 2 ^ s : Nat) : Int) := by rw [Int.natCast_ediv, Int.natCast_pow]; rfl
      have HP1 := Lib.hid hP1
      generalize hRS : R0 / 2 ^ s = RS at *
      generalize hPQ : P1 + Q0 = PQ at *
      have HRS := Lib.hid hRS
      have HPQ := Lib.hid hPQ
      clear hP1 g3 hT qr2 rl2 ql2 ql hRS hPQ
      unfold Fr2
      go_wp2
      go_ret2
      exact ⟨by rw [HR1.out, HQ1.out, HQ0.out, HR0.out, HP1.out, HPQ.out, HRS.out]; rfl, ⟨⟨_, rfl⟩⟩⟩
    clear hK2
    apply wp_block
    refine loop2 Y s A B U C D Q1 R1 w _ D2 (fun a wr h => hx2 a wr h) _ _ ?_
    exact WI2.mk' q0 r0 (by kernel_rfl) hr2 hq3 H2.out ⟨⟨_, rfl⟩⟩
  clear hK
  apply wp_block
  refine loop1 Y s A B U C D w _ HD (fun a wr h => hx a wr h) _ _ ?_
  exact WI1.mk' Q R (by kernel_rfl) (by omega) (by omega) H0.out (Drawn.refl _)

theorem and_mask (x : Nat) (hx : x < 18446744073709551616) : bits .and .u64 (x : Int) 4294967295 = ((x % 4294967296 : Nat) : Int) := by
  rw [show (4294967295 : Int) = ((4294967295 : Nat) : Int) from rfl, u64_and_nat x 4294967295 hx (by decide)]
  exact congrArg _ (Nat.and_two_pow_sub_one_eq_mod x 32)
theorem or_join (x y i : Nat) (hx : x < 18446744073709551616) (hy : y < 18446744073709551616) (h1 : x % 2 ^ i = 0) (h2 : y < 2 ^ i) : bits .or .u64 (x : Int) (y : Int) = ((x + y : Nat) : Int) := by
  rw [u64_or_nat x y hx hy, nat_join i x y h1 h2]

set_option maxRecDepth 1000000 in
/-- Div64: for every dividend whose high word is less than the divisor. -/
theorem div_any (hi lo y : Nat) (h1 : hi < y) (hy : y ≤ 18446744073709551615) (hl : lo ≤ 18446744073709551615) (w : World) :
    Calls Try.prog 46 #[.int .u64 hi, .int .u64 lo, .int .u64 y] w fun e w' => e = .returned (.tuple #[.int .u64 (((hi * 18446744073709551616 + lo) / y : Nat) : Int), .int .u64 (((hi * 18446744073709551616 + lo) % y : Nat) : Int)]) ∧ Drawn w w' := by
  rcases Nat.eq_zero_or_pos hi with h0 | h0
  · subst h0
    rw [Nat.zero_mul, Nat.zero_add]
    exact div_small lo y (by omega) hy hl w
  · have hbl := bitLenAux_le 64 y
    change Lib.bitLen y ≤ 64 at hbl
    obtain ⟨s, hs⟩ : ∃ s, Lib.bitLen y + s = 64 := ⟨64 - Lib.bitLen y, by omega⟩
    obtain ⟨s1, y1, y2⟩ := shift_y y s (by omega) (by omega) hs
    obtain ⟨t1, t2, t3, t4⟩ := shift_two hi lo y s (by omega) h1 s1 y2
    have p0 : (2 : Int) ^ s = ((2 ^ s : Nat) : Int) := by rw [Int.natCast_pow]; rfl
    have p1 : (2 : Int) ^ (64 - s) = ((2 ^ (64 - s) : Nat) : Int) := by rw [Int.natCast_pow]; rfl
    have hL : lo / 2 ^ (64 - s) < 18446744073709551616 := Nat.lt_of_le_of_lt (Nat.div_le_self _ _) (by omega)
    have hD : Dig (y * 2 ^ s / 4294967296) (y * 2 ^ s % 4294967296) (lo * 2 ^ s % 18446744073709551616 / 4294967296) (hi * 2 ^ s + lo / 2 ^ (64 - s)) := by
      generalize y * 2 ^ s = Y at *
      generalize hi * 2 ^ s + lo / 2 ^ (64 - s) = U at *
      generalize lo * 2 ^ s = Z at *
      exact ⟨by omega, by omega, by omega, by omega, by omega⟩
    have hj : hi * 2 ^ s % 2 ^ s = 0 := Nat.mul_mod_left _ _
    have two := two_digits (y * 2 ^ s / 4294967296) (y * 2 ^ s % 4294967296) (lo * 2 ^ s % 18446744073709551616 / 4294967296) (lo * 2 ^ s % 18446744073709551616 % 4294967296) (hi * 2 ^ s + lo / 2 ^ (64 - s)) y hi lo (2 ^ s) (Nat.two_pow_pos s) hD (Nat.mod_lt _ (by decide)) (Nat.div_add_mod' _ _) (by
      rw [← t3]
      generalize lo * 2 ^ s = Z
      omega)
    have core := div_core hi lo y s (y * 2 ^ s / 4294967296) (y * 2 ^ s % 4294967296) (lo * 2 ^ s % 18446744073709551616 / 4294967296) (lo * 2 ^ s % 18446744073709551616 % 4294967296) (hi * 2 ^ s + lo / 2 ^ (64 - s)) (y * 2 ^ s) (lo * 2 ^ s % 18446744073709551616) (hi * 2 ^ s) (lo / 2 ^ (64 - s)) _ _ _ h0 h1 hy hl s1 (by omega)
      (by rw [p0, ← Int.natCast_mul]; exact u64_in _ (by omega) (by omega)) (by omega) (and_mask _ y2)
      (by rw [p0, ← Int.natCast_mul]; exact u64_in _ (by omega) (by omega)) (by rw [p1]; rfl) (or_join _ _ s t1 hL hj t2)
      (by rw [p0, ← Int.natCast_mul, u64_mod]; generalize lo * 2 ^ s = Z; omega) (by omega) (and_mask _ (Nat.mod_lt _ (by decide)))
      hD.a0 (by omega) hD (Nat.mod_lt _ (by decide)) rfl rfl rfl (Nat.div_add_mod' _ _) y2 w
    rw [two.1, two.2] at core
    exact core
end Go.Proofs.Ytglomkpnbdnnoaa.Div

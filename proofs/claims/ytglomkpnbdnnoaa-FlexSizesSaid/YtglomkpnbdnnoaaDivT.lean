/- Division of 128 bits by 64, digit by digit: the arithmetic behind bits.Div64. Plain Lean, no program. -/
import Derived.Lib.BitFns
namespace Go.Proofs.Ytglomkpnbdnnoaa.Div

/-- One digit: Y = A * 2^32 + B, U < Y, the next digit C. -/
structure Dig (A B C U : Nat) : Prop where
  a0 : 2147483648 ≤ A
  a1 : A < 4294967296
  b1 : B < 4294967296
  c1 : C < 4294967296
  u1 : U < A * 4294967296 + B
def quo (A B C U : Nat) : Nat := (U * 4294967296 + C) / (A * 4294967296 + B)
def rst (A B C U : Nat) : Nat := (U * 4294967296 + C) % (A * 4294967296 + B)
/-- What holds at the loop's head. -/
structure Head (A B C U q r : Nat) : Prop where
  eq : q * A + r = U
  r1 : r < 4294967296
  ge : quo A B C U ≤ q
  le : q ≤ 4294967297

theorem quo_lt {A B C U : Nat} (h : Dig A B C U) : quo A B C U < 4294967296 := by
  unfold quo
  have := h.a0
  refine (Nat.div_lt_iff_lt_mul (by omega)).2 ?_
  have := h.u1
  have := h.c1
  have e : 4294967296 * (A * 4294967296 + B) ≥ 4294967296 * (U + 1) := Nat.mul_le_mul_left _ (by omega)
  omega
theorem quo_ge {A B C U q : Nat} (h : Dig A B C U) (hq : q * (A * 4294967296 + B) ≤ U * 4294967296 + C) : q ≤ quo A B C U := by
  unfold quo
  have := h.a0
  exact (Nat.le_div_iff_mul_le (by omega)).2 hq
theorem quo_lt_of {A B C U q : Nat} (h : Dig A B C U) (hq : U * 4294967296 + C < q * (A * 4294967296 + B)) : quo A B C U < q := by
  unfold quo
  have := h.a0
  exact (Nat.div_lt_iff_lt_mul (by omega)).2 hq
theorem mul_split (q A B : Nat) : q * (A * 4294967296 + B) = q * A * 4294967296 + q * B := by rw [Nat.mul_add, Nat.mul_assoc]

theorem head_start {A B C U : Nat} (h : Dig A B C U) : Head A B C U (U / A) (U % A) := by
  have h0 := h.a0
  have h1 := h.a1
  have hm : U % A < A := Nat.mod_lt _ (by omega)
  have hd := Nat.div_add_mod U A
  rw [Nat.mul_comm] at hd
  refine ⟨hd, by omega, ?_, ?_⟩
  · refine Nat.le_of_lt_succ (quo_lt_of (q := U / A + 1) h ?_)
    have : (U / A + 1) * A = U / A * A + A := by rw [Nat.add_mul, Nat.one_mul]
    rw [mul_split]
    have := h.c1
    omega
  · have hu := h.u1
    have hb := h.b1
    apply Nat.le_of_lt_succ
    refine (Nat.div_lt_iff_lt_mul (by omega)).2 ?_
    omega
theorem head_exit {A B C U q r : Nat} (h : Dig A B C U) (H : Head A B C U q r) (hle : q * B ≤ 4294967296 * r + C) : q = quo A B C U := by
  refine Nat.le_antisymm (quo_ge h ?_) H.ge
  rw [mul_split]
  have := H.eq
  omega
theorem head_low {A B C U q r : Nat} (h : Dig A B C U) (H : Head A B C U q r) (hc : 4294967296 ≤ q ∨ 4294967296 * r + C < q * B) : quo A B C U + 1 ≤ q ∧ 1 ≤ q := by
  have : quo A B C U < q := by
    rcases hc with hc | hc
    · have := quo_lt h
      omega
    · refine quo_lt_of h ?_
      rw [mul_split]
      have := H.eq
      omega
  omega
theorem pred_mul {q A : Nat} (h : 1 ≤ q) : (q - 1) * A + A = q * A := by
  obtain ⟨k, rfl⟩ : ∃ k, q = k + 1 := ⟨q - 1, by omega⟩
  rw [Nat.add_mul, Nat.one_mul]
  rfl
theorem head_next {A B C U q r : Nat} (h : Dig A B C U) (H : Head A B C U q r) (hc : 4294967296 ≤ q ∨ 4294967296 * r + C < q * B) (hr : r + A < 4294967296) : Head A B C U (q - 1) (r + A) := by
  obtain ⟨h1, h2⟩ := head_low h H hc
  have := pred_mul (A := A) h2
  have := H.eq
  have := H.le
  exact ⟨by omega, hr, by omega, by omega⟩
theorem head_break {A B C U q r : Nat} (h : Dig A B C U) (H : Head A B C U q r) (hc : 4294967296 ≤ q ∨ 4294967296 * r + C < q * B) (hr : 4294967296 ≤ r + A) : q - 1 = quo A B C U := by
  obtain ⟨h1, h2⟩ := head_low h H hc
  have e := pred_mul (A := A) h2
  have e2 := H.eq
  have e3 := H.le
  refine Nat.le_antisymm (quo_ge h ?_) (by omega)
  rw [mul_split]
  have hb : (q - 1) * B ≤ 4294967296 * B := Nat.mul_le_mul_right _ (by omega)
  have hb2 : 4294967296 * B ≤ 4294967296 * 4294967295 := Nat.mul_le_mul_left _ (by have := h.b1; omega)
  omega
theorem quo_rst (A B C U : Nat) : quo A B C U * (A * 4294967296 + B) + rst A B C U = U * 4294967296 + C := by
  have := Nat.div_add_mod (U * 4294967296 + C) (A * 4294967296 + B)
  rw [Nat.mul_comm] at this
  exact this
theorem rst_lt {A B C U : Nat} (h : Dig A B C U) : rst A B C U < A * 4294967296 + B := Nat.mod_lt _ (by have := h.a0; omega)
theorem dig_next {A B C U D : Nat} (h : Dig A B C U) (hd : D < 4294967296) : Dig A B D (rst A B C U) := ⟨h.a0, h.a1, h.b1, hd, rst_lt h⟩

/-! ### the shifts -/
theorem bitLenAux_le (f : Nat) : ∀ x, Lib.bitLenAux f x ≤ f := by
  induction f with
  | zero => intro x; exact Nat.le_refl _
  | succ f ih =>
    intro x
    unfold Lib.bitLenAux
    split
    · omega
    · have := ih (x / 2); omega
theorem bitLenAux_pow (f : Nat) : ∀ x, x < 2 ^ f → x ≠ 0 → 2 ^ (Lib.bitLenAux f x - 1) ≤ x ∧ x < 2 ^ Lib.bitLenAux f x ∧ 1 ≤ Lib.bitLenAux f x := by
  induction f with
  | zero => intro x hx h0; simp at hx; omega
  | succ f ih =>
    intro x hx h0
    unfold Lib.bitLenAux
    rw [if_neg h0]
    by_cases h1 : x / 2 = 0
    · have : Lib.bitLenAux f (x / 2) = 0 := by rw [h1]; cases f <;> simp [Lib.bitLenAux]
      rw [this]
      simp
      omega
    · obtain ⟨a, b, c⟩ := ih (x / 2) (by rw [Nat.pow_succ] at hx; omega) h1
      generalize Lib.bitLenAux f (x / 2) = n at *
      obtain ⟨m, rfl⟩ : ∃ m, n = m + 1 := ⟨n - 1, by omega⟩
      rw [show 1 + (m + 1) - 1 = m + 1 by omega, show 1 + (m + 1) = m + 2 by omega]
      simp only [Nat.add_sub_cancel] at a
      rw [Nat.pow_succ] at b ⊢
      rw [Nat.pow_succ, Nat.pow_succ]
      omega
theorem shift_y (y s : Nat) (h0 : 0 < y) (h1 : y < 18446744073709551616) (hs : Lib.bitLen y + s = 64) : s ≤ 63 ∧ 9223372036854775808 ≤ y * 2 ^ s ∧ y * 2 ^ s < 18446744073709551616 := by
  obtain ⟨a, b, c⟩ := bitLenAux_pow 64 y (by omega) (by omega)
  change 2 ^ (Lib.bitLen y - 1) ≤ y at a
  change y < 2 ^ Lib.bitLen y at b
  change 1 ≤ Lib.bitLen y at c
  refine ⟨by omega, ?_, ?_⟩
  · calc 9223372036854775808 = 2 ^ (Lib.bitLen y - 1) * 2 ^ s := by rw [← Nat.pow_add, show Lib.bitLen y - 1 + s = 63 by omega]
      _ ≤ y * 2 ^ s := Nat.mul_le_mul_right _ a
  · calc y * 2 ^ s < 2 ^ Lib.bitLen y * 2 ^ s := Nat.mul_lt_mul_of_pos_right b (Nat.two_pow_pos s)
      _ = 18446744073709551616 := by rw [← Nat.pow_add, hs]
/-- The two words, shifted. -/
theorem shift_two (hi lo y s : Nat) (hl : lo < 18446744073709551616) (hh : hi < y) (hs : s ≤ 63) (hy : y * 2 ^ s < 18446744073709551616) :
    hi * 2 ^ s < 18446744073709551616 ∧ lo / 2 ^ (64 - s) < 2 ^ s ∧ (hi * 2 ^ s + lo / 2 ^ (64 - s)) * 18446744073709551616 + lo * 2 ^ s % 18446744073709551616 = (hi * 18446744073709551616 + lo) * 2 ^ s ∧ hi * 2 ^ s + lo / 2 ^ (64 - s) < y * 2 ^ s := by
  have e : 2 ^ (64 - s) * 2 ^ s = 18446744073709551616 := by rw [← Nat.pow_add, show 64 - s + s = 64 by omega]
  have h1 : lo / 2 ^ (64 - s) < 2 ^ s := by
    refine (Nat.div_lt_iff_lt_mul (Nat.two_pow_pos _)).2 ?_
    rw [Nat.mul_comm, e]
    exact hl
  have h2 : lo * 2 ^ s / 18446744073709551616 = lo / 2 ^ (64 - s) := by
    rw [← e, Nat.mul_div_mul_right _ _ (Nat.two_pow_pos s)]
  have h3 := Nat.div_add_mod (lo * 2 ^ s) 18446744073709551616
  rw [h2] at h3
  have h4 : hi * 2 ^ s + 2 ^ s ≤ y * 2 ^ s := by
    rw [show hi * 2 ^ s + 2 ^ s = (hi + 1) * 2 ^ s by rw [Nat.add_mul, Nat.one_mul]]
    exact Nat.mul_le_mul_right _ hh
  refine ⟨by omega, h1, ?_, by omega⟩
  rw [Nat.add_mul (hi * 18446744073709551616), Nat.add_mul, show hi * 18446744073709551616 * 2 ^ s = hi * 2 ^ s * 18446744073709551616 by rw [Nat.mul_right_comm]]
  omega
set_option maxRecDepth 100000 in
/-- Both digits together. -/
theorem two_digits (A B C D U y hi lo P : Nat) (hP : 0 < P) (h : Dig A B C U) (hd : D < 4294967296) (hY : A * 4294967296 + B = y * P) (hN : U * 18446744073709551616 + (C * 4294967296 + D) = (hi * 18446744073709551616 + lo) * P) :
    quo A B C U * 4294967296 + quo A B D (rst A B C U) = (hi * 18446744073709551616 + lo) / y ∧ rst A B D (rst A B C U) / P = (hi * 18446744073709551616 + lo) % y := by
  have e1 := quo_rst A B C U
  have e2 := quo_rst A B D (rst A B C U)
  have l2 := rst_lt (dig_next h hd)
  have hy : 0 < y := by
    rcases Nat.eq_zero_or_pos y with g | g
    · subst g; have := h.a0; omega
    · exact g
  generalize quo A B C U = q1 at *
  generalize rst A B C U = r1 at *
  generalize quo A B D r1 = q0 at *
  generalize rst A B D r1 = r0 at *
  rw [hY] at e1 e2 l2
  have e3 : (hi * 18446744073709551616 + lo) * P = (q1 * 4294967296 + q0) * (y * P) + r0 := by
    rw [← hN, Nat.add_mul, Nat.mul_right_comm q1]
    clear hN l2 h hY
    generalize q1 * (y * P) = S at *
    generalize q0 * (y * P) = T at *
    omega
  have e4 : (hi * 18446744073709551616 + lo) / y = q1 * 4294967296 + q0 := by
    rw [← Nat.mul_div_mul_right _ _ hP, e3, Nat.mul_comm, Nat.mul_add_div (by omega), Nat.div_eq_of_lt l2, Nat.add_zero]
  have e5 : ((hi * 18446744073709551616 + lo) % y) * P = r0 := by
    rw [← Nat.mul_mod_mul_right, e3, Nat.mul_comm (q1 * 4294967296 + q0), Nat.mul_add_mod, Nat.mod_eq_of_lt l2]
  exact ⟨e4.symm, by rw [← e5, Nat.mul_div_cancel _ hP]⟩
end Go.Proofs.Ytglomkpnbdnnoaa.Div

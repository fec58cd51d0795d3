/- Scale as a rounded quotient; what rounding does to near ones, to more, and to numbers turned. Plain numbers; no condition but bounds. -/
import Derived.Test.YtglomkpnbdnnoaaScaleAll
namespace Go.Proofs.Ytglomkpnbdnnoaa.Unit
open Go.RowKit Go.Proofs.Ytglomkpnbdnnoaa.Div
set_option linter.unusedVariables false

/-- A quotient, rounded to the nearest; a half upwards. -/
def rnd (P o : Int) : Int := (2 * P + o) / (2 * o)

theorem rnd_split (q r o : Int) (ho : 1 ≤ o) : rnd (q * o + r) o = q + (2 * r + o) / (2 * o) := by
  rw [rnd, show 2 * (q * o + r) + o = (2 * r + o) + q * (2 * o) by rw [Int.mul_add, ← Int.mul_assoc, ← Int.mul_assoc, Int.mul_comm 2 q]; omega, Int.add_mul_ediv_right _ _ (by omega)]
  omega
theorem half_step (r o : Int) (ho : 1 ≤ o) (h0 : -o < r) (h1 : r < o) : (2 * r + o) / (2 * o) = if 2 * r + o < 0 then -1 else if 2 * o ≤ 2 * r + o then 1 else 0 := by
  split
  · rw [show 2 * r + o = (2 * r + o + 2 * o) + (-1) * (2 * o) by omega, Int.add_mul_ediv_right _ _ (by omega), Int.ediv_eq_zero_of_lt (by omega) (by omega)]
    omega
  · split
    · rw [show 2 * r + o = (2 * r + o - 2 * o) + 1 * (2 * o) by omega, Int.add_mul_ediv_right _ _ (by omega), Int.ediv_eq_zero_of_lt (by omega) (by omega)]
      omega
    · exact Int.ediv_eq_zero_of_lt (by omega) (by omega)

theorem rnd_near (P o : Int) (ho : 1 ≤ o) : 2 * (rnd P o * o - P) ≤ o ∧ -o < 2 * (rnd P o * o - P) := by
  have h1 := Int.mul_ediv_add_emod (2 * P + o) (2 * o)
  have h2 := Int.emod_nonneg (2 * P + o) (show 2 * o ≠ 0 by omega)
  have h3 := Int.emod_lt_of_pos (2 * P + o) (show 0 < 2 * o by omega)
  have h4 : 2 * (rnd P o * o) = 2 * o * ((2 * P + o) / (2 * o)) := by
    rw [rnd, Int.mul_comm _ o, Int.mul_assoc]
  omega
theorem rnd_mono (P Q o : Int) (ho : 1 ≤ o) (h : P ≤ Q) : rnd P o ≤ rnd Q o := Int.ediv_le_ediv (by omega) (by omega)
theorem rnd_self (n o : Int) (ho : 1 ≤ o) : rnd (n * o) o = n := by
  have := rnd_split n 0 o ho
  rw [Int.add_zero, half_step 0 o ho (by omega) (by omega), if_neg (by omega), if_neg (by omega)] at this
  omega
theorem rnd_turn (P o : Int) (ho : 1 ≤ o) : rnd P o + rnd (-P) o = if 2 * (P % o) = o then 1 else 0 := by
  have e := Int.emod_add_mul_ediv P o
  have r0 := Int.emod_nonneg P (show o ≠ 0 by omega)
  have r1 := Int.emod_lt_of_pos P (show 0 < o by omega)
  generalize P % o = r at *
  generalize P / o = q at *
  have e1 : P = q * o + r := by rw [Int.mul_comm]; omega
  have e2 : -P = (-q) * o + (-r) := by rw [Int.neg_mul]; omega
  rw [e2, rnd_split _ _ _ ho, half_step _ _ ho (by omega) (by omega), e1, rnd_split _ _ _ ho, half_step _ _ ho (by omega) (by omega)]
  (repeat' split) <;> omega
theorem tmod_half (P o t : Int) (ho : 1 ≤ o) (ht : P.tmod o = t) : (2 * (P % o) = o) ↔ (2 * t = o ∨ 2 * t = -o) := by
  have e := Int.emod_add_mul_ediv P o
  have r0 := Int.emod_nonneg P (show o ≠ 0 by omega)
  have r1 := Int.emod_lt_of_pos P (show 0 < o by omega)
  have t1 := Int.lt_tmod_of_pos P (show 0 < o by omega)
  have t2 := Int.tmod_lt_of_pos P (show 0 < o by omega)
  rw [ht] at t1 t2
  rcases Int.lt_or_le P 0 with g | g
  · have a2 := Int.tmod_nonneg (a := -P) o (by omega)
    rw [Int.neg_tmod, ht] at a2
    have a3 : P % o = if t < 0 then t + o else t := by
      have e := Int.tmod_add_mul_tdiv P o
      rw [ht] at e
      split
      · rw [← e, Int.add_mul_emod_self_left, ← Int.add_mul_emod_self_left t o 1, Int.mul_one]
        exact Int.emod_eq_of_lt (by omega) (by omega)
      · rw [← e, Int.add_mul_emod_self_left]
        exact Int.emod_eq_of_lt (by omega) (by omega)
    rw [a3]
    split <;> omega
  · have : P.tmod o = P % o := Int.tmod_eq_emod_of_nonneg g
    omega

theorem scV_rnd (n b o : Int) (ho : 1 ≤ o) (h0 : -2305843009213693952 ≤ n * b) (h1 : n * b ≤ 2305843009213693952) : scV n b o = rnd (n * b) o ∧ scE n b o = 0 := by
  obtain ⟨k, rfl⟩ : ∃ k : Nat, o = (k : Int) := ⟨o.toNat, by omega⟩
  have hP : ((n.natAbs * b.natAbs : Nat) : Int) = if negB n b then -(n * b) else n * b := by
    have e1 : (n.natAbs : Int) = if n < 0 then -n else n := by split <;> omega
    have e2 : (b.natAbs : Int) = if b < 0 then -b else b := by split <;> omega
    rw [Int.natCast_mul, e1, e2]
    by_cases s1 : n < 0 <;> by_cases s2 : b < 0 <;> simp [negB, s1, s2, Int.neg_mul, Int.mul_neg]
  obtain ⟨P, hPd⟩ : ∃ P, n.natAbs * b.natAbs = P := ⟨_, rfl⟩
  rw [hPd] at hP
  have hd := Nat.div_add_mod P k
  have hm := Nat.mod_lt P (show 0 < k by omega)
  have hq := Nat.div_le_self P k
  have hab : absQ n b k = P / k + if upB (negB n b) (P % k) k then 1 else 0 := by rw [absQ, hPd]
  have eV : scV n b (k : Int) = if 4611686018427387904 < absQ n b k then 0 else if negB n b then -(absQ n b k : Int) else (absQ n b k : Int) := by
    rw [scV, if_neg (by omega), Int.toNat_natCast]
  have eE : scE n b (k : Int) = if 4611686018427387904 < absQ n b k then 10 else 0 := by
    rw [scE, if_neg (by omega), Int.toNat_natCast]
  rw [eV, eE]
  clear eV eE
  obtain ⟨q, hqd⟩ : ∃ q, P / k = q := ⟨_, rfl⟩
  obtain ⟨r, hrd⟩ : ∃ r, P % k = r := ⟨_, rfl⟩
  rw [hqd, hrd] at hab
  rw [hqd, hrd] at hd
  rw [hrd] at hm
  rw [hqd] at hq
  have hPb : (P : Int) ≤ 2305843009213693952 := by rw [hP]; split <;> omega
  have hqP : q ≤ P := by omega
  have hle : absQ n b k ≤ 4611686018427387904 := by
    rw [hab]
    split <;> omega
  rw [if_neg (show ¬ 4611686018427387904 < absQ n b k by omega), if_neg (show ¬ 4611686018427387904 < absQ n b k by omega), hab]
  refine ⟨?_, rfl⟩
  have hdI : (k : Int) * q + r = P := by rw [← hd]; simp
  cases hn : negB n b
  · rw [hn] at hP
    simp only [Bool.false_eq_true, if_false] at hP ⊢
    rw [← hP, ← hdI, Int.mul_comm, rnd_split _ _ _ (by omega), half_step _ _ (by omega) (by omega) (by omega)]
    by_cases u : k - r ≤ r
    · rw [show upB false r k = true by simp [upB, u]]; simp only [if_true]; (repeat' split) <;> omega
    · rw [show upB false r k = false by simp [upB, u]]; simp only [Bool.false_eq_true, if_false]; (repeat' split) <;> omega
  · rw [hn] at hP
    simp only [if_true] at hP ⊢
    rw [show n * b = -(P : Int) by omega, ← hdI, show -((k : Int) * q + r) = (-q) * k + (-r) by rw [Int.neg_mul, Int.mul_comm]; omega, rnd_split _ _ _ (by omega), half_step _ _ (by omega) (by omega) (by omega)]
    by_cases u : k - r < r
    · rw [show upB true r k = true by simp [upB, u]]; simp only [if_true]; (repeat' split) <;> omega
    · rw [show upB true r k = false by simp [upB, u]]; simp only [Bool.false_eq_true, if_false]; (repeat' split) <;> omega
theorem mul_bd (n b N B : Int) (n0 : -N ≤ n) (n1 : n ≤ N) (b0 : -B ≤ b) (b1 : b ≤ B) : -(N * B) ≤ n * b ∧ n * b ≤ N * B := by
  have h : (n * b).natAbs ≤ N.natAbs * B.natAbs := by
    rw [Int.natAbs_mul]
    exact Nat.mul_le_mul (by omega) (by omega)
  have e : ((N.natAbs * B.natAbs : Nat) : Int) = N * B := by
    rw [Int.natCast_mul, Int.natAbs_of_nonneg (by omega), Int.natAbs_of_nonneg (by omega)]
  omega
end Go.Proofs.Ytglomkpnbdnnoaa.Unit

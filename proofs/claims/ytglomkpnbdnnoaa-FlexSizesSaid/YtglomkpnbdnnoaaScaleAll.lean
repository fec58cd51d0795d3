/- unit.Scale, for every three numbers: the exact product by a quotient, rounded. No condition. -/
import Derived.Test.YtglomkpnbdnnoaaScale
namespace Go.Proofs.Ytglomkpnbdnnoaa.Unit
open Go.RowKit Go.Proofs.Ytglomkpnbdnnoaa.Div
set_option linter.unusedVariables false

set_option maxRecDepth 100000 in
/-- Scale: for every three numbers. -/
theorem scale_any (n b o : Int) (n0 : -9223372036854775808 ≤ n) (n1 : n ≤ 9223372036854775807) (b0 : -9223372036854775808 ≤ b) (b1 : b ≤ 9223372036854775807) (o1 : o ≤ 9223372036854775807) (w : World) :
    Calls Try.prog 41 #[.int .i64 n, .int .i64 b, .int .i64 o] w fun e w' => e = .returned (.tuple #[.int .i64 (scV n b o), .int .i64 (scE n b o)]) ∧ Drawn w w' := by
  rcases Int.lt_or_le o 0 with ho | ho
  · rw [scV, scE, if_pos (by omega), if_pos (by omega)]
    exact scale_arg n b o (by omega) w
  obtain ⟨o, rfl⟩ := Int.eq_ofNat_of_zero_le ho
  rcases Nat.eq_zero_or_pos o with h0 | h0
  · subst h0
    exact scale_arg n b _ (by decide) w
  have hS1 := Lib.hid (fun W => size_any n n0 n1 W)
  have hS2 := Lib.hid (fun W => size_any b b0 b1 W)
  have hp : n.natAbs * b.natAbs ≤ 9223372036854775808 * 9223372036854775808 := Nat.mul_le_mul (by omega) (by omega)
  obtain ⟨hi, hhi⟩ : ∃ hi, n.natAbs * b.natAbs / 18446744073709551616 = hi := ⟨_, rfl⟩
  obtain ⟨lo, hlo⟩ : ∃ lo, n.natAbs * b.natAbs % 18446744073709551616 = lo := ⟨_, rfl⟩
  have hM := Lib.hid (fun W => mul_any n.natAbs b.natAbs hi lo (by omega) (by omega) hhi hlo W)
  have hd := Nat.div_add_mod (n.natAbs * b.natAbs) 18446744073709551616
  rw [hhi, hlo, Nat.mul_comm] at hd
  have hlo2 : lo < 18446744073709551616 := by rw [← hlo]; exact Nat.mod_lt _ (by decide)
  have eV : scV n b (o : Int) = if 4611686018427387904 < absQ n b o then 0 else if negB n b then -(absQ n b o : Int) else (absQ n b o : Int) := by
    rw [scV, if_neg (by omega), Int.toNat_natCast]
  have eE : scE n b (o : Int) = if 4611686018427387904 < absQ n b o then 10 else 0 := by
    rw [scE, if_neg (by omega), Int.toNat_natCast]
  rw [eV, eE]
  have eQ : absQ n b o = n.natAbs * b.natAbs / o + if upB (negB n b) (n.natAbs * b.natAbs % o) o then 1 else 0 := rfl
  obtain ⟨q, hq⟩ : ∃ q, n.natAbs * b.natAbs / o = q := ⟨_, rfl⟩
  obtain ⟨r, hr⟩ : ∃ r, n.natAbs * b.natAbs % o = r := ⟨_, rfl⟩
  have hr1 : r < o := by rw [← hr]; exact Nat.mod_lt _ h0
  rw [hq, hr] at eQ
  rcases Nat.lt_or_ge hi o with g | g
  · have hD : Hid (∀ W, Calls Try.prog 46 #[.int .u64 hi, .int .u64 lo, .int .u64 o] W fun e w' => e = .returned (.tuple #[.int .u64 (q : Nat), .int .u64 (r : Nat)]) ∧ Drawn W w') := fun W => by
      have := div_any hi lo o g (by omega) (by omega) W
      rw [hd, hq, hr] at this
      exact this
    have hox : (o : Int) ≤ 9223372036854775807 := o1
    clear hd hp hhi hlo hq hr
    rcases Nat.lt_or_ge 4611686018427387904 q with k | k
    · rw [if_pos (by rw [eQ]; omega), if_pos (by rw [eQ]; omega)]
      exact scale_great n b o _ _ hi lo q r h0 hox hS1 hS2 hM hD g (by omega) w
    · rcases Int.lt_or_le n 0 with s1 | s1 <;> rcases Int.lt_or_le b 0 with s2 | s2
      · have hn : negB n b = false := by simp [negB, s1, s2]
        rw [hn] at eQ ⊢
        by_cases u : o - r ≤ r
        · rw [show upB false r o = true from by simp [upB, u]] at eQ
          simp only [if_true] at eQ
          rcases Nat.lt_or_ge q 4611686018427387904 with k2 | k2
          · rw [if_neg (show ¬ 4611686018427387904 < absQ n b o by rw [eQ]; omega), if_neg (show ¬ 4611686018427387904 < absQ n b o by rw [eQ]; omega), if_neg (show ¬ false = true by decide), eQ]
            exact scale_111 n b o _ _ hi lo q r h0 hox hS1 hS2 hM hD g hr1 s1 s2 u (by omega) w
          · rw [if_pos (show 4611686018427387904 < absQ n b o by rw [eQ]; omega), if_pos (show 4611686018427387904 < absQ n b o by rw [eQ]; omega)]
            exact scale_112 n b o _ _ hi lo q r h0 hox hS1 hS2 hM hD g hr1 s1 s2 u (by omega) (by omega) w
        · rw [show upB false r o = false from by simp [upB, u]] at eQ
          simp only [Bool.false_eq_true, if_false, Nat.add_zero] at eQ
          rw [if_neg (show ¬ 4611686018427387904 < absQ n b o by rw [eQ]; omega), if_neg (show ¬ 4611686018427387904 < absQ n b o by rw [eQ]; omega), if_neg (show ¬ false = true by decide), eQ]
          exact scale_110 n b o _ _ hi lo q r h0 hox hS1 hS2 hM hD g hr1 s1 s2 u (by omega) w
      · have hn : negB n b = true := by simp [negB, s1, Int.not_lt.2 s2]
        rw [hn] at eQ ⊢
        by_cases u : o - r < r
        · rw [show upB true r o = true from by simp [upB, u]] at eQ
          simp only [if_true] at eQ
          rcases Nat.lt_or_ge q 4611686018427387904 with k2 | k2
          · rw [if_neg (show ¬ 4611686018427387904 < absQ n b o by rw [eQ]; omega), if_neg (show ¬ 4611686018427387904 < absQ n b o by rw [eQ]; omega), if_pos (show true = true from rfl), eQ]
            exact scale_101 n b o _ _ hi lo q r h0 hox hS1 hS2 hM hD g hr1 s1 s2 u (by omega) w
          · rw [if_pos (show 4611686018427387904 < absQ n b o by rw [eQ]; omega), if_pos (show 4611686018427387904 < absQ n b o by rw [eQ]; omega)]
            exact scale_102 n b o _ _ hi lo q r h0 hox hS1 hS2 hM hD g hr1 s1 s2 u (by omega) (by omega) w
        · rw [show upB true r o = false from by simp [upB, u]] at eQ
          simp only [Bool.false_eq_true, if_false, Nat.add_zero] at eQ
          rw [if_neg (show ¬ 4611686018427387904 < absQ n b o by rw [eQ]; omega), if_neg (show ¬ 4611686018427387904 < absQ n b o by rw [eQ]; omega), if_pos (show true = true from rfl), eQ]
          exact scale_100 n b o _ _ hi lo q r h0 hox hS1 hS2 hM hD g hr1 s1 s2 u (by omega) w
      · have hn : negB n b = true := by simp [negB, Int.not_lt.2 s1, s2]
        rw [hn] at eQ ⊢
        by_cases u : o - r < r
        · rw [show upB true r o = true from by simp [upB, u]] at eQ
          simp only [if_true] at eQ
          rcases Nat.lt_or_ge q 4611686018427387904 with k2 | k2
          · rw [if_neg (show ¬ 4611686018427387904 < absQ n b o by rw [eQ]; omega), if_neg (show ¬ 4611686018427387904 < absQ n b o by rw [eQ]; omega), if_pos (show true = true from rfl), eQ]
            exact scale_011 n b o _ _ hi lo q r h0 hox hS1 hS2 hM hD g hr1 s1 s2 u (by omega) w
          · rw [if_pos (show 4611686018427387904 < absQ n b o by rw [eQ]; omega), if_pos (show 4611686018427387904 < absQ n b o by rw [eQ]; omega)]
            exact scale_012 n b o _ _ hi lo q r h0 hox hS1 hS2 hM hD g hr1 s1 s2 u (by omega) (by omega) w
        · rw [show upB true r o = false from by simp [upB, u]] at eQ
          simp only [Bool.false_eq_true, if_false, Nat.add_zero] at eQ
          rw [if_neg (show ¬ 4611686018427387904 < absQ n b o by rw [eQ]; omega), if_neg (show ¬ 4611686018427387904 < absQ n b o by rw [eQ]; omega), if_pos (show true = true from rfl), eQ]
          exact scale_010 n b o _ _ hi lo q r h0 hox hS1 hS2 hM hD g hr1 s1 s2 u (by omega) w
      · have hn : negB n b = false := by simp [negB, Int.not_lt.2 s1, Int.not_lt.2 s2]
        rw [hn] at eQ ⊢
        by_cases u : o - r ≤ r
        · rw [show upB false r o = true from by simp [upB, u]] at eQ
          simp only [if_true] at eQ
          rcases Nat.lt_or_ge q 4611686018427387904 with k2 | k2
          · rw [if_neg (show ¬ 4611686018427387904 < absQ n b o by rw [eQ]; omega), if_neg (show ¬ 4611686018427387904 < absQ n b o by rw [eQ]; omega), if_neg (show ¬ false = true by decide), eQ]
            exact scale_001 n b o _ _ hi lo q r h0 hox hS1 hS2 hM hD g hr1 s1 s2 u (by omega) w
          · rw [if_pos (show 4611686018427387904 < absQ n b o by rw [eQ]; omega), if_pos (show 4611686018427387904 < absQ n b o by rw [eQ]; omega)]
            exact scale_002 n b o _ _ hi lo q r h0 hox hS1 hS2 hM hD g hr1 s1 s2 u (by omega) (by omega) w
        · rw [show upB false r o = false from by simp [upB, u]] at eQ
          simp only [Bool.false_eq_true, if_false, Nat.add_zero] at eQ
          rw [if_neg (show ¬ 4611686018427387904 < absQ n b o by rw [eQ]; omega), if_neg (show ¬ 4611686018427387904 < absQ n b o by rw [eQ]; omega), if_neg (show ¬ false = true by decide), eQ]
          exact scale_000 n b o _ _ hi lo q r h0 hox hS1 hS2 hM hD g hr1 s1 s2 u (by omega) w
  · have hql : 18446744073709551616 ≤ q := by
      rw [← hq]
      refine (Nat.le_div_iff_mul_le h0).2 ?_
      have : 18446744073709551616 * o ≤ 18446744073709551616 * hi := Nat.mul_le_mul_left _ g
      omega
    rw [if_pos (by rw [eQ]; omega), if_pos (by rw [eQ]; omega)]
    exact scale_high n b o _ _ hi lo h0 o1 hS1 hS2 hM g w
end Go.Proofs.Ytglomkpnbdnnoaa.Unit

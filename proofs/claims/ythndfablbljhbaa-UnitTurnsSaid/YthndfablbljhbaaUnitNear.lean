/- UnitNear, walked: it returns true, for every three numbers. No condition. -/
import Derived.Test.YthndfablbljhbaaUnitParts
import Derived.Test.YthndfablbljhbaaRnd
namespace Go.Proofs.Ythndfablbljhbaa.Unit
open Go.RowKit Go.Proofs.Ythndfablbljhbaa.Div
attribute [local go_sem] max2_int min2_int max_two min_two
set_option linter.unusedVariables false

abbrev cC (n b o v e : Int) : Prop := ∀ W, Calls Try.prog 9 #[.int .i64 n, .int .i64 b, .int .i64 o] W fun x w' => x = .returned (.tuple #[.int .i64 v, .int .i64 e]) ∧ Drawn W w'
abbrev cM (n : Int) (t : Bool) : Prop := ∀ W, Calls Try.prog 18 #[.int .i64 n] W fun e w' => e = .returned (.bool t) ∧ W = w'

/-- Scale of numbers that may come in. -/
theorem scale_in (n b o : Int) (ho : 1 ≤ o) (o1 : o ≤ 9223372036854775807) (n0 : -2147483648 ≤ n) (n1 : n ≤ 2147483648) (b0 : -1073741824 ≤ b) (b1 : b ≤ 1073741824) : cC n b o (rnd (n * b) o) 0 := fun W => by
  have q := mul_bd n b 2147483648 1073741824 (by omega) (by omega) (by omega) (by omega)
  have h := scV_rnd n b o ho (by omega) (by omega)
  have c := scale_any n b o (by omega) (by omega) (by omega) (by omega) o1 W
  rw [h.1, h.2] at c
  exact c

set_option maxHeartbeats 4000000 in
theorem near_out (n m b : Int) (p q r : Bool) (h : (p = false) ∨ (p = true ∧ q = false) ∨ (p = true ∧ q = true ∧ r = false)) (H1 : Hid (cM n p)) (H2 : Hid (cM m q)) (H3 : Hid (cM b r)) (w : World) :
    Calls Try.prog 7 #[.int .i64 n, .int .i64 m, .int .i64 b] w fun e w' => e = .returned (.bool true) ∧ Below w.heap.size w w' := by
  rcases h with rfl | ⟨rfl, rfl⟩ | ⟨rfl, rfl, rfl⟩
  all_goals
    go_enter Try.func7, Try.ntmps7
    go_wp2_with (first
      | (go_at_call 18; first | ((with_reducible refine (H1.out _).mono ?_); rintro e w1 ⟨rfl, rfl⟩) | ((with_reducible refine (H2.out _).mono ?_); rintro e w1 ⟨rfl, rfl⟩) | ((with_reducible refine (H3.out _).mono ?_); rintro e w1 ⟨rfl, rfl⟩))
      | (go_at_call 11; refine (head_any _).mono ?_; rintro e w3 ⟨rfl, hb3⟩))
    go_ret
    exact ⟨rfl, hb3⟩

set_option maxHeartbeats 4000000 in
theorem near_in (n m b o a lo hi : Int) (hb : (b = 0 ∧ o = 1) ∨ (0 < b ∧ o = b) ∨ (b < 0 ∧ o = -b)) (b0 : -1073741824 ≤ b) (b1 : b ≤ 1073741824)
    (hnm : m < n ∧ lo = m ∧ hi = n ∨ n < m ∧ lo = n ∧ hi = m ∨ n = m ∧ lo = n ∧ hi = n)
    (n0 : -1073741824 ≤ n) (n1 : n ≤ 1073741824) (m0 : -1073741824 ≤ m) (m1 : m ≤ 1073741824) (l h : Int) (hlh : l ≤ h)
    (a0 : 2 * (a * o - n * m) ≤ o) (a1 : -o < 2 * (a * o - n * m)) (c0 : -1152921504606846976 ≤ n * m) (c1 : n * m ≤ 1152921504606846976)
    (H1 : Hid (cM n true)) (H2 : Hid (cM m true)) (H3 : Hid (cM b true)) (H4 : Hid (cC n m o a 0)) (H5 : Hid (cC n o o n 0)) (H6 : Hid (cC lo o 7 l 0)) (H7 : Hid (cC hi o 7 h 0)) (w : World) :
    Calls Try.prog 7 #[.int .i64 n, .int .i64 m, .int .i64 b] w fun e w' => e = .returned (.bool true) ∧ Below w.heap.size w w' := by
  have o0 : 1 ≤ o := by omega
  have o1 : o ≤ 1073741824 := by omega
  have d0 : -2305843009213693952 ≤ a * o := by omega
  have d1 : a * o ≤ 2305843009213693952 := by omega
  have d2 : -2305843009213693952 ≤ a * o - n * m := by omega
  have d3 : a * o - n * m ≤ 2305843009213693952 := by omega
  rcases hb with ⟨rfl, rfl⟩ | ⟨g, rfl⟩ | ⟨g, rfl⟩ <;> rcases hnm with ⟨k, rfl, rfl⟩ | ⟨k, rfl, rfl⟩ | ⟨rfl, rfl, rfl⟩
  all_goals
    go_enter Try.func7, Try.ntmps7
    go_wp2_with (first
      | (go_at_call 18; first | ((with_reducible refine (H1.out _).mono ?_); rintro e w1 ⟨rfl, rfl⟩) | ((with_reducible refine (H2.out _).mono ?_); rintro e w1 ⟨rfl, rfl⟩) | ((with_reducible refine (H3.out _).mono ?_); rintro e w1 ⟨rfl, rfl⟩))
      | (go_at_call 9; first
        | ((with_reducible refine (H4.out _).mono ?_); rintro e w1 ⟨rfl, ⟨k1, rfl⟩⟩) | ((with_reducible refine (H5.out _).mono ?_); rintro e w1 ⟨rfl, ⟨k2, rfl⟩⟩)
        | ((with_reducible refine (H6.out _).mono ?_); rintro e w1 ⟨rfl, ⟨k3, rfl⟩⟩) | ((with_reducible refine (H7.out _).mono ?_); rintro e w1 ⟨rfl, ⟨k4, rfl⟩⟩))
      | (go_at_call 11; refine (head_any _).mono ?_; rintro e w3 ⟨rfl, hb3⟩))
    go_ret
    exact ⟨rfl, by
      refine bel_trans ?_ hb3
      repeat (first | exact Below.refl _ _ | refine bel_drewN ?_ _)⟩
theorem near_any (n m b : Int) (h1 : (Lit.int .i64 n).wf = true) (h2 : (Lit.int .i64 m).wf = true) (h3 : (Lit.int .i64 b).wf = true) (w : World) :
    Calls Try.prog 7 #[.int .i64 n, .int .i64 m, .int .i64 b] w fun e w' => e = .returned (.bool true) ∧ Below w.heap.size w w' := by
  have M : ∀ x, cM x (mayU x) := fun x W => unitMay_any x W
  by_cases hM : mayU n = true ∧ mayU m = true ∧ mayU b = true
  · obtain ⟨e1, e2, e3⟩ := hM
    have n' : -1073741824 ≤ n ∧ n ≤ 1073741824 := by simpa [mayU] using e1
    have m' : -1073741824 ≤ m ∧ m ≤ 1073741824 := by simpa [mayU] using e2
    have b' : -1073741824 ≤ b ∧ b ≤ 1073741824 := by simpa [mayU] using e3
    have M1 := M n
    have M2 := M m
    have M3 := M b
    rw [e1] at M1
    rw [e2] at M2
    rw [e3] at M3
    obtain ⟨o, hb, o0, o1⟩ : ∃ o, ((b = 0 ∧ o = 1) ∨ (0 < b ∧ o = b) ∨ (b < 0 ∧ o = -b)) ∧ 1 ≤ o ∧ o ≤ 1073741824 := by
      rcases Int.lt_trichotomy b 0 with g | g | g
      · exact ⟨-b, by omega, by omega, by omega⟩
      · exact ⟨1, by omega, by omega, by omega⟩
      · exact ⟨b, by omega, by omega, by omega⟩
    obtain ⟨lo, hi, hnm, hle, l0, h0⟩ : ∃ lo hi, (m < n ∧ lo = m ∧ hi = n ∨ n < m ∧ lo = n ∧ hi = m ∨ n = m ∧ lo = n ∧ hi = n) ∧ lo ≤ hi ∧ -1073741824 ≤ lo ∧ hi ≤ 1073741824 := by
      rcases Int.lt_trichotomy n m with g | g | g
      · exact ⟨n, m, by omega, by omega, by omega, by omega⟩
      · exact ⟨n, n, by omega, by omega, by omega, by omega⟩
      · exact ⟨m, n, by omega, by omega, by omega, by omega⟩
    have q := mul_bd n m 1073741824 1073741824 (by omega) (by omega) (by omega) (by omega)
    have N := rnd_near (n * m) o o0
    have C4 := scale_in n m o o0 (by omega) (by omega) (by omega) (by omega) (by omega)
    have C5 := scale_in n o o o0 (by omega) (by omega) (by omega) (by omega) (by omega)
    rw [rnd_self n o o0] at C5
    have C6 := scale_in lo o 7 (by omega) (by omega) (by omega) (by omega) (by omega) (by omega)
    have C7 := scale_in hi o 7 (by omega) (by omega) (by omega) (by omega) (by omega) (by omega)
    exact near_in n m b o _ lo hi hb b'.1 b'.2 hnm n'.1 n'.2 m'.1 m'.2 _ _ (rnd_mono _ _ 7 (by omega) (Int.mul_le_mul_of_nonneg_right hle (by omega))) N.1 N.2 (by omega) (by omega) (Lib.hid M1) (Lib.hid M2) (Lib.hid M3) (Lib.hid C4) (Lib.hid C5) (Lib.hid C6) (Lib.hid C7) w
  · refine near_out n m b _ _ _ ?_ (Lib.hid (M n)) (Lib.hid (M m)) (Lib.hid (M b)) w
    cases e1 : mayU n <;> cases e2 : mayU m <;> cases e3 : mayU b <;> simp_all
end Go.Proofs.Ythndfablbljhbaa.Unit

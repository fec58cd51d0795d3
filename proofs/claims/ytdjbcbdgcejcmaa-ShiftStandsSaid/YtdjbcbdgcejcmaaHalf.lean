/- Halves: the program's and the reference's, walked. No condition but bounds. -/
import Derived.Test.YtdjbcbdgcejcmaaScaleIn
namespace Go.Proofs.Ytdjbcbdgcejcmaa.Unit
open Go.RowKit Go.Proofs.Ytdjbcbdgcejcmaa.Div
set_option linter.unusedVariables false

theorem halves_any (n : Int) (h0 : -9223372036854775808 ≤ n) (h1 : n ≤ 9223372036854775807) (w : World) : Calls Try.prog 23 #[.int .i64 n] w fun e w' => e = .returned (.tuple #[.int .i64 (n / 2), .int .i64 (n - n / 2)]) ∧ Drawn w w' := by
  have e1 : wrap64 (n - n / 2) = n - n / 2 := by unfold wrap64; omega
  have E1 := Lib.hid e1
  have H0 := Lib.hid h0
  have H1 := Lib.hid h1
  clear h0 h1 e1
  go_enter Try.func23, Try.ntmps23
  go_wp2
  go_ret2
  exact ⟨ret_int2 rfl E1.out, Drawn.refl _⟩

set_option maxHeartbeats 1000000 in
theorem rhalves_any (n : Int) (h0 : -9223372036854775808 ≤ n) (h1 : n ≤ 9223372036854775807) (w : World) : Calls Try.prog 14 #[.int .i64 n] w fun e w' => e = .returned (.tuple #[.int .i64 (n / 2), .int .i64 (n - n / 2)]) ∧ Drawn w w' := by
  obtain ⟨a, ha⟩ : ∃ a, n.tdiv 2 = a := ⟨_, rfl⟩
  obtain ⟨b, hb⟩ : ∃ b, n.tmod 2 = b := ⟨_, rfl⟩
  obtain ⟨c, hc⟩ : ∃ c, n / 2 = c := ⟨_, rfl⟩
  have hab := Int.tmod_add_mul_tdiv n 2
  rw [ha, hb] at hab
  have hb1 := Int.lt_tmod_of_pos n (show (0 : Int) < 2 by omega)
  have hb2 := Int.tmod_lt_of_pos n (show (0 : Int) < 2 by omega)
  rw [hb] at hb1 hb2
  rw [hc]
  have q1 : wrap64 a = a := by unfold wrap64; omega
  have q2 : wrap64 (a - 1) = a - 1 := by unfold wrap64; omega
  have q3 : wrap64 (n - c) = n - c := by unfold wrap64; omega
  have hs : b < 0 ∧ a - 1 = c ∨ 0 ≤ b ∧ a = c := by
    rcases Int.lt_or_le n 0 with g | g
    · have := Int.tmod_nonneg (a := -n) 2 (by omega)
      rw [Int.neg_tmod, hb] at this
      omega
    · have := Int.tmod_nonneg (a := n) 2 g
      rw [hb] at this
      omega
  rcases hs with ⟨g, rfl⟩ | ⟨g, rfl⟩
  all_goals
    have Q1 := Lib.hid q1
    have Q2 := Lib.hid q2
    have Q3 := Lib.hid q3
    clear h0 h1 hab hb1 hb2 hc q1 q2 q3
    go_enter Try.func14, Try.ntmps14
    go_wp2
    go_ret2
    refine ⟨ret_int2 ?_ ?_, Drawn.refl _⟩
    all_goals first | rfl | (simp only [Q1.out, Q2.out, Q3.out]; done) | (simp only [Q1.out, Q2.out, Q3.out]; rfl) | trace_state
end Go.Proofs.Ytdjbcbdgcejcmaa.Unit

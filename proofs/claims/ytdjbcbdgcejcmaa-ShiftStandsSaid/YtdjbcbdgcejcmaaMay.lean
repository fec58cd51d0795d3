/- May: the program's and the reference's, walked. No condition. -/
import Derived.Test.YtdjbcbdgcejcmaaScaleIn
namespace Go.Proofs.Ytdjbcbdgcejcmaa.Unit
open Go.RowKit Go.Proofs.Ytdjbcbdgcejcmaa.Div
set_option linter.unusedVariables false

def mayU (n : Int) : Bool := decide (-1073741824 ≤ n) && decide (n ≤ 1073741824)
theorem mayU_t {n : Int} (h1 : -1073741824 ≤ n) (h2 : n ≤ 1073741824) : mayU n = true := by simp [mayU, h1, h2]
theorem mayU_f1 {n : Int} (h1 : n < -1073741824) : mayU n = false := by simp [mayU]; omega
theorem mayU_f2 {n : Int} (h1 : 1073741824 < n) : mayU n = false := by simp [mayU]; omega
theorem unitMay_any (n : Int) (w : World) : Calls Try.prog 26 #[.int .i64 n] w fun e w' => e = .returned (.bool (mayU n)) ∧ w = w' := by
  rcases Int.lt_or_le n (-1073741824) with h1 | h1
  · go_enter Try.func26, Try.ntmps26
    go_wp2
    go_ret
    exact ⟨ret_bool (by rw [mayU_f1 h1]), rfl⟩
  · rcases Int.lt_or_le (1073741824) n with h2 | h2
    · go_enter Try.func26, Try.ntmps26
      go_wp2
      go_ret
      exact ⟨ret_bool (by rw [mayU_f2 h2]; first | done | (simp; done) | (simp; omega)), rfl⟩
    · go_enter Try.func26, Try.ntmps26
      go_wp2
      go_ret
      exact ⟨ret_bool (by rw [mayU_t h1 h2]; first | done | (simp; done) | (simp; omega)), rfl⟩

theorem refMay_any (n : Int) (w : World) : Calls Try.prog 27 #[.int .i64 n] w fun e w' => e = .returned (.bool (mayU n)) ∧ w = w' := by
  rcases Int.lt_or_le n (-1073741824) with h1 | h1
  · go_enter Try.func27, Try.ntmps27
    go_wp2
    go_ret
    exact ⟨ret_bool (by rw [mayU_f1 h1]), rfl⟩
  · rcases Int.lt_or_le (1073741824) n with h2 | h2
    · go_enter Try.func27, Try.ntmps27
      go_wp2
      go_ret
      exact ⟨ret_bool (by rw [mayU_f2 h2]; first | done | (simp; done) | (simp; omega)), rfl⟩
    · go_enter Try.func27, Try.ntmps27
      go_wp2
      go_ret
      exact ⟨ret_bool (by rw [mayU_t h1 h2]; first | done | (simp; done) | (simp; omega)), rfl⟩
end Go.Proofs.Ytdjbcbdgcejcmaa.Unit

/- Chapter 5: the measures, walked. No condition. -/
import Derived.Test.YtedpmehggpomnaaFontC
namespace Go.Proofs.Ytedpmehggpomnaa.Font
open Go.RowKit Go.Proofs.Ytedpmehggpomnaa.Unit
set_option linter.unusedVariables false
/-! ### the measures -/
section
variable (a d g x o : Int) (A : Option Addr) (n c : Nat) (size : Int) (w : World)
theorem up_any : Calls Try.prog 37 #[fontV a d g x o A n c, .int .i64 size] w fun e w' => e = .returned (.int .i64 (atV a size)) ∧ Below w.heap.size w w' := by
  go_enter Try.func37, Try.ntmps37
  go_wp2_with (go_at_call 41; refine (at_any _ _ _).mono ?_; rintro e w2 ⟨rfl, hb2⟩)
  go_ret
  exact ⟨rfl, bel_trans (bel_alloc (Below.refl _ _) _) hb2⟩
theorem down_any : Calls Try.prog 38 #[fontV a d g x o A n c, .int .i64 size] w fun e w' => e = .returned (.int .i64 (atV d size)) ∧ Below w.heap.size w w' := by
  go_enter Try.func38, Try.ntmps38
  go_wp2_with (go_at_call 41; refine (at_any _ _ _).mono ?_; rintro e w2 ⟨rfl, hb2⟩)
  go_ret
  exact ⟨rfl, bel_trans (bel_alloc (Below.refl _ _) _) hb2⟩
theorem gap_any : Calls Try.prog 40 #[fontV a d g x o A n c, .int .i64 size] w fun e w' => e = .returned (.int .i64 (atV g size)) ∧ Below w.heap.size w w' := by
  go_enter Try.func40, Try.ntmps40
  go_wp2_with (go_at_call 41; refine (at_any _ _ _).mono ?_; rintro e w2 ⟨rfl, hb2⟩)
  go_ret
  exact ⟨rfl, bel_trans (bel_alloc (Below.refl _ _) _) hb2⟩
theorem x_any : Calls Try.prog 29 #[fontV a d g x o A n c, .int .i64 size] w fun e w' => e = .returned (.int .i64 (atV x size)) ∧ Below w.heap.size w w' := by
  go_enter Try.func29, Try.ntmps29
  go_wp2_with (go_at_call 41; refine (at_any _ _ _).mono ?_; rintro e w2 ⟨rfl, hb2⟩)
  go_ret
  exact ⟨rfl, bel_trans (bel_alloc (Below.refl _ _) _) hb2⟩
end
end Go.Proofs.Ytedpmehggpomnaa.Font

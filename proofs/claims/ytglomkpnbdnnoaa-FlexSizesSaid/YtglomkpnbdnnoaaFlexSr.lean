/- Chapter 23: FlexSizes, for rows of numbers. -/
import Derived.Test.YtglomkpnbdnnoaaFlexRw
import Derived.Test.YtglomkpnbdnnoaaFlexSl
namespace Go.Proofs.Ytglomkpnbdnnoaa.Flex
open Go.RowKit
set_option linter.unusedVariables false
theorem rowFlexSizes (A : Option Addr) (n c : Nat) (xs : List (List Int)) (room : Int) (hw : ∀ y ∈ xs, wfR [.i64, .i64, .i64, .i64] y) (w : World) (hr : Reads w w.heap.size 4 A n (xs.flatMap (encR [.i64, .i64, .i64, .i64]))) :
    Calls Try.prog 3 #[.slice A n c, .int .i64 room] w fun e w' => e = .returned (.bool true) ∧ Below w.heap.size w w' := by
  obtain ⟨cs, e1⟩ := its_of xs hw
  rw [e1] at hr
  exact FlexSizes_any A n c cs room w hr
end Go.Proofs.Ytglomkpnbdnnoaa.Flex

/- Chapter 23: FlexExact, for rows of numbers. -/
import Derived.Test.YtglomkpnbdnnoaaFlexRw
import Derived.Test.YtglomkpnbdnnoaaFlexLe
namespace Go.Proofs.Ytglomkpnbdnnoaa.Flex
open Go.RowKit
set_option linter.unusedVariables false
theorem rowFlexExact (A : Option Addr) (n c : Nat) (xs : List (List Int)) (num : Int) (AW : Option Addr) (k cW : Nat) (ws : List Int) (hw : ∀ y ∈ xs, wfR [.i64, .i64, .i64, .i64] y) (w : World) (hr : Reads w w.heap.size 4 A n (xs.flatMap (encR [.i64, .i64, .i64, .i64]))) (hrw : Reads w w.heap.size 1 AW k (ws.map (Value.int .i64))) :
    Calls Try.prog 8 #[.slice A n c, .int .i64 num, .slice AW k cW] w fun e w' => e = .returned (.bool true) ∧ Below w.heap.size w w' := by
  obtain ⟨cs, e1⟩ := its_of xs hw
  rw [e1] at hr
  exact FlexExact_any A n c cs num AW k cW ws w hr hrw
end Go.Proofs.Ytglomkpnbdnnoaa.Flex

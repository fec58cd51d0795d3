/- Chapter 23: FlexEven, for numbers. -/
import Derived.Test.YtglomkpnbdnnoaaOpenS
import Derived.Test.YtglomkpnbdnnoaaFlexEv
namespace Go.Proofs.Ytglomkpnbdnnoaa.Flex
open Go.RowKit
set_option linter.unusedVariables false
theorem rowFlexEven (a b c d : Int) (many : Int) (hw : (Lit.int .u8 many).wf = true) (room : Int) (w : World) :
    Calls Try.prog 7 #[.agg #[.int .i64 a, .int .i64 b, .int .i64 c, .int .i64 d], .int .u8 many, .int .i64 room] w fun e w' => e = .returned (.bool true) ∧ Below w.heap.size w w' := by
  have h : 0 ≤ many ∧ many ≤ 255 := (Lit.wf_int_iff .u8 many).1 hw
  obtain ⟨m, rfl⟩ : ∃ m : Nat, many = (m : Int) := ⟨many.toNat, by omega⟩
  exact FlexEven_any ⟨a, b, c, d⟩ m (by omega) room w
end Go.Proofs.Ytglomkpnbdnnoaa.Flex

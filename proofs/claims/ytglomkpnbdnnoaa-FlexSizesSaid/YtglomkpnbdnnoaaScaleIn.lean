/- Scale of numbers that may come in: the program's and the reference's tell the rounded quotient. No condition but bounds. -/
import Derived.Test.YtglomkpnbdnnoaaRefS
import Derived.DataShut
import Derived.Test.YtglomkpnbdnnoaaRnd
namespace Go.Proofs.Ytglomkpnbdnnoaa.Unit
open Go.RowKit Go.Proofs.Ytglomkpnbdnnoaa.Div
set_option linter.unusedVariables false

theorem i64_wf {n : Int} (h : (Lit.int .i64 n).wf = true) : -9223372036854775808 ≤ n ∧ n ≤ 9223372036854775807 := (Lit.wf_int_iff .i64 n).1 h
abbrev cC (n b o v e : Int) : Prop := ∀ W, Calls Try.prog 41 #[.int .i64 n, .int .i64 b, .int .i64 o] W fun x w' => x = .returned (.tuple #[.int .i64 v, .int .i64 e]) ∧ Drawn W w'
abbrev cR (n b o v e : Int) : Prop := ∀ W, Calls Try.prog 42 #[.int .i64 n, .int .i64 b, .int .i64 o] W fun x w' => x = .returned (.tuple #[.int .i64 v, .int .i64 e]) ∧ Below W.heap.size W w'
/-- Scale of a product that is small. -/
theorem scale_small (n b o : Int) (ho : 1 ≤ o) (o1 : o ≤ 9223372036854775807) (n0 : -9223372036854775808 ≤ n) (n1 : n ≤ 9223372036854775807) (b0 : -9223372036854775808 ≤ b) (b1 : b ≤ 9223372036854775807) (h0 : -2305843009213693952 ≤ n * b) (h1 : n * b ≤ 2305843009213693952) :
    cC n b o (rnd (n * b) o) 0 ∧ cR n b o (rnd (n * b) o) 0 := by
  have h := scV_rnd n b o ho h0 h1
  refine ⟨fun W => ?_, fun W => ?_⟩
  · have c := scale_any n b o n0 n1 b0 b1 o1 W
    rw [h.1, h.2] at c
    exact c
  · have c := rscale_any n b o n0 n1 b0 b1 o1 W
    rw [h.1, h.2] at c
    exact c
/-- Scale of numbers that may come in. -/
theorem scale_in (n b o : Int) (ho : 1 ≤ o) (o1 : o ≤ 9223372036854775807) (n0 : -2147483648 ≤ n) (n1 : n ≤ 2147483648) (b0 : -1073741824 ≤ b) (b1 : b ≤ 1073741824) : cC n b o (rnd (n * b) o) 0 ∧ cR n b o (rnd (n * b) o) 0 := by
  have q := mul_bd n b 2147483648 1073741824 (by omega) (by omega) (by omega) (by omega)
  exact scale_small n b o ho o1 (by omega) (by omega) (by omega) (by omega) (by omega) (by omega)
end Go.Proofs.Ytglomkpnbdnnoaa.Unit

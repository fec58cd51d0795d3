/- Chapter 8: the row of WhiteAlone: rows of numbers are characters and styles. -/
import Derived.Test.YtmjacmjogckihaaWhiteW
import Derived.Test.YtmjacmjogckihaaWhiteAl
namespace Go.Proofs.Ytmjacmjogckihaa.White
open Go.RowKit
set_option linter.unusedVariables false
theorem rowWhiteAlone (A : Option Addr) (n c : Nat) (xs : List (List Int)) (AS : Option Addr) (nS cS : Nat) (ys : List (List Int)) (hw : ∀ y ∈ xs, wfR [.i32, .i64, .i64, .i64, .u8] y) (hwS : ∀ y ∈ ys, wfR [.u8, .u8, .u8, .u8, .i64, .i64, .i64, .u8, .i64] y) (w : World) (hr : Reads w w.heap.size 5 A n (xs.flatMap (encR [.i32, .i64, .i64, .i64, .u8]))) (hrS : Reads w w.heap.size 9 AS nS (ys.flatMap (encR [.u8, .u8, .u8, .u8, .i64, .i64, .i64, .u8, .i64]))) :
    Calls Try.prog 5 #[.slice A n c, .slice AS nS cS] w fun e w' => e = .returned (.bool true) ∧ Below w.heap.size w w' := by
  obtain ⟨cs, h0, e1⟩ := crs_of xs hw
  obtain ⟨ss, e2⟩ := sts_of ys hwS
  rw [e1] at hr
  rw [e2] at hrS
  exact WhiteAlone_any A n c cs AS nS cS ss w hr hrS
end Go.Proofs.Ytmjacmjogckihaa.White

/- Chapter 8: the row of WhiteParts: rows of numbers are characters and styles. -/
import Derived.Test.YtmjacmjogckihaaWhiteW
import Derived.Test.YtmjacmjogckihaaWhitePa
namespace Go.Proofs.Ytmjacmjogckihaa.White
open Go.RowKit
set_option linter.unusedVariables false
theorem rowWhiteParts (A : Option Addr) (n c : Nat) (xs : List (List Int)) (B : Option Addr) (m d : Nat) (zs : List (List Int)) (AS : Option Addr) (nS cS : Nat) (ys : List (List Int)) (hw : ∀ y ∈ xs, wfR [.i32, .i64, .i64, .i64, .u8] y) (hw2 : ∀ y ∈ zs, wfR [.i32, .i64, .i64, .i64, .u8] y) (hwS : ∀ y ∈ ys, wfR [.u8, .u8, .u8, .u8, .i64, .i64, .i64, .u8, .i64] y) (w : World) (hr : Reads w w.heap.size 5 A n (xs.flatMap (encR [.i32, .i64, .i64, .i64, .u8]))) (hr2 : Reads w w.heap.size 5 B m (zs.flatMap (encR [.i32, .i64, .i64, .i64, .u8]))) (hrS : Reads w w.heap.size 9 AS nS (ys.flatMap (encR [.u8, .u8, .u8, .u8, .i64, .i64, .i64, .u8, .i64]))) :
    Calls Try.prog 7 #[.slice A n c, .slice B m d, .slice AS nS cS] w fun e w' => e = .returned (.bool true) ∧ Below w.heap.size w w' := by
  obtain ⟨cs, _, e1⟩ := crs_of xs hw
  obtain ⟨ms, _, e2⟩ := crs_of zs hw2
  obtain ⟨ss, e3⟩ := sts_of ys hwS
  rw [e1] at hr
  rw [e2] at hr2
  rw [e3] at hrS
  exact WhiteParts_any A n c cs B m d ms AS nS cS ss w hr hr2 hrS
end Go.Proofs.Ytmjacmjogckihaa.White

/- Chapter 23: rows of numbers are items and boxes. -/
import Derived.Test.YtglomkpnbdnnoaaFlexLi
import Derived.Test.YtglomkpnbdnnoaaOpenS
import Derived.DataShut
namespace Go.Proofs.Ytglomkpnbdnnoaa.Flex
open Go.RowKit
set_option linter.unusedVariables false
theorem its_of (xs : List (List Int)) (h : ∀ x ∈ xs, wfR [.i64, .i64, .i64, .i64] x) : ∃ cs : List It, xs.flatMap (encR [.i64, .i64, .i64, .i64]) = itL cs := by
  induction xs with
  | nil => exact ⟨[], rfl⟩
  | cons x xs ih =>
    obtain ⟨rs, h3⟩ := ih (fun y hy => h y (by simp [hy]))
    obtain ⟨hl, _⟩ := h x (by simp)
    match x, hl with
    | [a, b, c, d], _ =>
      refine ⟨⟨a, b, c, d⟩ :: rs, ?_⟩
      rw [List.flatMap_cons, h3]
      rfl
theorem bxs_of (xs : List (List Int)) (h : ∀ x ∈ xs, wfR [.i64, .i64] x) : ∃ cs : List Bx, xs.flatMap (encR [.i64, .i64]) = bxL cs := by
  induction xs with
  | nil => exact ⟨[], rfl⟩
  | cons x xs ih =>
    obtain ⟨rs, h3⟩ := ih (fun y hy => h y (by simp [hy]))
    obtain ⟨hl, _⟩ := h x (by simp)
    match x, hl with
    | [a, b], _ =>
      refine ⟨⟨a, b⟩ :: rs, ?_⟩
      rw [List.flatMap_cons, h3]
      rfl
theorem rowFlexLines (A : Option Addr) (n c : Nat) (xs : List (List Int)) (hc : n ≤ c) (hw : ∀ y ∈ xs, wfR [.i64, .i64] y) (w : World) (hr : Reads w w.heap.size 2 A n (xs.flatMap (encR [.i64, .i64]))) :
    Calls Try.prog 6 #[.slice A n c] w fun e w' => e = .returned (.bool true) ∧ Below w.heap.size w w' := by
  obtain ⟨cs, e1⟩ := bxs_of xs hw
  rw [e1] at hr
  exact FlexLines_any A n c cs hc w hr
end Go.Proofs.Ytglomkpnbdnnoaa.Flex

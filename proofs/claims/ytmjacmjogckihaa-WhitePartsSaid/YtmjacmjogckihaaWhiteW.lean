/- Chapter 8: rows of numbers are characters and styles. -/
import Derived.Test.YtmjacmjogckihaaWhiteV
import Derived.Test.YtmjacmjogckihaaOpenS
import Derived.DataShut
namespace Go.Proofs.Ytmjacmjogckihaa.White
open Go.RowKit
set_option linter.unusedVariables false
theorem crs_of (xs : List (List Int)) (h : ∀ x ∈ xs, wfR [.i32, .i64, .i64, .i64, .u8] x) : ∃ cs : List Cr, Runes cs ∧ xs.flatMap (encR [.i32, .i64, .i64, .i64, .u8]) = crL cs := by
  induction xs with
  | nil => exact ⟨[], (fun c hc => by cases hc), rfl⟩
  | cons x xs ih =>
    obtain ⟨rs, h1, h3⟩ := ih (fun y hy => h y (by simp [hy]))
    obtain ⟨hl, hw⟩ := h x (by simp)
    match x, hl with
    | [a, b, c, d, e], _ =>
      refine ⟨⟨a, b, c, d, e⟩ :: rs, fun y hy => ?_, ?_⟩
      · rcases List.mem_cons.1 hy with rfl | hy
        · exact (Lit.wf_int_iff .i32 _).1 (hw 0 _ _ rfl rfl)
        · exact h1 y hy
      · rw [List.flatMap_cons, h3]
        rfl
theorem sts_of (xs : List (List Int)) (h : ∀ x ∈ xs, wfR [.u8, .u8, .u8, .u8, .i64, .i64, .i64, .u8, .i64] x) : ∃ ss : List St, xs.flatMap (encR [.u8, .u8, .u8, .u8, .i64, .i64, .i64, .u8, .i64]) = stL ss := by
  induction xs with
  | nil => exact ⟨[], rfl⟩
  | cons x xs ih =>
    obtain ⟨rs, h3⟩ := ih (fun y hy => h y (by simp [hy]))
    obtain ⟨hl, hw⟩ := h x (by simp)
    match x, hl with
    | [a0, a1, a2, a3, a4, a5, a6, a7, a8], _ =>
      refine ⟨⟨a0, a1, a2, a3, a4, a5, a6, a7, a8⟩ :: rs, ?_⟩
      rw [List.flatMap_cons, h3]
      rfl
theorem rowCollapses (A : Option Addr) (n c : Nat) (xs : List (List Int)) (AS : Option Addr) (nS cS : Nat) (ys : List (List Int)) (hw : ∀ y ∈ xs, wfR [.i32, .i64, .i64, .i64, .u8] y) (hwS : ∀ y ∈ ys, wfR [.u8, .u8, .u8, .u8, .i64, .i64, .i64, .u8, .i64] y) (w : World) (hr : Reads w w.heap.size 5 A n (xs.flatMap (encR [.i32, .i64, .i64, .i64, .u8]))) (hrS : Reads w w.heap.size 9 AS nS (ys.flatMap (encR [.u8, .u8, .u8, .u8, .i64, .i64, .i64, .u8, .i64]))) :
    Calls Try.prog 3 #[.slice A n c, .slice AS nS cS] w fun e w' => e = .returned (.bool true) ∧ Below w.heap.size w w' := by
  obtain ⟨cs, h0, e1⟩ := crs_of xs hw
  obtain ⟨ss, e2⟩ := sts_of ys hwS
  rw [e1] at hr
  rw [e2] at hrS
  exact WhiteCollapses_any A n c cs AS nS cS ss w hr hrS h0
end Go.Proofs.Ytmjacmjogckihaa.White

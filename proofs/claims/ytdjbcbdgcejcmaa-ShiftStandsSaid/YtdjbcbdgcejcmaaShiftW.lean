/- Chapter 19: ShiftStands, walked whole: it returns true, for every input. No condition. -/
import Derived.Test.YtdjbcbdgcejcmaaShiftZ
namespace Go.Proofs.Ytdjbcbdgcejcmaa.Unit
open Go.RowKit Go.Proofs.Ytdjbcbdgcejcmaa.Div Go.Great
set_option linter.unusedVariables false
set_option linter.unusedSimpArgs false

set_option maxHeartbeats 8000000 in
set_option maxRecDepth 100000 in
theorem stands_bad (A B U D X S H y : Int) (H3 : Hid (cS 3 0 A B U D X S H 0 0 2)) (H4 : Hid (cS 4 0 A B U D X S H 0 0 2)) (H5 : Hid (cS 5 0 A B U D X S H 0 0 2)) (w : World) :
    Calls Try.prog 4 #[boxV A B, arV U D X S H, .int .i64 y] w fun e w' => e = .returned (.bool true) ∧ Below w.heap.size w w' := by
  have N := Lib.hid (BA.new2 w A B U D X S H)
  go_enter Try.func4, Try.ntmps4
  go_wp2_with (first
    | (go_at_call 6; first
      | ((with_reducible refine (H3.out _).mono ?_); rintro e w1 ⟨rfl, hb1⟩; have N1 := Lib.hid (N.out.keep hb1); obtain ⟨c0, c1, c2, c3, c4, c5, c6⟩ := N1.out.cells)
      | ((with_reducible refine (H4.out _).mono ?_); rintro e w2 ⟨rfl, hb2⟩; have N2 := Lib.hid (N1.out.keep hb2); obtain ⟨d0, d1, d2, d3, d4, d5, d6⟩ := N2.out.cells)
      | ((with_reducible refine (H5.out _).mono ?_); rintro e w3 ⟨rfl, hb3⟩; have NB := Lib.hid (N2.out.keep hb3)))
    | (go_at_call 8; refine (head_any _).mono ?_; rintro e w5 ⟨rfl, hb5⟩))
  go_ret
  exact ⟨rfl, by
    refine bel_trans (bel_trans (bel_trans (bel_trans ?_ hb1) hb2) hb3) hb5
    repeat (first | exact Below.refl _ _ | refine bel_alloc ?_ _)⟩
theorem w64_id {x : Int} (h : -9223372036854775808 ≤ x ∧ x ≤ 9223372036854775807) : wrap64 x = x := by unfold wrap64; omega
theorem w64_back (a y : Int) (h : -9223372036854775808 ≤ a ∧ a ≤ 9223372036854775807) : wrap64 (wrap64 (a + y) + wrap64 (-y)) = a := by unfold wrap64; omega
theorem w64_back' (b y : Int) (h : -9223372036854775808 ≤ b ∧ b ≤ 9223372036854775807) : wrap64 (wrap64 (b - y) - wrap64 (-y)) = b := by unfold wrap64; omega
theorem w64_sum (a b y : Int) : wrap64 (wrap64 (a + y) + wrap64 (b - y)) = wrap64 (a + b) := by unfold wrap64; omega
theorem ShiftStands_any (A B U D X S H y : Int) (w : World) :
    Calls Try.prog 4 #[boxV A B, arV U D X S H, .int .i64 y] w fun e w' => e = .returned (.bool true) ∧ Below w.heap.size w w' := by
  cases hR : allU [0, A, B, U, D, X, S, H] with
  | false =>
    exact stands_bad A B U D X S H y (Lib.hid (fun W => shift_no 3 0 A B U D X S H false (by omega) (.inr ⟨by omega, rfl⟩) (Lib.hid hR) W)) (Lib.hid (fun W => shift_no 4 0 A B U D X S H false (by omega) (.inr ⟨by omega, rfl⟩) (Lib.hid hR) W)) (Lib.hid (fun W => shift_no 5 0 A B U D X S H false (by omega) (.inr ⟨by omega, rfl⟩) (Lib.hid hR) W)) w
  | true =>
    have sm := small8 hR
    obtain ⟨_, hA, hB, hU, hD, hX, _, _⟩ := sm
    have H3 : cS 3 0 A B U D X S H (U - A) 0 0 := fun W => by
      have := shift_yes 3 0 A B U D X S H (by omega) (Lib.hid hR) W
      exact this
    have H4 : cS 4 0 A B U D X S H (B - D) 0 0 := fun W => by
      have := shift_yes 4 0 A B U D X S H (by omega) (Lib.hid hR) W
      exact this
    have H5 : cS 5 0 A B U D X S H ((X - A + B) / 2) 0 0 := fun W => by
      have := shift_yes 5 0 A B U D X S H (by omega) (Lib.hid hR) W
      exact this
    have M1 : cMv A B (U - A) U (wrap64 (B - (U - A))) := fun W => by
      have := moved_any A B (U - A) W
      rwa [w64_id (x := A + (U - A)) (by omega), show A + (U - A) = U by omega] at this
    have M2 : cMv A B (B - D) (wrap64 (A + (B - D))) D := fun W => by
      have := moved_any A B (B - D) W
      rwa [w64_id (x := B - (B - D)) (by omega), show B - (B - D) = D by omega] at this
    have M3 : cMv A B ((X - A + B) / 2) (A + (X - A + B) / 2) (B - (X - A + B) / 2) := fun W => by
      have := moved_any A B ((X - A + B) / 2) W
      rwa [w64_id (x := A + (X - A + B) / 2) (by omega), w64_id (x := B - (X - A + B) / 2) (by omega)] at this
    have M5 : cMv (wrap64 (A + y)) (wrap64 (B - y)) (wrap64 (-y)) A B := fun W => by
      have := moved_any (wrap64 (A + y)) (wrap64 (B - y)) (wrap64 (-y)) W
      rwa [w64_back A y (by omega), w64_back' B y (by omega)] at this
    refine stands_good A B U D X S H y (U - A) (B - D) ((X - A + B) / 2) U (wrap64 (B - (U - A))) (wrap64 (A + (B - D))) D (A + (X - A + B) / 2) (B - (X - A + B) / 2) (wrap64 (A + y)) (wrap64 (B - y)) (wrap64 (-y))
      (Lib.hid H3) (Lib.hid H4) (Lib.hid H5) (Lib.hid M1) (Lib.hid M2) (Lib.hid M3) (Lib.hid (moved_any A B y)) (Lib.hid M5) rfl rfl rfl
      (A + (X - A + B) / 2 - (B - (X - A + B) / 2)) (X - (A + (X - A + B) / 2 - (B - (X - A + B) / 2))) (wrap64 (A + B)) (w64_id (by omega)) (w64_id (by omega)) (by omega) (w64_sum A B y) rfl w
end Go.Proofs.Ytdjbcbdgcejcmaa.Unit

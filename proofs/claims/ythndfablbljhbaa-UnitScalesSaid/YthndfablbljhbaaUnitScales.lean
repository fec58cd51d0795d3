/- UnitScales, walked: it returns true, for every three numbers. No condition. -/
import Derived.Test.YthndfablbljhbaaUnitParts
import Derived.Test.YthndfablbljhbaaRefS
namespace Go.Proofs.Ythndfablbljhbaa.Unit
open Go.RowKit Go.Proofs.Ythndfablbljhbaa.Div
set_option linter.unusedVariables false

theorem scE_cases (n b o : Int) : scE n b o = 0 ∨ scE n b o = 2 ∨ scE n b o = 10 := by
  unfold scE
  split
  · exact .inr (.inl rfl)
  · split
    · exact .inr (.inr rfl)
    · exact .inl rfl
set_option maxHeartbeats 4000000 in
set_option maxRecDepth 100000 in
theorem scales_any (n b o : Int) (h1 : (Lit.int .i64 n).wf = true) (h2 : (Lit.int .i64 b).wf = true) (h3 : (Lit.int .i64 o).wf = true) (w : World) :
    Calls Try.prog 3 #[.int .i64 n, .int .i64 b, .int .i64 o] w fun e w' => e = .returned (.bool true) ∧ Below w.heap.size w w' := by
  obtain ⟨n0, n1⟩ := i64_wf h1
  obtain ⟨b0, b1⟩ := i64_wf h2
  obtain ⟨o0, o1⟩ := i64_wf h3
  have C1 := fun W => scale_any n b o n0 n1 b0 b1 o1 W
  have C2 := fun W => rscale_any n b o n0 n1 b0 b1 o1 W
  obtain ⟨e0, he⟩ : ∃ e, scE n b o = e := ⟨_, rfl⟩
  have hc := scE_cases n b o
  rw [he] at C1 C2 hc
  generalize scV n b o = v at C1 C2
  have H1 := Lib.hid C1
  have H2 := Lib.hid C2
  clear C1 C2 he n0 n1 b0 b1 o0 o1 h1 h2 h3
  rcases hc with rfl | rfl | rfl
  all_goals
    go_enter Try.func3, Try.ntmps3
    go_wp2_with (first
      | (go_at_call 9; ((with_reducible refine (H1.out _).mono ?_); rintro e w1 ⟨rfl, ⟨m1, rfl⟩⟩))
      | (go_at_call 10; ((with_reducible refine (H2.out _).mono ?_); rintro e w2 ⟨rfl, hb2⟩))
      | (go_at_call 11; refine (head_any _).mono ?_; rintro e w3 ⟨rfl, hb3⟩))
    go_ret
    exact ⟨rfl, bel_trans (bel_trans (bel_drewN (Below.refl _ _) _) hb2) hb3⟩
end Go.Proofs.Ythndfablbljhbaa.Unit

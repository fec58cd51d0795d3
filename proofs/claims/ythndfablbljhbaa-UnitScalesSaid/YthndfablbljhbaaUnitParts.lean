/- UnitParts, walked: it returns true, for every two numbers. No condition. -/
import Derived.Test.YthndfablbljhbaaUnitP
import Derived.DataShut
namespace Go.Proofs.Ythndfablbljhbaa.Unit
open Go.RowKit Go.Proofs.Ythndfablbljhbaa.Div
set_option linter.unusedVariables false

theorem stS_facts (x step : Int) (h : 1 ≤ step) : x < stS x step ∧ stS x step - step ≤ x ∧ stS x step % step = 0 := by
  have m0 := Int.emod_nonneg x (show step ≠ 0 by omega)
  have m1 := Int.emod_lt_of_pos x (show 0 < step by omega)
  refine ⟨by unfold stS; omega, by unfold stS; omega, ?_⟩
  unfold stS
  rw [Int.add_emod_right, Int.sub_emod, Int.emod_emod_of_dvd _ (Int.dvd_refl step), Int.sub_self, Int.zero_emod]
theorem stS_next (x step : Int) (h : 1 ≤ step) : stS (stS x step) step = stS x step + step := by
  have := (stS_facts x step h).2.2
  rw [stS, this]
  omega
theorem fits_cases (S : Int) : (fitsV S = S ∧ fitsE S = 0 ∧ -4611686018427387904 ≤ S ∧ S ≤ 4611686018427387904) ∨ (fitsV S = 0 ∧ fitsE S = 10) := by
  rcases Bool.eq_false_or_eq_true (okS S) with h | h
  · left
    refine ⟨by simp [fitsV, h], by simp [fitsE, h], ?_⟩
    simpa [okS] using h
  · right
    exact ⟨by simp [fitsV, h], by simp [fitsE, h]⟩

section
variable (n step h k s e : Int)
abbrev cH (n step h k : Int) : Prop := ∀ W, Calls Try.prog 12 #[.int .i64 n] W fun x w' => x = .returned (.tuple #[.int .i64 h, .int .i64 k]) ∧ Drawn W w'
abbrev cR (n step h k : Int) : Prop := ∀ W, Calls Try.prog 13 #[.int .i64 n] W fun x w' => x = .returned (.tuple #[.int .i64 h, .int .i64 k]) ∧ Drawn W w'
abbrev cS (n step s e : Int) : Prop := ∀ W, Calls Try.prog 14 #[.int .i64 n, .int .i64 step] W fun x w' => x = .returned (.tuple #[.int .i64 s, .int .i64 e]) ∧ Below W.heap.size W w'
abbrev cT (n step s e : Int) : Prop := ∀ W, Calls Try.prog 15 #[.int .i64 n, .int .i64 step] W fun x w' => x = .returned (.tuple #[.int .i64 s, .int .i64 e]) ∧ Below W.heap.size W w'

set_option maxHeartbeats 4000000 in
theorem parts_bad (e1 : e = 2 ∨ e = 10) (hk : k = h ∨ k = h + 1) (hn : h + k = n) (n0 : -9223372036854775808 ≤ n) (n1 : n ≤ 9223372036854775807) (H1 : Hid (cH n step h k)) (H2 : Hid (cR n step h k)) (H3 : Hid (cS n step 0 e)) (H4 : Hid (cT n step 0 e)) (w : World) :
    Calls Try.prog 4 #[.int .i64 n, .int .i64 step] w fun e w' => e = .returned (.bool true) ∧ Below w.heap.size w w' := by
  have q : wrap64 (h + k) = n := by rw [hn]; unfold wrap64; omega
  have b1 : -4611686018427387905 ≤ h := by omega
  have b2 : h ≤ 4611686018427387904 := by omega
  clear hn n0 n1
  rcases hk with rfl | rfl <;> rcases e1 with rfl | rfl
  all_goals
    go_enter Try.func4, Try.ntmps4
    go_wp2_with (first
      | (go_at_call 12; refine (H1.out _).mono ?_; rintro e w1 ⟨rfl, ⟨m1, rfl⟩⟩)
      | (go_at_call 13; refine (H2.out _).mono ?_; rintro e w1 ⟨rfl, ⟨m2, rfl⟩⟩)
      | (go_at_call 14; refine (H3.out _).mono ?_; rintro e w1 ⟨rfl, hb1⟩)
      | (go_at_call 15; refine (H4.out _).mono ?_; rintro e w2 ⟨rfl, hb2⟩)
      | (go_at_call 11; refine (head_any _).mono ?_; rintro e w3 ⟨rfl, hb3⟩))
    go_ret
    exact ⟨rfl, bel_trans (bel_trans (bel_trans (bel_drewN (Below.refl _ _) _) hb1) hb2) hb3⟩

set_option maxHeartbeats 4000000 in
theorem parts_good (g : Int) (t : Int) (ht : g = 10 ∧ t = 0 ∨ g = 0 ∧ t = s + step ∧ t ≤ 4611686018427387904) (t1 : 1 ≤ step) (t2 : step ≤ 9223372036854775807) (s0 : -4611686018427387904 ≤ s) (s1 : s ≤ 4611686018427387904) (f1 : n < s) (f2 : s - step ≤ n) (f3 : s.tmod step = 0)
    (hk : k = h ∨ k = h + 1) (hn : h + k = n) (n0 : -9223372036854775808 ≤ n) (n1 : n ≤ 9223372036854775807) (H1 : Hid (cH n step h k)) (H2 : Hid (cR n step h k)) (H3 : Hid (cS n step s 0)) (H4 : Hid (cT n step s 0)) (H5 : Hid (cS s step t g)) (w : World) :
    Calls Try.prog 4 #[.int .i64 n, .int .i64 step] w fun e w' => e = .returned (.bool true) ∧ Below w.heap.size w w' := by
  have q : wrap64 (h + k) = n := by rw [hn]; unfold wrap64; omega
  have b1 : -4611686018427387905 ≤ h := by omega
  have b2 : h ≤ 4611686018427387904 := by omega
  have f4 : s % step = 0 := by rw [Int.emod_eq_zero_of_dvd]; exact Int.dvd_of_tmod_eq_zero f3
  have f6 : -9223372036854775808 ≤ s - step := by
    rcases Int.lt_or_le 4611686018427387904 step with u | u
    · rcases Int.lt_or_le s 0 with v | v
      · have := Int.emod_eq_of_lt (a := s + step) (b := step) (by omega) (by omega)
        rw [Int.add_emod_right, f4] at this
        omega
      · omega
    · omega
  have q2 : wrap64 (s - step) = s - step := by unfold wrap64; omega
  have f5 : decide (s - step ≤ n) = true := decide_eq_true f2
  clear hn n0 n1 f2 f6
  rcases ht with ⟨rfl, rfl⟩ | ⟨rfl, rfl, t3⟩ <;> rcases hk with rfl | rfl
  all_goals
    go_enter Try.func4, Try.ntmps4
    go_wp2_with (first
      | (go_at_call 12; refine (H1.out _).mono ?_; rintro e w1 ⟨rfl, ⟨m1, rfl⟩⟩)
      | (go_at_call 13; refine (H2.out _).mono ?_; rintro e w1 ⟨rfl, ⟨m2, rfl⟩⟩)
      | (go_at_call 14; first | ((with_reducible refine (H3.out _).mono ?_); rintro e w1 ⟨rfl, hb1⟩) | ((with_reducible refine (H5.out _).mono ?_); rintro e w4 ⟨rfl, hb4⟩))
      | (go_at_call 15; refine (H4.out _).mono ?_; rintro e w2 ⟨rfl, hb2⟩)
      | (go_at_call 11; refine (head_any _).mono ?_; rintro e w3 ⟨rfl, hb3⟩))
    go_ret
    exact ⟨rfl, bel_trans (bel_trans (bel_trans (bel_trans (bel_drewN (Below.refl _ _) _) hb1) hb2) hb4) hb3⟩
end

theorem parts_any (n step : Int) (n0 : -9223372036854775808 ≤ n) (n1 : n ≤ 9223372036854775807) (s1 : step ≤ 9223372036854775807) (w : World) :
    Calls Try.prog 4 #[.int .i64 n, .int .i64 step] w fun e w' => e = .returned (.bool true) ∧ Below w.heap.size w w' := by
  have H1 := Lib.hid (fun W => halves_any n n0 n1 W)
  have H2 := Lib.hid (fun W => rhalves_any n n0 n1 W)
  have H3 : cS n step (stV n step) (stE n step) := fun W => stop_any n step n0 n1 s1 W
  have H4 : cT n step (stV n step) (stE n step) := fun W => rstop_any n step n0 n1 s1 W
  have hk : n - n / 2 = n / 2 ∨ n - n / 2 = n / 2 + 1 := by omega
  rcases Int.lt_or_le step 1 with h | h
  · rw [stV, stE, if_pos h, if_pos h] at H3 H4
    exact parts_bad n step _ _ _ (.inl rfl) hk (by omega) n0 n1 H1 H2 (Lib.hid H3) (Lib.hid H4) w
  · have hV : stV n step = fitsV (stS n step) := by rw [stV, if_neg (by omega)]
    have hE : stE n step = fitsE (stS n step) := by rw [stE, if_neg (by omega)]
    rcases fits_cases (stS n step) with ⟨c1, c2, c3, c4⟩ | ⟨c1, c2⟩
    · rw [hV, hE, c1, c2] at H3 H4
      obtain ⟨f1, f2, f3⟩ := stS_facts n step h
      have hN := stS_next n step h
      generalize stS n step = s at *
      have H5 : cS s step (stV s step) (stE s step) := fun W => stop_any s step (by omega) (by omega) s1 W
      have f4 : s.tmod step = 0 := Int.tmod_eq_zero_of_dvd (Int.dvd_of_emod_eq_zero f3)
      have hV2 : stV s step = fitsV (s + step) := by rw [stV, if_neg (by omega), hN]
      have hE2 : stE s step = fitsE (s + step) := by rw [stE, if_neg (by omega), hN]
      rcases fits_cases (s + step) with ⟨d1, d2, d3, d4⟩ | ⟨d1, d2⟩
      · rw [hV2, hE2, d1, d2] at H5
        exact parts_good n step _ _ s _ _ (.inr ⟨rfl, rfl, d4⟩) h s1 c3 c4 f1 f2 f4 hk (by omega) n0 n1 H1 H2 (Lib.hid H3) (Lib.hid H4) (Lib.hid H5) w
      · rw [hV2, hE2, d1, d2] at H5
        exact parts_good n step _ _ s _ _ (.inl ⟨rfl, rfl⟩) h s1 c3 c4 f1 f2 f4 hk (by omega) n0 n1 H1 H2 (Lib.hid H3) (Lib.hid H4) (Lib.hid H5) w
    · rw [hV, hE, c1, c2] at H3 H4
      exact parts_bad n step _ _ _ (.inr rfl) hk (by omega) n0 n1 H1 H2 (Lib.hid H3) (Lib.hid H4) w
theorem i64_wf {n : Int} (h : (Lit.int .i64 n).wf = true) : -9223372036854775808 ≤ n ∧ n ≤ 9223372036854775807 := (Lit.wf_int_iff .i64 n).1 h
theorem UnitParts_any (n step : Int) (h : (Lit.int .i64 n).wf = true) (g : (Lit.int .i64 step).wf = true) (w : World) :
    Calls Try.prog 4 #[.int .i64 n, .int .i64 step] w fun e w' => e = .returned (.bool true) ∧ Below w.heap.size w w' :=
  parts_any n step (i64_wf h).1 (i64_wf h).2 (i64_wf g).2 w
end Go.Proofs.Ythndfablbljhbaa.Unit

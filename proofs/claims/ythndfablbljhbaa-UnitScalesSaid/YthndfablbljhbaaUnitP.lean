/- The reference's Stop; May both; the head of the laws of chapter 1. No condition. -/
import Derived.Test.YthndfablbljhbaaRefU
namespace Go.Proofs.Ythndfablbljhbaa.Unit
open Go.RowKit Go.Proofs.Ythndfablbljhbaa.Div
set_option linter.unusedVariables false

set_option maxHeartbeats 1000000 in
theorem rstop_any (x step : Int) (x0 : -9223372036854775808 ≤ x) (x1 : x ≤ 9223372036854775807) (s1 : step ≤ 9223372036854775807) (w : World) :
    Calls Try.prog 15 #[.int .i64 x, .int .i64 step] w fun e w' => e = .returned (.tuple #[.int .i64 (stV x step), .int .i64 (stE x step)]) ∧ Below w.heap.size w w' := by
  rcases Int.lt_or_le step 1 with h | h
  · rw [stV, stE, if_pos h, if_pos h]
    clear x0 x1 s1
    go_enter Try.func15, Try.ntmps15
    go_wp2
    go_ret2
    exact ⟨rfl, Below.refl _ _⟩
  · rw [stV, stE, if_neg (by omega), if_neg (by omega)]
    obtain ⟨v, hv⟩ : ∃ v, fitsV (stS x step) = v := ⟨_, rfl⟩
    obtain ⟨e0, he⟩ : ∃ v, fitsE (stS x step) = v := ⟨_, rfl⟩
    rw [hv, he]
    have m0 := Int.emod_nonneg x (show step ≠ 0 by omega)
    have m1 := Int.emod_lt_of_pos x (show 0 < step by omega)
    rcases Int.lt_or_le x 0 with g | g
    · obtain ⟨t, ht⟩ : ∃ t, x.tmod step = t := ⟨_, rfl⟩
      have ht0 : -step < t ∧ t ≤ 0 := by
        have a1 := Int.lt_tmod_of_pos x (show 0 < step by omega)
        have a2 := Int.tmod_nonneg (a := -x) step (by omega)
        rw [Int.neg_tmod] at a2
        omega
      have hte : x % step = if t < 0 then t + step else t := by
        have a3 := emod_of_tmod x step t ht ht0
        exact a3
      rcases Int.lt_or_le t 0 with k | k
      · rw [if_pos k] at hte
        obtain ⟨u, hu⟩ : ∃ u, t + step = u := ⟨_, rfl⟩
        rw [hu] at hte
        have G := Lib.hid (good3 (a := x) (b := -u) (c := step) ⟨x0, x1⟩ ⟨by omega, by omega⟩ ⟨by omega, s1⟩)
        have F := Lib.hid (show fitsV (sumI [x, -u, step]) = v ∧ fitsE (sumI [x, -u, step]) = e0 by
          rw [← hv, ← he, show sumI [x, -u, step] = stS x step by simp only [sumI, List.foldr_cons, List.foldr_nil, stS, hte]; omega]
          exact ⟨rfl, rfl⟩)
        obtain ⟨t1, t2⟩ := ht0
        have q : wrap64 (-u) = -u := by unfold wrap64; omega
        have q3 : wrap64 u = u := by unfold wrap64; omega
        have X := Lib.hid (And.intro x0 (And.intro x1 s1))
        clear x0 x1 s1 hte hv he m0 m1
        go_enter Try.func15, Try.ntmps15
        go_wp2_with (go_at_call 17; refine (rsum_any _ 3 3 [x, -u, step] _ rfl ?_ ?_ (by omega)).mono ?_; exact reads_new _ _ _ _ _ rfl rfl; exact G.out; rintro e w' ⟨rfl, ⟨m, rfl⟩⟩; rw [F.out.1, F.out.2])
        go_ret2
        exact ⟨rfl, bel_drewN (bel_alloc (Below.refl _ _) _) _⟩
      · obtain rfl : t = 0 := by omega
        rw [if_neg (by omega)] at hte
        have G := Lib.hid (good3 (a := x) (b := 0) (c := step) ⟨x0, x1⟩ ⟨by omega, by omega⟩ ⟨by omega, s1⟩)
        have F := Lib.hid (show fitsV (sumI [x, 0, step]) = v ∧ fitsE (sumI [x, 0, step]) = e0 by
          rw [← hv, ← he, show sumI [x, 0, step] = stS x step by simp only [sumI, List.foldr_cons, List.foldr_nil, stS, hte]; omega]
          exact ⟨rfl, rfl⟩)
        have X := Lib.hid (And.intro x0 (And.intro x1 s1))
        clear x0 x1 s1 hte hv he m0 m1 ht0
        go_enter Try.func15, Try.ntmps15
        go_wp2_with (go_at_call 17; refine (rsum_any _ 3 3 [x, 0, step] _ rfl ?_ ?_ (by omega)).mono ?_; exact reads_new _ _ _ _ _ rfl rfl; exact G.out; rintro e w' ⟨rfl, ⟨m, rfl⟩⟩; rw [F.out.1, F.out.2])
        go_ret2
        exact ⟨rfl, bel_drewN (bel_alloc (Below.refl _ _) _) _⟩
    · obtain ⟨t, ht⟩ : ∃ t, x % step = t := ⟨_, rfl⟩
      rw [ht] at m0 m1
      have G := Lib.hid (good3 (a := x) (b := -t) (c := step) ⟨x0, x1⟩ ⟨by omega, by omega⟩ ⟨by omega, s1⟩)
      have F := Lib.hid (show fitsV (sumI [x, -t, step]) = v ∧ fitsE (sumI [x, -t, step]) = e0 by
        rw [← hv, ← he, show sumI [x, -t, step] = stS x step by simp only [sumI, List.foldr_cons, List.foldr_nil, stS, ht]; omega]
        exact ⟨rfl, rfl⟩)
      have q : wrap64 (-t) = -t := by unfold wrap64; omega
      have q2 : wrap64 t = t := by unfold wrap64; omega
      have X := Lib.hid (And.intro x0 (And.intro x1 s1))
      clear x0 x1 s1 hv he
      go_enter Try.func15, Try.ntmps15
      go_wp2_with (go_at_call 17; refine (rsum_any _ 3 3 [x, -t, step] _ rfl ?_ ?_ (by omega)).mono ?_; exact reads_new _ _ _ _ _ rfl rfl; exact G.out; rintro e w' ⟨rfl, ⟨m, rfl⟩⟩; rw [F.out.1, F.out.2])
      go_ret2
      exact ⟨rfl, bel_drewN (bel_alloc (Below.refl _ _) _) _⟩
def mayU (n : Int) : Bool := decide (-1073741824 ≤ n) && decide (n ≤ 1073741824)
def mayW (n : Int) : Bool := decide (0 ≤ n) && decide (n ≤ 1099511627776)

theorem mayU_t {n : Int} (h1 : -1073741824 ≤ n) (h2 : n ≤ 1073741824) : mayU n = true := by simp [mayU, h1, h2]
theorem mayU_f1 {n : Int} (h1 : n < -1073741824) : mayU n = false := by simp [mayU]; omega
theorem mayU_f2 {n : Int} (h1 : 1073741824 < n) : mayU n = false := by simp [mayU]; omega
theorem mayW_t {n : Int} (h1 : 0 ≤ n) (h2 : n ≤ 1099511627776) : mayW n = true := by simp [mayW, h1, h2]
theorem mayW_parts {n : Int} (h : mayW n = true) : 0 ≤ n ∧ n ≤ 1099511627776 := by simp [mayW] at h; omega
theorem mayW_f1 {n : Int} (h1 : n < 0) : mayW n = false := by simp [mayW]; omega
theorem mayW_f2 {n : Int} (h1 : 1099511627776 < n) : mayW n = false := by simp [mayW]; omega

theorem unitMay_any (n : Int) (w : World) : Calls Try.prog 18 #[.int .i64 n] w fun e w' => e = .returned (.bool (mayU n)) ∧ w = w' := by
  rcases Int.lt_or_le n (-1073741824) with h1 | h1
  · go_enter Try.func18, Try.ntmps18
    go_wp2
    go_ret
    exact ⟨ret_bool (by rw [mayU_f1 h1]), rfl⟩
  · rcases Int.lt_or_le (1073741824) n with h2 | h2
    · go_enter Try.func18, Try.ntmps18
      go_wp2
      go_ret
      exact ⟨ret_bool (by rw [mayU_f2 h2]; first | done | (simp; done) | (simp; omega)), rfl⟩
    · go_enter Try.func18, Try.ntmps18
      go_wp2
      go_ret
      exact ⟨ret_bool (by rw [mayU_t h1 h2]; first | done | (simp; done) | (simp; omega)), rfl⟩

theorem refMay_any (n : Int) (w : World) : Calls Try.prog 19 #[.int .i64 n] w fun e w' => e = .returned (.bool (mayU n)) ∧ w = w' := by
  rcases Int.lt_or_le n (-1073741824) with h1 | h1
  · go_enter Try.func19, Try.ntmps19
    go_wp2
    go_ret
    exact ⟨ret_bool (by rw [mayU_f1 h1]), rfl⟩
  · rcases Int.lt_or_le (1073741824) n with h2 | h2
    · go_enter Try.func19, Try.ntmps19
      go_wp2
      go_ret
      exact ⟨ret_bool (by rw [mayU_f2 h2]; first | done | (simp; done) | (simp; omega)), rfl⟩
    · go_enter Try.func19, Try.ntmps19
      go_wp2
      go_ret
      exact ⟨ret_bool (by rw [mayU_t h1 h2]; first | done | (simp; done) | (simp; omega)), rfl⟩


theorem reads_at (w : World) (t : TypeId) (cs : Array Value) (n g : Nat) (xs : List Value) (h : cs.toList = xs) (hn : xs.length = n) (hg : w.heap.size = g) :
    Reads (w.alloc (.cells cs t)) (w.alloc (.cells cs t)).heap.size 1 (some ⟨g, 0, none⟩) n xs := by
  subst hg
  exact reads_new w t cs n xs h hn
set_option maxHeartbeats 4000000 in
set_option maxRecDepth 100000 in
theorem head_any (w : World) : Calls Try.prog 11 #[] w fun e w' => e = .returned (.bool true) ∧ Below w.heap.size w w' := by
  have A1 := Lib.hid (show fitsV (sumI [1, -3]) = -2 ∧ fitsE (sumI [1, -3]) = 0 by decide)
  have A2 := Lib.hid (show fitsV (sumI [4611686018427387904, 1]) = 0 ∧ fitsE (sumI [4611686018427387904, 1]) = 10 by decide)
  have A3 := Lib.hid (show fitsV (sumI [9223372036854775807, -4611686018427387904]) = 4611686018427387903 ∧ fitsE (sumI [9223372036854775807, -4611686018427387904]) = 0 by decide)
  have G1 := Lib.hid (show goodL [1, -3] by simp [goodL])
  have G2 := Lib.hid (show goodL [4611686018427387904, 1] by simp [goodL])
  have G3 := Lib.hid (show goodL [9223372036854775807, -4611686018427387904] by simp [goodL])
  have S1 := Lib.hid (show scV 7 1 2 = 4 ∧ scE 7 1 2 = 0 by decide)
  have S2 := Lib.hid (show scV (-7) 1 2 = -3 ∧ scE (-7) 1 2 = 0 by decide)
  have S3 := Lib.hid (show scV 1 1 0 = 0 ∧ scE 1 1 0 = 2 by decide)
  have S4 := Lib.hid (show scV 4611686018427387904 4 2 = 0 ∧ scE 4611686018427387904 4 2 = 10 by decide)
  have T1 := Lib.hid (show stV 7 8 = 8 ∧ stE 7 8 = 0 by decide)
  have T2 := Lib.hid (show stV 8 8 = 16 ∧ stE 8 8 = 0 by decide)
  have b0 := Below.refl w.heap.size w
  go_enter Try.func11, Try.ntmps11
  go_wp2_with (first
    | (go_at_call 16; first
      | ((with_reducible refine (sum_any _ 2 2 [1, -3] _ rfl ?_ G1.out (by omega)).mono ?_); exact reads_at _ _ _ _ _ _ rfl rfl (by first | rfl | (simp; done)); rintro e w1 ⟨rfl, ⟨m1, rfl⟩⟩; rw [A1.out.1, A1.out.2])
      | ((with_reducible refine (sum_any _ 2 2 [4611686018427387904, 1] _ rfl ?_ G2.out (by omega)).mono ?_); exact reads_at _ _ _ _ _ _ rfl rfl (by first | rfl | (simp; done)); rintro e w1 ⟨rfl, ⟨m2, rfl⟩⟩; rw [A2.out.1, A2.out.2])
      | ((with_reducible refine (sum_any _ 2 2 [9223372036854775807, -4611686018427387904] _ rfl ?_ G3.out (by omega)).mono ?_); exact reads_at _ _ _ _ _ _ rfl rfl (by first | rfl | (simp; done)); rintro e w1 ⟨rfl, ⟨m3, rfl⟩⟩; rw [A3.out.1, A3.out.2]))
    | (go_at_call 9; first
      | ((with_reducible refine (scale_any 7 1 2 (by omega) (by omega) (by omega) (by omega) (by omega) _).mono ?_); rintro e w1 ⟨rfl, ⟨m4, rfl⟩⟩; rw [S1.out.1, S1.out.2])
      | ((with_reducible refine (scale_any (-7) 1 2 (by omega) (by omega) (by omega) (by omega) (by omega) _).mono ?_); rintro e w1 ⟨rfl, ⟨m5, rfl⟩⟩; rw [S2.out.1, S2.out.2])
      | ((with_reducible refine (scale_any 1 1 0 (by omega) (by omega) (by omega) (by omega) (by omega) _).mono ?_); rintro e w1 ⟨rfl, ⟨m6, rfl⟩⟩; rw [S3.out.1, S3.out.2])
      | ((with_reducible refine (scale_any 4611686018427387904 4 2 (by omega) (by omega) (by omega) (by omega) (by omega) _).mono ?_); rintro e w1 ⟨rfl, ⟨m7, rfl⟩⟩; rw [S4.out.1, S4.out.2]))
    | (go_at_call 12; ((with_reducible refine (halves_any (-7) (by omega) (by omega) _).mono ?_); rintro e w1 ⟨rfl, ⟨m8, rfl⟩⟩))
    | (go_at_call 14; first
      | ((with_reducible refine (stop_any 7 8 (by omega) (by omega) (by omega) _).mono ?_); rintro e w1 ⟨rfl, hb1⟩; rw [T1.out.1, T1.out.2])
      | ((with_reducible refine (stop_any 8 8 (by omega) (by omega) (by omega) _).mono ?_); rintro e w2 ⟨rfl, hb2⟩; rw [T2.out.1, T2.out.2])))
  go_ret
  exact ⟨rfl, by
    refine bel_trans (bel_trans ?_ hb1) hb2
    repeat (first | exact Below.refl _ _ | refine bel_drewN ?_ _ | refine bel_alloc ?_ _)⟩
end Go.Proofs.Ythndfablbljhbaa.Unit

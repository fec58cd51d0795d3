/- The reference of chapter 1: sums, halves, stops, walked. No condition but a bound on how many numbers. -/
import Derived.Test.YthndfablbljhbaaSum
namespace Go.Proofs.Ythndfablbljhbaa.Unit
open Go.RowKit Go.Proofs.Ythndfablbljhbaa.Div
set_option linter.unusedVariables false

theorem rfits_any (n : Int) (w : World) : Calls Try.prog 30 #[.int .i64 n] w fun e w' => e = .returned (.bool (okS n)) ∧ w = w' := by
  rcases Int.lt_or_le n (-4611686018427387904) with h | h
  · have E := Lib.hid (show okS n = false by simp [okS]; omega)
    go_enter Try.func30, Try.ntmps30
    go_wp2
    go_ret
    exact ⟨ret_bool E.out.symm, rfl⟩
  · rcases Int.lt_or_le 4611686018427387904 n with g | g
    · have E := Lib.hid (show okS n = false by simp [okS]; omega)
      go_enter Try.func30, Try.ntmps30
      go_wp2
      go_ret
      exact ⟨ret_bool (by rw [E.out]; first | done | rfl | (simp; done) | (simp; omega)), rfl⟩
    · have E := Lib.hid (show okS n = true by simp [okS]; omega)
      go_enter Try.func30, Try.ntmps30
      go_wp2
      go_ret
      exact ⟨ret_bool (by rw [E.out]; first | done | rfl | (simp; done) | (simp; omega)), rfl⟩

set_option maxHeartbeats 1000000 in
theorem rhalves_any (n : Int) (h0 : -9223372036854775808 ≤ n) (h1 : n ≤ 9223372036854775807) (w : World) : Calls Try.prog 13 #[.int .i64 n] w fun e w' => e = .returned (.tuple #[.int .i64 (n / 2), .int .i64 (n - n / 2)]) ∧ Drawn w w' := by
  obtain ⟨a, ha⟩ : ∃ a, n.tdiv 2 = a := ⟨_, rfl⟩
  obtain ⟨b, hb⟩ : ∃ b, n.tmod 2 = b := ⟨_, rfl⟩
  obtain ⟨c, hc⟩ : ∃ c, n / 2 = c := ⟨_, rfl⟩
  have hab := Int.tmod_add_mul_tdiv n 2
  rw [ha, hb] at hab
  have hb1 := Int.lt_tmod_of_pos n (show (0 : Int) < 2 by omega)
  have hb2 := Int.tmod_lt_of_pos n (show (0 : Int) < 2 by omega)
  rw [hb] at hb1 hb2
  rw [hc]
  have q1 : wrap64 a = a := by unfold wrap64; omega
  have q2 : wrap64 (a - 1) = a - 1 := by unfold wrap64; omega
  have q3 : wrap64 (n - c) = n - c := by unfold wrap64; omega
  have hs : b < 0 ∧ a - 1 = c ∨ 0 ≤ b ∧ a = c := by
    rcases Int.lt_or_le n 0 with g | g
    · have := Int.tmod_nonneg (a := -n) 2 (by omega)
      rw [Int.neg_tmod, hb] at this
      omega
    · have := Int.tmod_nonneg (a := n) 2 g
      rw [hb] at this
      omega
  rcases hs with ⟨g, rfl⟩ | ⟨g, rfl⟩
  all_goals
    have Q1 := Lib.hid q1
    have Q2 := Lib.hid q2
    have Q3 := Lib.hid q3
    clear h0 h1 hab hb1 hb2 hc q1 q2 q3
    go_enter Try.func13, Try.ntmps13
    go_wp2
    go_ret2
    refine ⟨ret_int2 ?_ ?_, Drawn.refl _⟩
    all_goals first | rfl | (simp only [Q1.out, Q2.out, Q3.out]; done) | (simp only [Q1.out, Q2.out, Q3.out]; rfl) | trace_state

/-! ### the reference's sum -/
structure Six (S a b : Int) (k : Nat) : Prop where
  eq : a * 1000000 + b = S
  a0 : -9223372036855 * (k : Int) ≤ a
  a1 : a ≤ 9223372036855 * (k : Int)
  b0 : -999999 * (k : Int) ≤ b
  b1 : b ≤ 999999 * (k : Int)
theorem six_step {S a b : Int} {k : Nat} (H : Six S a b k) (x : Int) (x0 : -9223372036854775808 ≤ x) (x1 : x ≤ 9223372036854775807) : Six (S + x) (a + x.tdiv 1000000) (b + x.tmod 1000000) (k + 1) ∧ -9223372036855 ≤ x.tdiv 1000000 ∧ x.tdiv 1000000 ≤ 9223372036855 ∧ -999999 ≤ x.tmod 1000000 ∧ x.tmod 1000000 ≤ 999999 := by
  have e := Int.tmod_add_mul_tdiv x 1000000
  have b1 := Int.lt_tmod_of_pos x (show (0 : Int) < 1000000 by omega)
  have b2 := Int.tmod_lt_of_pos x (show (0 : Int) < 1000000 by omega)
  generalize x.tdiv 1000000 = p at *
  generalize x.tmod 1000000 = q at *
  have := H.eq
  have := H.a0
  have := H.a1
  have := H.b0
  have := H.b1
  exact ⟨⟨by omega, by omega, by omega, by omega, by omega⟩, by omega, by omega, by omega, by omega⟩
set_option maxHeartbeats 2000000 in
theorem rsum_any (A : Option Addr) (n c : Nat) (xs : List Int) (w : World) (hl : xs.length = n) (hr : Reads w w.heap.size 1 A n (xs.map (Value.int .i64))) (hg : goodL xs) (hn : n ≤ 1000) :
    Calls Try.prog 17 #[.slice A n c] w fun e w' => e = .returned (.tuple #[.int .i64 (fitsV (sumI xs)), .int .i64 (fitsE (sumI xs))]) ∧ Drawn w w' := by
  have HL := Lib.hid hl
  have HR := Lib.hid hr
  have HG := Lib.hid hg
  clear hl hr hg
  go_enter Try.func17, Try.ntmps17
  go_wp2
  go_loopw [4, 5, 6] (fun hv lv i wr => ∃ (a b : Int) (k : Nat), hv = .int .i64 a ∧ lv = .int .i64 b ∧ i = .int .i64 k ∧ k ≤ n ∧ Hid (Six (sumI (xs.take k)) a b k) ∧ Drawn w wr) (fun hv lv i wr => n - (intOf i).toNat)
  case atStart => exact ⟨0, 0, 0, rfl, rfl, rfl, by omega, ⟨by simp [sumI], by omega, by omega, by omega, by omega⟩, Drawn.refl _⟩
  case round =>
    obtain ⟨a, b, k, rfl, rfl, rfl, hk, HS, ⟨m, rfl⟩⟩ := hrel
    have ga0 := HS.out.a0
    have ga1 := HS.out.a1
    have gb0 := HS.out.b0
    have gb1 := HS.out.b1
    by_cases hlt : k < n
    · obtain ⟨ad, v, rfl, _, hu, hc0⟩ := HR.out.at_ hlt
      obtain rfl : v = .int .i64 (xs[k]?.getD 0) := by
        rw [List.getElem?_map, List.getElem?_eq_getElem (by rw [HL.out]; omega)] at hu
        rw [List.getElem?_eq_getElem (by rw [HL.out]; omega)]
        simpa using hu.symm
      have ST := Lib.hid (sumI_take xs k (by rw [HL.out]; exact hlt))
      obtain ⟨x0, x1⟩ := goodL_at HG.out k
      generalize xs[k]?.getD 0 = x at hc0 ST x0 x1
      obtain ⟨S2, p0, p1, q0, q1⟩ := six_step HS.out x x0 x1
      have HS2 := Lib.hid S2
      generalize hp : x.tdiv 1000000 = p at *
      generalize hq : x.tmod 1000000 = q at *
      clear hu S2 x0 x1
      go_wp2
      exact ⟨⟨a + p, b + q, k + 1, by go_num, by go_num, by go_num, by omega, by (show Six _ _ _ _); rw [ST.out]; exact HS2.out, ⟨⟨_, rfl⟩⟩⟩, by simp [intOf]; omega⟩
    · obtain rfl : k = n := by omega
      have hT := HS.out
      rw [List.take_of_length_le (by rw [HL.out]; omega)] at hT
      obtain ⟨t, ht⟩ : ∃ t, b.tdiv 1000000 = t := ⟨_, rfl⟩
      obtain ⟨r, hr⟩ : ∃ r, b.tmod 1000000 = r := ⟨_, rfl⟩
      have hbr := Int.tmod_add_mul_tdiv b 1000000
      rw [ht, hr] at hbr
      have r1 := Int.lt_tmod_of_pos b (show (0 : Int) < 1000000 by omega)
      have r2 := Int.tmod_lt_of_pos b (show (0 : Int) < 1000000 by omega)
      rw [hr] at r1 r2
      have hTe := hT.eq
      have k0 : (k : Int) ≤ 1000 := by omega
      have t0 : -1000 ≤ t := by omega
      have t1 : t ≤ 1000 := by omega
      obtain ⟨S, hS⟩ : ∃ S, sumI xs = S := ⟨_, rfl⟩
      rw [hS] at hTe
      have SS := Lib.hid hS
      clear hS
      rcases (show 4611686018428 < a + t ∨ (a + t ≤ 4611686018428 ∧ a + t < -4611686018428) ∨ (a + t ≤ 4611686018428 ∧ -4611686018428 ≤ a + t) by omega) with h | ⟨h1, h2⟩ | ⟨h1, h2⟩
      · have E := Lib.hid (show fitsV S = 0 ∧ fitsE S = 10 by simp [fitsV, fitsE, okS]; omega)
        clear hT HS hTe hbr
        go_wp2
        go_ret2
        exact ⟨ret_int2 (by rw [SS.out]; exact E.out.1.symm) (by rw [SS.out]; exact E.out.2.symm), ⟨⟨_, rfl⟩⟩⟩
      · have E := Lib.hid (show fitsV S = 0 ∧ fitsE S = 10 by simp [fitsV, fitsE, okS]; omega)
        clear hT HS hTe hbr
        go_wp2
        go_ret2
        exact ⟨ret_int2 (by rw [SS.out]; exact E.out.1.symm) (by rw [SS.out]; exact E.out.2.symm), ⟨⟨_, rfl⟩⟩⟩
      · have hn2 : (a + t) * 1000000 + r = S := by omega
        have HN := Lib.hid hn2
        by_cases hok : okS S = true
        · have E := Lib.hid (show fitsV S = S ∧ fitsE S = 0 by simp [fitsV, fitsE, hok])
          have HO := Lib.hid hok
          clear hT HS hTe hbr hn2 hok
          go_wp2_with (go_at_call 30; refine (rfits_any _ _).mono ?_; rintro e w' ⟨rfl, rfl⟩; rw [HN.out, HO.out])
          go_ret2
          exact ⟨ret_int2 (by rw [SS.out, E.out.1]; first | done | rfl | exact HN.out) (by rw [SS.out, E.out.2]), ⟨⟨_, rfl⟩⟩⟩
        · have hok' : okS S = false := by simpa using hok
          have E := Lib.hid (show fitsV S = 0 ∧ fitsE S = 10 by simp [fitsV, fitsE, hok'])
          have HO := Lib.hid hok'
          clear hT HS hTe hbr hn2 hok hok'
          go_wp2_with (go_at_call 30; refine (rfits_any _ _).mono ?_; rintro e w' ⟨rfl, rfl⟩; rw [HN.out, HO.out])
          go_ret2
          exact ⟨ret_int2 (by rw [SS.out]; exact E.out.1.symm) (by rw [SS.out]; exact E.out.2.symm), ⟨⟨_, rfl⟩⟩⟩
end Go.Proofs.Ythndfablbljhbaa.Unit

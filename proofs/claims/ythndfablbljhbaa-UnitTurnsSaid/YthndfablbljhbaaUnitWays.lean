/- UnitWays, walked: it returns true, for every input. No condition. -/
import Derived.Test.YthndfablbljhbaaUnitParts
namespace Go.Proofs.Ythndfablbljhbaa.Unit
open Go.RowKit Go.Proofs.Ythndfablbljhbaa.Div
set_option linter.unusedVariables false

set_option maxHeartbeats 4000000 in
theorem ways_out (x step many : Int) (h : (step < 1 ∨ (1 ≤ step ∧ 1099511627776 < step)) ∨ (1 ≤ step ∧ step ≤ 1099511627776 ∧ (1125899906842624 < x ∨ (x ≤ 1125899906842624 ∧ x < -1125899906842624)))) (w : World) :
    Calls Try.prog 5 #[.int .i64 x, .int .i64 step, .int .u8 many] w fun e w' => e = .returned (.bool true) ∧ Below w.heap.size w w' := by
  rcases h with (h | ⟨h1, h2⟩) | ⟨h1, h2, (h3 | ⟨h3, h4⟩)⟩
  all_goals
    go_enter Try.func5, Try.ntmps5
    go_wp2_with (go_at_call 11; refine (head_any _).mono ?_; rintro e w3 ⟨rfl, hb3⟩)
    go_ret
    exact ⟨rfl, hb3⟩

theorem fits_in {S : Int} (h1 : -4611686018427387904 ≤ S) (h2 : S ≤ 4611686018427387904) : fitsV S = S ∧ fitsE S = 0 := by
  have : okS S = true := by simp [okS, h1, h2]
  simp [fitsV, fitsE, this]
theorem stS_of (a step : Int) (h : 1 ≤ step) (m : a % step = 0) : stS a step = a + step := by
  rw [stS, m]; omega
theorem stS_pred (a step : Int) (h : 1 ≤ step) (m : a % step = 0) : stS (a - 1) step = a := by
  have h1 := stS_facts (a - 1) step h
  have h2 : (a - 1) % step = step - 1 := by
    have e := Int.emod_add_mul_ediv a step
    rw [m] at e
    rw [show a - 1 = (step - 1) + step * (a / step - 1) by rw [Int.mul_sub, Int.mul_one]; omega, Int.add_mul_emod_self_left]
    exact Int.emod_eq_of_lt (by omega) (by omega)
  rw [stS, h2]
  omega
set_option maxHeartbeats 4000000 in
theorem ways_in (x step : Int) (many : Nat) (t1 : 1 ≤ step) (t2 : step ≤ 1099511627776) (x1 : x ≤ 1125899906842624) (x0 : -1125899906842624 ≤ x) (m1 : (many : Int) ≤ 255) (w : World) :
    Calls Try.prog 5 #[.int .i64 x, .int .i64 step, .int .u8 many] w fun e w' => e = .returned (.bool true) ∧ Below w.heap.size w w' := by
  have sV : ∀ y, -1125899906842625 ≤ y → y ≤ 1346902162505728 → stV y step = stS y step ∧ stE y step = 0 := fun y y0 y1 => by
    have e1 := (stS_facts y step t1)
    rw [stV, stE, if_neg (by omega), if_neg (by omega)]
    exact fits_in (by omega) (by omega)
  have hS : ∀ y, -1125899906842625 ≤ y → y ≤ 1346902162505728 → cS y step (stS y step) 0 := fun y y0 y1 W => by
    have := stop_any y step (by omega) (by omega) (by omega) W
    rw [(sV y y0 y1).1, (sV y y0 y1).2] at this
    exact this
  obtain ⟨f1, f2, f3⟩ := stS_facts x step t1
  have hN := stS_next x step t1
  have h1 := hS x (by omega) (by omega)
  generalize stS x step = s at *
  obtain ⟨b, hb⟩ : ∃ b, many % 200 = b := ⟨_, rfl⟩
  have b1 : b ≤ 199 := by omega
  have q1 : (many : Int) % 200 = (b : Int) := by omega
  obtain ⟨p, hp⟩ : ∃ p, (b : Int) * step = p := ⟨_, rfl⟩
  have p1 : 0 ≤ p := by rw [← hp]; exact Int.mul_nonneg (by omega) (by omega)
  have p2 : p ≤ 218802813927424 := by
    have := Int.mul_le_mul (show (b : Int) ≤ 199 by omega) t2 (by omega) (by omega)
    omega
  have HP := Lib.hid hp
  have HS := Lib.hid hS
  have HH := Lib.hid h1
  have F := Lib.hid (And.intro f1 (And.intro f2 f3))
  have S0 : -1125899906842624 ≤ s := by omega
  have S1 : s ≤ 1126999418470400 := by omega
  have MB := Lib.hid hb
  clear hS h1 f1 f2 f3 hN sV hb
  go_enter Try.func5, Try.ntmps5
  go_wp2_with (go_at_call 14; ((with_reducible refine (HH.out _).mono ?_); rintro e w1 ⟨rfl, hb1⟩))
  go_loopw [7, 10] (fun av i wr => ∃ (a : Int) (k : Nat), av = .int .i64 a ∧ i = .int .i64 k ∧ k ≤ b ∧ Hid (a = s + (k : Int) * step) ∧ s ≤ a ∧ a ≤ s + 218802813927424 ∧ Below w.heap.size w wr) (fun av i wr => b - (intOf i).toNat)
  case atStart => exact ⟨s, 0, rfl, rfl, by omega, by first | exact Lib.hid trivial | exact Lib.hid (by simp), by omega, by omega, hb1⟩
  case round =>
    obtain ⟨a, k, rfl, rfl, hk, HA, a0, a1, hbw⟩ := hrel
    have am : a % step = 0 := by rw [HA.out, Int.add_mul_emod_self_right]; exact F.out.2.2
    by_cases hlt : k < b
    · have hC := HS.out a (by omega) (by omega)
      rw [stS_of a step t1 am] at hC
      have HC := Lib.hid hC
      have e2 : a + step = s + ((k + 1 : Nat) : Int) * step := by
        rw [HA.out, show (((k + 1 : Nat) : Int)) = (k : Int) + 1 by omega, Int.add_mul, Int.one_mul]; omega
      have e3 : ((k + 1 : Nat) : Int) * step ≤ 218802813927424 := by
        have := Int.mul_le_mul (show ((k + 1 : Nat) : Int) ≤ 199 by omega) t2 (by omega) (by omega)
        omega
      have e4 : a + step ≤ s + 218802813927424 := by omega
      have E2 := Lib.hid e2
      have AM := Lib.hid am
      clear hC e2 e3 am
      go_wp2_with (go_at_call 14; ((with_reducible refine (HC.out _).mono ?_); rintro e w2 ⟨rfl, hb2⟩))
      all_goals
        go_roundw
        case rel => exact ⟨a + step, k + 1, by go_num, by go_num, by omega, E2.out, by omega, by omega, bel_trans hbw hb2⟩
        case measure => simp [intOf]; omega
    · obtain rfl : k = b := by omega
      have hC := HS.out (a - 1) (by omega) (by omega)
      rw [stS_pred a step t1 am] at hC
      have HC := Lib.hid hC
      have e2 : s + p = a := by rw [HA.out, hp]
      have AM := Lib.hid am
      clear hC am
      go_wp2_with (first
        | (go_at_call 14; ((with_reducible refine (HC.out _).mono ?_); rintro e w2 ⟨rfl, hb2⟩))
        | (go_at_call 11; refine (head_any _).mono ?_; rintro e w3 ⟨rfl, hb3⟩))
      go_ret
      exact ⟨rfl, bel_trans (bel_trans hbw hb2) hb3⟩

theorem ways_any (x step many : Int) (h1 : (Lit.int .i64 x).wf = true) (h2 : (Lit.int .i64 step).wf = true) (h3 : (Lit.int .u8 many).wf = true) (w : World) :
    Calls Try.prog 5 #[.int .i64 x, .int .i64 step, .int .u8 many] w fun e w' => e = .returned (.bool true) ∧ Below w.heap.size w w' := by
  have m0 : 0 ≤ many ∧ many ≤ 255 := (Lit.wf_int_iff .u8 many).1 h3
  by_cases h : 1 ≤ step ∧ step ≤ 1099511627776 ∧ x ≤ 1125899906842624 ∧ -1125899906842624 ≤ x
  · obtain ⟨k, rfl⟩ : ∃ k : Nat, many = (k : Int) := ⟨many.toNat, by omega⟩
    exact ways_in x step k h.1 h.2.1 h.2.2.1 h.2.2.2 m0.2 w
  · exact ways_out x step many (by omega) w
end Go.Proofs.Ythndfablbljhbaa.Unit

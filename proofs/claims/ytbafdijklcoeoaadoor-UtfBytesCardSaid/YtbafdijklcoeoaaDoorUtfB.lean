/- Chapter 2: which bytes may follow; which numbers are code points; walked. No condition. -/
import Derived.Test.YtbafdijklcoeoaaDoorUtfA
namespace Go.Proofs.YtbafdijklcoeoaaDoor.Utf
open Go.RowKit
set_option linter.unusedVariables false
set_option linter.unusedSimpArgs false

/-- May a byte stand as the i-th behind a first one? -/
def mayN (f i c : Int) : Bool := if 1 < i then btw c 128 191 else if f = 224 then btw c 160 191 else if f = 237 then btw c 128 159 else if f = 240 then btw c 144 191 else if f = 244 then btw c 128 143 else btw c 128 191
set_option maxHeartbeats 2000000 in
theorem may_any (f i c : Int) (w : World) (hf : 0 ≤ f ∧ f ≤ 255) (h0 : 0 ≤ c) (h1 : c ≤ 255) :
    Calls Tryd.prog 29 #[.int .u8 f, .int .i64 i, .int .u8 c] w fun e w' => e = .returned (.bool (mayN f i c)) ∧ w = w' := by
  have HB := Lib.hid (fun (low high : Int) (W : World) => between_any c low high W h0 h1)
  clear h0 h1
  have H : ∀ (b : Bool) (low high : Int), mayN f i c = btw c low high → Hid (mayN f i c = btw c low high) := fun _ _ _ h => h
  clear H
  have key : mayN f i c = mayN f i c := rfl
  unfold mayN at key ⊢
  clear key
  by_cases g1 : 1 < i
  · have q1 : decide (1 < i) = true := decide_eq_true g1
    rw [if_pos g1]
    clear g1
    go_enter Tryd.func29, Tryd.ntmps29
    go_wp2_with (go_at_call 30; (with_reducible refine (HB.out 128 191 _).mono ?_); rintro e w' ⟨rfl, rfl⟩)
    go_ret
    exact ⟨rfl, rfl⟩
  have q1 : decide (1 < i) = false := decide_eq_false g1
  rw [if_neg g1]
  clear g1
  by_cases g2 : f = 224
  · rw [if_pos g2]
    subst g2
    go_enter Tryd.func29, Tryd.ntmps29
    go_wp2_with (go_at_call 30; (with_reducible refine (HB.out 160 191 _).mono ?_); rintro e w' ⟨rfl, rfl⟩)
    go_ret
    exact ⟨rfl, rfl⟩
  have q2 : (f == 224) = false := by simpa using g2
  rw [if_neg g2]
  by_cases g3 : f = 237
  · rw [if_pos g3]
    subst g3
    go_enter Tryd.func29, Tryd.ntmps29
    go_wp2_with (go_at_call 30; (with_reducible refine (HB.out 128 159 _).mono ?_); rintro e w' ⟨rfl, rfl⟩)
    go_ret
    exact ⟨rfl, rfl⟩
  have q3 : (f == 237) = false := by simpa using g3
  rw [if_neg g3]
  by_cases g4 : f = 240
  · rw [if_pos g4]
    subst g4
    go_enter Tryd.func29, Tryd.ntmps29
    go_wp2_with (go_at_call 30; (with_reducible refine (HB.out 144 191 _).mono ?_); rintro e w' ⟨rfl, rfl⟩)
    go_ret
    exact ⟨rfl, rfl⟩
  have q4 : (f == 240) = false := by simpa using g4
  rw [if_neg g4]
  by_cases g5 : f = 244
  · rw [if_pos g5]
    subst g5
    go_enter Tryd.func29, Tryd.ntmps29
    go_wp2_with (go_at_call 30; (with_reducible refine (HB.out 128 143 _).mono ?_); rintro e w' ⟨rfl, rfl⟩)
    go_ret
    exact ⟨rfl, rfl⟩
  have q5 : (f == 244) = false := by simpa using g5
  rw [if_neg g5]
  clear g2 g3 g4 g5
  go_enter Tryd.func29, Tryd.ntmps29
  go_wp2_with (go_at_call 30; (with_reducible refine (HB.out 128 191 _).mono ?_); rintro e w' ⟨rfl, rfl⟩)
  go_ret
  exact ⟨rfl, rfl⟩
/-- Is a number a code point? -/
def pointB (r : Int) : Bool := decide (0 ≤ r) && decide (r ≤ 1114111) && (decide (r < 55296) || decide (57343 < r))
theorem Point_any (r : Int) (w : World) (h : -2147483648 ≤ r ∧ r ≤ 2147483647) :
    Calls Tryd.prog 18 #[.int .i32 r] w fun e w' => e = .returned (.bool (pointB r)) ∧ w = w' := by
  obtain ⟨b, hb⟩ : ∃ b, pointB r = b := ⟨_, rfl⟩
  have HB := Lib.hid hb
  unfold pointB at hb
  cases g1 : decide (0 ≤ r) <;> cases g2 : decide (r ≤ 1114111) <;> cases g3 : decide (r < 55296) <;> cases g4 : decide (57343 < r)
  all_goals
    rw [g1, g2, g3, g4] at hb
    simp only [Bool.and_self, Bool.and_true, Bool.and_false, Bool.false_and, Bool.true_and, Bool.or_self, Bool.or_true, Bool.or_false, Bool.true_or, Bool.false_or] at hb
    subst hb
    rw [HB.out]
    clear h HB
    go_enter Tryd.func18, Tryd.ntmps18
    go_wp2
    go_ret
    exact ⟨rfl, rfl⟩
end Go.Proofs.YtbafdijklcoeoaaDoor.Utf

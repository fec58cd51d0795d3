/- Chapter 2: the reference's small functions, walked. No condition. -/
import Derived.Test.YtbafdijklcoeoaaDoorChecked
import Derived.Test.YtbafdijklcoeoaaDoorShelf
import Derived.Test.YtbafdijklcoeoaaDoorOpen
import Derived.Test.YtbafdijklcoeoaaDoorMore
namespace Go.Proofs.YtbafdijklcoeoaaDoor.Utf
open Go.RowKit
set_option linter.unusedVariables false
set_option linter.unusedSimpArgs false

/-- Is a byte from one to another one? -/
def btw (c low high : Int) : Bool := decide (low ≤ c) && decide (c ≤ high)
theorem between_any (c low high : Int) (w : World) (h0 : 0 ≤ c) (h1 : c ≤ 255) :
    Calls Tryd.prog 30 #[.int .u8 c, .int .i64 low, .int .i64 high] w fun e w' => e = .returned (.bool (btw c low high)) ∧ w = w' := by
  have hw : IntKind.i64.wrap c = c := IntWalk.i64_in _ ⟨by omega, by omega⟩
  by_cases g1 : low ≤ c
  · have q1 : decide (low ≤ c) = true := decide_eq_true g1
    by_cases g2 : c ≤ high
    · have q2 : decide (c ≤ high) = true := decide_eq_true g2
      go_enter Tryd.func30, Tryd.ntmps30
      go_wp2
      go_ret
      exact ⟨by unfold btw; rw [q1, q2]; rfl, rfl⟩
    · have q2 : decide (c ≤ high) = false := decide_eq_false g2
      go_enter Tryd.func30, Tryd.ntmps30
      go_wp2
      go_ret
      exact ⟨by unfold btw; rw [q1, q2]; rfl, rfl⟩
  · have q1 : decide (low ≤ c) = false := decide_eq_false g1
    go_enter Tryd.func30, Tryd.ntmps30
    go_wp2
    go_ret
    exact ⟨by unfold btw; rw [q1]; rfl, rfl⟩
/-- How many bytes well-formed ones have that begin so. -/
def longN (c : Int) : Nat := if btw c 0 127 = true then 1 else if btw c 194 223 = true then 2 else if btw c 224 239 = true then 3 else if btw c 240 244 = true then 4 else 0
set_option maxHeartbeats 1000000 in
theorem long_any (c : Int) (w : World) (h0 : 0 ≤ c) (h1 : c ≤ 255) :
    Calls Tryd.prog 21 #[.int .u8 c] w fun e w' => e = .returned (.int .i64 ((longN c : Nat) : Int)) ∧ w = w' := by
  have HB := Lib.hid (fun (low high : Int) (W : World) => between_any c low high W h0 h1)
  obtain ⟨a, ha⟩ : ∃ a, btw c 0 127 = a := ⟨_, rfl⟩
  obtain ⟨b, hb⟩ : ∃ b, btw c 194 223 = b := ⟨_, rfl⟩
  obtain ⟨d, hd⟩ : ∃ d, btw c 224 239 = d := ⟨_, rfl⟩
  obtain ⟨e', he⟩ : ∃ e', btw c 240 244 = e' := ⟨_, rfl⟩
  have HL := Lib.hid (show longN c = if a = true then 1 else if b = true then 2 else if d = true then 3 else if e' = true then 4 else 0 by unfold longN; rw [ha, hb, hd, he])
  have HA := Lib.hid (fun W => ha ▸ HB.out 0 127 W)
  have H2 := Lib.hid (fun W => hb ▸ HB.out 194 223 W)
  have H3 := Lib.hid (fun W => hd ▸ HB.out 224 239 W)
  have H4 := Lib.hid (fun W => he ▸ HB.out 240 244 W)
  clear ha hb hd he HB
  cases a <;> cases b <;> cases d <;> cases e'
  all_goals
    go_enter Tryd.func21, Tryd.ntmps21
    go_wp2_with (first
      | (go_at_call 30; (with_reducible refine (HA.out _).mono ?_); rintro e w' ⟨rfl, rfl⟩)
      | (go_at_call 30; (with_reducible refine (H2.out _).mono ?_); rintro e w' ⟨rfl, rfl⟩)
      | (go_at_call 30; (with_reducible refine (H3.out _).mono ?_); rintro e w' ⟨rfl, rfl⟩)
      | (go_at_call 30; (with_reducible refine (H4.out _).mono ?_); rintro e w' ⟨rfl, rfl⟩))
    go_ret
    exact ⟨by rw [HL.out]; rfl, rfl⟩
end Go.Proofs.YtbafdijklcoeoaaDoor.Utf

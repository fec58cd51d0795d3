/- Chapter 9: the head of the laws, walked. No condition. -/
import Derived.Test.YtlobedonclimbaaPairT
import Derived.Test.YtlobedonclimbaaPairK
namespace Go.Proofs.Ytlobedonclimbaa.Pair
open Go.RowKit
set_option linter.unusedVariables false

theorem ta : tellL 0 numR [0, 9, 5, 14, 5, 0, 15] = [0, 9, 7, 18, 7, 14, 13] := by decide
theorem tb : tellL false mayR [0, 9, 5, 14, 5, 0, 15] = [false, false, false, true, false, false, false] := by decide
theorem tc : tellL 0 numR [2, 3, 9] = [0, 5, 5] := by decide
theorem td : tellL false mustR [2, 3, 9] = [false, false, true] := by decide
set_option maxHeartbeats 8000000 in
set_option maxRecDepth 100000 in
theorem head_any (w : World) : Calls Try.prog 10 #[] w fun e w' => e = .returned (.bool true) ∧ Below w.heap.size w w' := by
  have r1 := (reads_at w 5 #[.int .u8 0, .int .u8 9, .int .u8 5, .int .u8 14, .int .u8 5, .int .u8 0, .int .u8 15] w.heap.size 7 ([0, 9, 5, 14, 5, 0, 15].map (Value.int .u8)) rfl rfl rfl).below (bel_alloc (Below.refl _ _) (.cells #[.int .u8 2, .int .u8 3, .int .u8 9] 5))
  have r2 := reads_at (w.alloc (.cells #[.int .u8 0, .int .u8 9, .int .u8 5, .int .u8 14, .int .u8 5, .int .u8 0, .int .u8 15] 5)) 5 #[.int .u8 2, .int .u8 3, .int .u8 9] (w.heap.size + 1) 3 ([2, 3, 9].map (Value.int .u8)) (by simp) rfl rfl
  have RA := Lib.hid (fun V (hV : Below ((w.alloc (.cells #[.int .u8 0, .int .u8 9, .int .u8 5, .int .u8 14, .int .u8 5, .int .u8 0, .int .u8 15] 5)).alloc (.cells #[.int .u8 2, .int .u8 3, .int .u8 9] 5)).heap.size ((w.alloc (.cells #[.int .u8 0, .int .u8 9, .int .u8 5, .int .u8 14, .int .u8 5, .int .u8 0, .int .u8 15] 5)).alloc (.cells #[.int .u8 2, .int .u8 3, .int .u8 9] 5)) V) => (r1.below (hV.mono (by simp))).more (Nat.le_trans (by simp) hV.size))
  have RB := Lib.hid (fun V (hV : Below ((w.alloc (.cells #[.int .u8 0, .int .u8 9, .int .u8 5, .int .u8 14, .int .u8 5, .int .u8 0, .int .u8 15] 5)).alloc (.cells #[.int .u8 2, .int .u8 3, .int .u8 9] 5)).heap.size ((w.alloc (.cells #[.int .u8 0, .int .u8 9, .int .u8 5, .int .u8 14, .int .u8 5, .int .u8 0, .int .u8 15] 5)).alloc (.cells #[.int .u8 2, .int .u8 3, .int .u8 9] 5)) V) => (r2.below (hV.mono (by simp))).more (Nat.le_trans (by simp) hV.size))
  clear r1 r2
  go_enter Try.func10, Try.ntmps10
  go_wp2_with (first
    | (go_at_call 13; (with_reducible refine (Rules_any _ 7 7 [0, 9, 5, 14, 5, 0, 15] rfl (by decide) _ (RA.out _ (Below.refl _ _))).mono ?_); rintro e w1 ⟨A1, c1, rfl, hR1, hb1⟩; rw [ta] at hR1; have R1 := Lib.hid hR1; have B1 := Lib.hid (hb1); clear hR1 hb1)
    | (go_at_call 12; (with_reducible refine (same8_any _ _ 7 _ _ [0, 9, 7, 18, 7, 14, 13] (by decide) _ ?_ ?_).mono ?_); exact (R1.out.below (bel_alloc (Below.refl _ _) _)).more (by simp); exact reads_at _ _ _ _ 7 _ (by simp) rfl rfl; rintro e w2 ⟨rfl, hb2⟩; have B2 := Lib.hid (bel_trans (bel_alloc B1.out (.cells #[.int .u8 0, .int .u8 9, .int .u8 7, .int .u8 18, .int .u8 7, .int .u8 14, .int .u8 13] 5)) hb2); clear hb2)
    | (go_at_call 15; (with_reducible refine (Breaks_any _ 7 7 [0, 9, 5, 14, 5, 0, 15] rfl (by decide) _ (RA.out _ B2.out)).mono ?_); rintro e w3 ⟨A3, c3, rfl, hR3, hb3⟩; rw [tb] at hR3; have R3 := Lib.hid hR3; have B3 := Lib.hid (bel_trans B2.out hb3); clear hR3 hb3)
    | (go_at_call 14; (with_reducible refine (same1_any _ _ 7 _ _ [false, false, false, true, false, false, false] (by decide) _ ?_ ?_).mono ?_); exact (R3.out.below (bel_alloc (Below.refl _ _) _)).more (by simp); exact reads_at _ _ _ _ 7 _ (by simp) rfl rfl; rintro e w4 ⟨rfl, hb4⟩; have B4 := Lib.hid (bel_trans (bel_alloc B3.out (.cells #[.bool false, .bool false, .bool false, .bool true, .bool false, .bool false, .bool false] 4)) hb4); clear hb4)
    | (go_at_call 13; (with_reducible refine (Rules_any _ 3 3 [2, 3, 9] rfl (by decide) _ (RB.out _ B4.out)).mono ?_); rintro e w5 ⟨A5, c5, rfl, hR5, hb5⟩; rw [tc] at hR5; have R5 := Lib.hid hR5; have B5 := Lib.hid (bel_trans B4.out hb5); clear hR5 hb5)
    | (go_at_call 12; (with_reducible refine (same8_any _ _ 3 _ _ [0, 5, 5] (by decide) _ ?_ ?_).mono ?_); exact (R5.out.below (bel_alloc (Below.refl _ _) _)).more (by simp); exact reads_at _ _ _ _ 3 _ (by simp) rfl rfl; rintro e w6 ⟨rfl, hb6⟩; have B6 := Lib.hid (bel_trans (bel_alloc B5.out (.cells #[.int .u8 0, .int .u8 5, .int .u8 5] 5)) hb6); clear hb6)
    | (go_at_call 16; (with_reducible refine (Must_any _ 3 3 [2, 3, 9] rfl (by decide) _ (RB.out _ B6.out)).mono ?_); rintro e w7 ⟨A7, c7, rfl, hR7, hb7⟩; rw [td] at hR7; have R7 := Lib.hid hR7; have B7 := Lib.hid (bel_trans B6.out hb7); clear hR7 hb7)
    | (go_at_call 14; (with_reducible refine (same1_any _ _ 3 _ _ [false, false, true] (by decide) _ ?_ ?_).mono ?_); exact (R7.out.below (bel_alloc (Below.refl _ _) _)).more (by simp); exact reads_at _ _ _ _ 3 _ (by simp) rfl rfl; rintro e w8 ⟨rfl, hb8⟩; have B8 := Lib.hid (bel_trans (bel_alloc B7.out (.cells #[.bool false, .bool false, .bool true] 4)) hb8); clear hb8))
  go_ret
  exact ⟨rfl, bel_trans (bel_alloc (bel_alloc (Below.refl _ _) _) _) B8.out⟩
def greatB (n : Nat) : Bool := decide (120 < n)
theorem great_any (A : Option Addr) (n c : Nat) (hn : (n : Int) ≤ 9223372036854775807) (w : World) : Calls Try.prog 9 #[.slice A n c] w fun e w' => e = .returned (.bool (greatB n)) ∧ w = w' := by
  rcases Nat.lt_or_ge 120 n with h | h
  · have HE := Lib.hid (show greatB n = true from decide_eq_true h)
    have h' : (120 : Int) < n := by omega
    go_enter Try.func9, Try.ntmps9
    go_wp2
    go_ret
    exact ⟨ret_bool (by rw [HE.out]; first | done | (simp; done) | (simp; omega)), rfl⟩
  · have HE := Lib.hid (show greatB n = false from decide_eq_false (by omega))
    have h' : ¬ (120 : Int) < n := by omega
    go_enter Try.func9, Try.ntmps9
    go_wp2
    go_ret
    exact ⟨ret_bool (by rw [HE.out]; first | done | (simp; done) | (simp; omega)), rfl⟩
end Go.Proofs.Ytlobedonclimbaa.Pair

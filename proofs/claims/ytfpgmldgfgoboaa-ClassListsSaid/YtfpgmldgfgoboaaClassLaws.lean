/- The laws of chapter 4 (class), walked: each call returns true. No condition. -/
import Derived.Test.YtfpgmldgfgoboaaClassU
namespace Go.Proofs.Ytfpgmldgfgoboaa.Class
open Go.RowKit
set_option linter.unusedVariables false

def headIn : List Int := [97, 32, 10, 45, 20013, 769, 12353, 12300, 12301, 65292, 65532, -1]
def headOut : List Int := [0, 5, 3, 13, 25, 9, 20, 14, 15, 15, 26, 0]
theorem head_same : sameB (headIn.map clsOf) headOut = true := by decide +kernel
theorem head_wide : wideB 20013 = true ∧ wideB 97 = false ∧ (clsOf 769 == 9) = true := by decide +kernel
theorem head_names : nameS 12 = ⟨#[66, 50]⟩ ∧ nameS 99 = ⟨#[]⟩ := ⟨by kernel_rfl, by kernel_rfl⟩
set_option maxHeartbeats 2000000 in
set_option maxRecDepth 100000 in
theorem head_any (w : World) : Calls Try.prog 24 #[] w fun e w' => e = .returned (.bool true) ∧ Below w.heap.size w w' := by
  have bel0 := bel_alloc (Below.refl w.heap.size w) (.cells (headIn.map (Value.int .i32)).toArray 21)
  have HS := Lib.hid head_same
  have HW1 := Lib.hid head_wide.1
  have HW2 := Lib.hid head_wide.2.1
  have HW3 := Lib.hid head_wide.2.2
  have HN1 := Lib.hid head_names.1
  have HN2 := Lib.hid head_names.2
  go_enter Try.func24, Try.ntmps24
  go_wp2_with (first
    | (go_at_call 25; refine (all_any _ 12 12 headIn _ rfl ?_ (by omega)).mono ?_; exact reads_new _ _ _ _ _ rfl rfl; rintro e w1 ⟨A1, c1, rfl, hr1, hb1⟩)
    | (go_at_call 40; refine (same_any _ _ 12 12 _ _ (headIn.map clsOf) headOut _ rfl rfl ?_ ?_ (by omega) (by omega)).mono ?_; exact (hr1.alloc (Nat.le_refl _) _).more (by simp); exact reads_new _ _ _ _ _ rfl rfl; rintro e w2 ⟨rfl, hd2⟩; rw [HS.out]; have hb2 := hd2.below)
    | (go_at_call 22; ((with_reducible refine (wide_any 20013 _).mono ?_); rintro e w3 ⟨rfl, hb3⟩; rw [HW1.out]))
    | (go_at_call 22; ((with_reducible refine (wide_any 97 _).mono ?_); rintro e w4 ⟨rfl, hb4⟩; rw [HW2.out]))
    | (go_at_call 21; refine (mark_any 769 _).mono ?_; rintro e w5 ⟨rfl, hb5⟩; rw [HW3.out])
    | (go_at_call 26; ((with_reducible refine (name_any 12 (by omega) (by omega) _).mono ?_); rintro e w' ⟨rfl, rfl⟩; rw [HN1.out]))
    | (go_at_call 26; ((with_reducible refine (name_any 99 (by omega) (by omega) _).mono ?_); rintro e w' ⟨rfl, rfl⟩; rw [HN2.out])))
  go_ret
  have h1 := bel_trans bel0 hb1
  have h2 := bel_trans (bel_alloc h1 _) hb2
  exact ⟨rfl, bel_trans (bel_trans (bel_trans h2 hb3) hb4) hb5⟩

set_option maxHeartbeats 2000000 in
theorem ClassOf_any (r : Int) (w : World) : Calls Try.prog 6 #[.int .i32 r] w fun e w' => e = .returned (.bool true) ∧ Below w.heap.size w w' := by
  have hc := clsOf_rng r
  go_enter Try.func6, Try.ntmps6
  go_wp2_with (first
    | (go_at_call 19; refine (of_any _ _).mono ?_; rintro e w1 ⟨rfl, hb1⟩)
    | (go_at_call 20; refine (refOf_any _ _).mono ?_; rintro e w2 ⟨rfl, hb2⟩)
    | (go_at_call 21; refine (mark_any _ _).mono ?_; rintro e w3 ⟨rfl, hb3⟩)
    | (go_at_call 22; refine (wide_any _ _).mono ?_; rintro e w4 ⟨rfl, hb4⟩)
    | (go_at_call 23; refine (refWide_any _ _).mono ?_; rintro e w5 ⟨rfl, hb5⟩)
    | (go_at_call 24; refine (head_any _).mono ?_; rintro e w6 ⟨rfl, hb6⟩)
    | (go_at_call 28; refine (many_any _ _).mono ?_; rintro e w7 ⟨rfl, hb7⟩))
  all_goals
    go_ret
    exact ⟨rfl, (by (repeat (first | assumption | exact Below.refl _ _ | refine bel_trans ?_ (by assumption))))⟩

set_option maxHeartbeats 2000000 in
theorem ClassNear_any (r : Int) (hr : -2147483648 ≤ r) (hr2 : r ≤ 2147483647) (w : World) : Calls Try.prog 7 #[.int .i32 r] w fun e w' => e = .returned (.bool true) ∧ Below w.heap.size w w' := by
  go_enter Try.func7, Try.ntmps7
  go_wp2
  go_loopw [3] (fun k wr => ∃ i : Int, k = .int .i32 i ∧ -100 ≤ i ∧ i ≤ 101 ∧ Below w.heap.size w wr) (fun k wr => (200 - intOf k).toNat)
  case atStart => exact ⟨-100, rfl, by omega, by omega, Below.refl _ _⟩
  case round =>
    obtain ⟨i, rfl, h1, h2, hb⟩ := hrel
    rcases Int.lt_or_le 100 i with g | g
    · go_wp2_with (first
    | (go_at_call 19; refine (of_any _ _).mono ?_; rintro e w1 ⟨rfl, hb1⟩)
    | (go_at_call 20; refine (refOf_any _ _).mono ?_; rintro e w2 ⟨rfl, hb2⟩)
    | (go_at_call 21; refine (mark_any _ _).mono ?_; rintro e w3 ⟨rfl, hb3⟩)
    | (go_at_call 22; refine (wide_any _ _).mono ?_; rintro e w4 ⟨rfl, hb4⟩)
    | (go_at_call 23; refine (refWide_any _ _).mono ?_; rintro e w5 ⟨rfl, hb5⟩)
    | (go_at_call 24; refine (head_any _).mono ?_; rintro e w6 ⟨rfl, hb6⟩)
    | (go_at_call 28; refine (many_any _ _).mono ?_; rintro e w7 ⟨rfl, hb7⟩))
      go_ret
      exact ⟨rfl, (by (repeat (first | assumption | exact Below.refl _ _ | refine bel_trans ?_ (by assumption))))⟩
    · go_wp2_with (first
    | (go_at_call 19; refine (of_any _ _).mono ?_; rintro e w1 ⟨rfl, hb1⟩)
    | (go_at_call 20; refine (refOf_any _ _).mono ?_; rintro e w2 ⟨rfl, hb2⟩)
    | (go_at_call 21; refine (mark_any _ _).mono ?_; rintro e w3 ⟨rfl, hb3⟩)
    | (go_at_call 22; refine (wide_any _ _).mono ?_; rintro e w4 ⟨rfl, hb4⟩)
    | (go_at_call 23; refine (refWide_any _ _).mono ?_; rintro e w5 ⟨rfl, hb5⟩)
    | (go_at_call 24; refine (head_any _).mono ?_; rintro e w6 ⟨rfl, hb6⟩)
    | (go_at_call 28; refine (many_any _ _).mono ?_; rintro e w7 ⟨rfl, hb7⟩))
      all_goals
        go_roundw
        case rel => exact ⟨i + 1, by go_num, by omega, by omega, (by (repeat (first | assumption | exact Below.refl _ _ | refine bel_trans ?_ (by assumption))))⟩
        case measure => simp [intOf]; omega

set_option maxHeartbeats 2000000 in
theorem once_zero (r : Int) (hm : manyOf r = 0) (hc : clsOf r = 0) (w : World) : Calls Try.prog 9 #[.int .i32 r] w fun e w' => e = .returned (.bool true) ∧ Below w.heap.size w w' := by
  have HM := Lib.hid hm
  have HC := Lib.hid hc
  have HB : Hid True := trivial
  clear hm hc
  go_enter Try.func9, Try.ntmps9
  go_wp2_with (first
    | (go_at_call 19; refine (of_any _ _).mono ?_; rintro e w1 ⟨rfl, hb1⟩; (try rw [HC.out]))
    | (go_at_call 20; refine (refOf_any _ _).mono ?_; rintro e w2 ⟨rfl, hb2⟩)
    | (go_at_call 21; refine (mark_any _ _).mono ?_; rintro e w3 ⟨rfl, hb3⟩; rw [HC.out])
    | (go_at_call 22; refine (wide_any _ _).mono ?_; rintro e w4 ⟨rfl, hb4⟩; rw [HB.out])
    | (go_at_call 23; refine (refWide_any _ _).mono ?_; rintro e w5 ⟨rfl, hb5⟩)
    | (go_at_call 24; refine (head_any _).mono ?_; rintro e w6 ⟨rfl, hb6⟩)
    | (go_at_call 28; refine (many_any _ _).mono ?_; rintro e w7 ⟨rfl, hb7⟩; (try rw [HM.out])))
  all_goals
    go_ret
    exact ⟨rfl, (by (repeat (first | assumption | exact Below.refl _ _ | refine bel_trans ?_ (by assumption))))⟩

set_option maxHeartbeats 2000000 in
theorem once_no (r : Int) (hm : manyOf r = 1) (hc : (clsOf r == 9) = false) (w : World) : Calls Try.prog 9 #[.int .i32 r] w fun e w' => e = .returned (.bool true) ∧ Below w.heap.size w w' := by
  have HM := Lib.hid hm
  have HC := Lib.hid hc
  have HB : Hid True := trivial
  clear hm hc
  go_enter Try.func9, Try.ntmps9
  go_wp2_with (first
    | (go_at_call 19; refine (of_any _ _).mono ?_; rintro e w1 ⟨rfl, hb1⟩; (try rw [HC.out]))
    | (go_at_call 20; refine (refOf_any _ _).mono ?_; rintro e w2 ⟨rfl, hb2⟩)
    | (go_at_call 21; refine (mark_any _ _).mono ?_; rintro e w3 ⟨rfl, hb3⟩; rw [HC.out])
    | (go_at_call 22; refine (wide_any _ _).mono ?_; rintro e w4 ⟨rfl, hb4⟩; rw [HB.out])
    | (go_at_call 23; refine (refWide_any _ _).mono ?_; rintro e w5 ⟨rfl, hb5⟩)
    | (go_at_call 24; refine (head_any _).mono ?_; rintro e w6 ⟨rfl, hb6⟩)
    | (go_at_call 28; refine (many_any _ _).mono ?_; rintro e w7 ⟨rfl, hb7⟩; (try rw [HM.out])))
  all_goals
    go_ret
    exact ⟨rfl, (by (repeat (first | assumption | exact Below.refl _ _ | refine bel_trans ?_ (by assumption))))⟩

set_option maxHeartbeats 2000000 in
theorem once_thin (r : Int) (hm : manyOf r = 1) (hc : (clsOf r == 9) = true) (hb : wideB r = false) (w : World) : Calls Try.prog 9 #[.int .i32 r] w fun e w' => e = .returned (.bool true) ∧ Below w.heap.size w w' := by
  have HM := Lib.hid hm
  have HC := Lib.hid hc
  have HB := Lib.hid hb
  clear hm hc hb
  go_enter Try.func9, Try.ntmps9
  go_wp2_with (first
    | (go_at_call 19; refine (of_any _ _).mono ?_; rintro e w1 ⟨rfl, hb1⟩; (try rw [HC.out]))
    | (go_at_call 20; refine (refOf_any _ _).mono ?_; rintro e w2 ⟨rfl, hb2⟩)
    | (go_at_call 21; refine (mark_any _ _).mono ?_; rintro e w3 ⟨rfl, hb3⟩; rw [HC.out])
    | (go_at_call 22; refine (wide_any _ _).mono ?_; rintro e w4 ⟨rfl, hb4⟩; rw [HB.out])
    | (go_at_call 23; refine (refWide_any _ _).mono ?_; rintro e w5 ⟨rfl, hb5⟩)
    | (go_at_call 24; refine (head_any _).mono ?_; rintro e w6 ⟨rfl, hb6⟩)
    | (go_at_call 28; refine (many_any _ _).mono ?_; rintro e w7 ⟨rfl, hb7⟩; (try rw [HM.out])))
  all_goals
    go_ret
    exact ⟨rfl, (by (repeat (first | assumption | exact Below.refl _ _ | refine bel_trans ?_ (by assumption))))⟩

set_option maxHeartbeats 2000000 in
theorem once_wide (r : Int) (hm : manyOf r = 1) (hc : (clsOf r == 9) = true) (hb : wideB r = true) (hr : 12330 ≤ r ∧ r ≤ 12335 ∨ 12441 ≤ r ∧ r ≤ 12442) (w : World) : Calls Try.prog 9 #[.int .i32 r] w fun e w' => e = .returned (.bool true) ∧ Below w.heap.size w w' := by
  have HM := Lib.hid hm
  have HC := Lib.hid hc
  have HB := Lib.hid hb
  clear hm hc hb
  rcases hr with ⟨r1, r2⟩ | ⟨r1, r2⟩
  all_goals (
  go_enter Try.func9, Try.ntmps9
  go_wp2_with (first
    | (go_at_call 19; refine (of_any _ _).mono ?_; rintro e w1 ⟨rfl, hb1⟩; (try rw [HC.out]))
    | (go_at_call 20; refine (refOf_any _ _).mono ?_; rintro e w2 ⟨rfl, hb2⟩)
    | (go_at_call 21; refine (mark_any _ _).mono ?_; rintro e w3 ⟨rfl, hb3⟩; rw [HC.out])
    | (go_at_call 22; refine (wide_any _ _).mono ?_; rintro e w4 ⟨rfl, hb4⟩; rw [HB.out])
    | (go_at_call 23; refine (refWide_any _ _).mono ?_; rintro e w5 ⟨rfl, hb5⟩)
    | (go_at_call 24; refine (head_any _).mono ?_; rintro e w6 ⟨rfl, hb6⟩)
    | (go_at_call 28; refine (many_any _ _).mono ?_; rintro e w7 ⟨rfl, hb7⟩; (try rw [HM.out])))
  all_goals
    go_ret
    exact ⟨rfl, (by (repeat (first | assumption | exact Below.refl _ _ | refine bel_trans ?_ (by assumption))))⟩)

theorem ClassOnce_any (r : Int) (w : World) : Calls Try.prog 9 #[.int .i32 r] w fun e w' => e = .returned (.bool true) ∧ Below w.heap.size w w' := by
  have hm := manyOf_le r
  rcases (show manyOf r = 0 ∨ manyOf r = 1 by omega) with h | h
  · exact once_zero r h (manyOf_zero r h) w
  · cases hc : clsOf r == 9 with
    | false => exact once_no r h hc w
    | true =>
      cases hb : wideB r with
      | false => exact once_thin r h hc hb w
      | true => exact once_wide r h hc hb (mark_wide r (by simpa using hc) hb) w
end Go.Proofs.Ytfpgmldgfgoboaa.Class

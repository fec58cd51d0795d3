/- Chapter 9: the rules' predicates, walked. No condition. -/
import Derived.Test.YtlobedonclimbaaPairB
import Derived.Shelf.Abstract
namespace Go.Proofs.Ytlobedonclimbaa.Pair
open Go.RowKit
set_option linter.unusedVariables false

theorem both_lit (pa po pb : Int) (pc : Bool) (A : Option Addr) (n cap : Nat) (xs : List Int) (w : World) (hl : xs.length = n) (hn : n ≤ 1000000) (hr : Reads w w.heap.size 1 A n (xs.map (Value.int .u8))) :
    Calls Try.prog 34 #[.agg #[.int .u8 pa, .int .u8 po, .int .u8 pb, .bool pc], .slice A n cap] w fun e w' => e = .returned (.bool (bothL pa pb xs)) ∧ Below w.heap.size w w' :=
  both_any ⟨pa, po, pb, pc⟩ A n cap xs w hl hn hr
set_option maxHeartbeats 8000000 in
theorem r0_any (p : Pl) (w : World) : Calls Try.prog 32 #[plV p] w fun e w' => e = .returned (.bool (isR 0 p)) ∧ Below w.heap.size w w' := by
  obtain ⟨pa, po, pb, pc⟩ := p
  simp only [plV]
  go_enter Try.func32, Try.ntmps32
  go_wp2
  go_ret
  exact ⟨rfl, by repeat (first | with_reducible refine bel_alloc ?_ _ | with_reducible exact Below.refl _ _)⟩
set_option maxHeartbeats 8000000 in
theorem r1_any (p : Pl) (w : World) : Calls Try.prog 33 #[plV p] w fun e w' => e = .returned (.bool (isR 1 p)) ∧ Below w.heap.size w w' := by
  obtain ⟨pa, po, pb, pc⟩ := p
  simp only [plV]
  obtain ⟨s0, q0⟩ : ∃ s, bothL pa pb [2, 3] = s := ⟨_, rfl⟩
  have S0 := Lib.hid q0
  clear q0
  go_enter Try.func33, Try.ntmps33
  go_wp2_with ((go_at_call 34; refine (both_lit pa po pb pc _ _ _ [2, 3] _ rfl (by decide) (lit_at _ _ _ _ _ (by simp) rfl rfl)).mono ?_; rintro e w' ⟨rfl, hb'⟩; rw [S0.out]))
  go_ret
  exact ⟨ret_bool (by simp only [isR, S0.out]; first | done | rfl), bel_trans (by repeat (first | with_reducible refine bel_alloc ?_ _ | with_reducible exact Below.refl _ _)) hb'⟩
set_option maxHeartbeats 8000000 in
theorem r2_any (p : Pl) (w : World) : Calls Try.prog 35 #[plV p] w fun e w' => e = .returned (.bool (isR 2 p)) ∧ Below w.heap.size w w' := by
  obtain ⟨pa, po, pb, pc⟩ := p
  simp only [plV]
  obtain ⟨s0, q0⟩ : ∃ s, isL pa [2, 3, 4] = s := ⟨_, rfl⟩
  have S0 := Lib.hid q0
  clear q0
  go_enter Try.func35, Try.ntmps35
  go_wp2_with ((go_at_call 36; (with_reducible refine (is_cs _ _ _ _ _ _ ?_).mono ?_); exact ⟨by simp, rfl, rfl, by decide⟩; rintro e w' ⟨rfl, rfl⟩; first | rw [show isL pa (List.map intOf (#[.int .u8 2, .int .u8 3, .int .u8 4] : Array Value).toList) = _ from S0.out]))
  go_ret
  exact ⟨ret_bool (by simp only [isR, S0.out]; first | done | rfl), by repeat (first | with_reducible refine bel_alloc ?_ _ | with_reducible exact Below.refl _ _)⟩
set_option maxHeartbeats 8000000 in
theorem r3_any (p : Pl) (w : World) : Calls Try.prog 37 #[plV p] w fun e w' => e = .returned (.bool (isR 3 p)) ∧ Below w.heap.size w w' := by
  obtain ⟨pa, po, pb, pc⟩ := p
  simp only [plV]
  obtain ⟨s0, q0⟩ : ∃ s, isL pb [1, 2, 3, 4] = s := ⟨_, rfl⟩
  have S0 := Lib.hid q0
  clear q0
  go_enter Try.func37, Try.ntmps37
  go_wp2_with ((go_at_call 36; (with_reducible refine (is_cs _ _ _ _ _ _ ?_).mono ?_); exact ⟨by simp, rfl, rfl, by decide⟩; rintro e w' ⟨rfl, rfl⟩; first | rw [show isL pb (List.map intOf (#[.int .u8 1, .int .u8 2, .int .u8 3, .int .u8 4] : Array Value).toList) = _ from S0.out]))
  go_ret
  exact ⟨ret_bool (by simp only [isR, S0.out]; first | done | rfl), by repeat (first | with_reducible refine bel_alloc ?_ _ | with_reducible exact Below.refl _ _)⟩
set_option maxHeartbeats 8000000 in
theorem r4_any (p : Pl) (w : World) : Calls Try.prog 38 #[plV p] w fun e w' => e = .returned (.bool (isR 4 p)) ∧ Below w.heap.size w w' := by
  obtain ⟨pa, po, pb, pc⟩ := p
  simp only [plV]
  obtain ⟨s0, q0⟩ : ∃ s, isL pb [5, 6] = s := ⟨_, rfl⟩
  have S0 := Lib.hid q0
  clear q0
  go_enter Try.func38, Try.ntmps38
  go_wp2_with ((go_at_call 36; (with_reducible refine (is_cs _ _ _ _ _ _ ?_).mono ?_); exact ⟨by simp, rfl, rfl, by decide⟩; rintro e w' ⟨rfl, rfl⟩; first | rw [show isL pb (List.map intOf (#[.int .u8 5, .int .u8 6] : Array Value).toList) = _ from S0.out]))
  go_ret
  exact ⟨ret_bool (by simp only [isR, S0.out]; first | done | rfl), by repeat (first | with_reducible refine bel_alloc ?_ _ | with_reducible exact Below.refl _ _)⟩
set_option maxHeartbeats 8000000 in
theorem r5_any (p : Pl) (w : World) : Calls Try.prog 39 #[plV p] w fun e w' => e = .returned (.bool (isR 5 p)) ∧ Below w.heap.size w w' := by
  obtain ⟨pa, po, pb, pc⟩ := p
  simp only [plV]
  go_enter Try.func39, Try.ntmps39
  go_wp2
  go_ret
  exact ⟨rfl, by repeat (first | with_reducible refine bel_alloc ?_ _ | with_reducible exact Below.refl _ _)⟩
set_option maxHeartbeats 8000000 in
theorem r6_any (p : Pl) (w : World) : Calls Try.prog 40 #[plV p] w fun e w' => e = .returned (.bool (isR 6 p)) ∧ Below w.heap.size w w' := by
  obtain ⟨pa, po, pb, pc⟩ := p
  simp only [plV]
  go_enter Try.func40, Try.ntmps40
  go_wp2
  go_ret
  exact ⟨rfl, by repeat (first | with_reducible refine bel_alloc ?_ _ | with_reducible exact Below.refl _ _)⟩
set_option maxHeartbeats 8000000 in
theorem r7_any (p : Pl) (w : World) : Calls Try.prog 41 #[plV p] w fun e w' => e = .returned (.bool (isR 7 p)) ∧ Below w.heap.size w w' := by
  obtain ⟨pa, po, pb, pc⟩ := p
  simp only [plV]
  cases h1 : (pa == 7)
  · cases h2 : (pb == 7)
    · go_enter Try.func41, Try.ntmps41
      go_wp2
      go_ret
      exact ⟨ret_bool (by simp only [isR, h1, h2]; first | done | rfl), by repeat (first | with_reducible refine bel_alloc ?_ _ | with_reducible exact Below.refl _ _)⟩
    · go_enter Try.func41, Try.ntmps41
      go_wp2
      go_ret
      exact ⟨ret_bool (by simp only [isR, h1, h2]; first | done | rfl), by repeat (first | with_reducible refine bel_alloc ?_ _ | with_reducible exact Below.refl _ _)⟩
  · go_enter Try.func41, Try.ntmps41
    go_wp2
    go_ret
    exact ⟨ret_bool (by simp only [isR, h1]; first | done | rfl), by repeat (first | with_reducible refine bel_alloc ?_ _ | with_reducible exact Below.refl _ _)⟩
set_option maxHeartbeats 8000000 in
theorem r8_any (p : Pl) (w : World) : Calls Try.prog 42 #[plV p] w fun e w' => e = .returned (.bool (isR 8 p)) ∧ Below w.heap.size w w' := by
  obtain ⟨pa, po, pb, pc⟩ := p
  simp only [plV]
  obtain ⟨s0, q0⟩ : ∃ s, isL pa [5, 10, 13] = s := ⟨_, rfl⟩
  have S0 := Lib.hid q0
  clear q0
  cases h1 : (pa == 8)
  · cases h2 : (pb == 8)
    · go_enter Try.func42, Try.ntmps42
      go_wp2_with ((go_at_call 36; (with_reducible refine (is_cs _ _ _ _ _ _ ?_).mono ?_); exact ⟨by simp, rfl, rfl, by decide⟩; rintro e w' ⟨rfl, rfl⟩; first | rw [show isL pa (List.map intOf (#[.int .u8 5, .int .u8 10, .int .u8 13] : Array Value).toList) = _ from S0.out]))
      go_ret
      exact ⟨ret_bool (by simp only [isR, S0.out, h1, h2]; first | done | rfl), by repeat (first | with_reducible refine bel_alloc ?_ _ | with_reducible exact Below.refl _ _)⟩
    · cases s0
      · go_enter Try.func42, Try.ntmps42
        go_wp2_with ((go_at_call 36; (with_reducible refine (is_cs _ _ _ _ _ _ ?_).mono ?_); exact ⟨by simp, rfl, rfl, by decide⟩; rintro e w' ⟨rfl, rfl⟩; first | rw [show isL pa (List.map intOf (#[.int .u8 5, .int .u8 10, .int .u8 13] : Array Value).toList) = _ from S0.out]))
        go_ret
        exact ⟨ret_bool (by simp only [isR, S0.out, h1, h2]; first | done | rfl), by repeat (first | with_reducible refine bel_alloc ?_ _ | with_reducible exact Below.refl _ _)⟩
      · go_enter Try.func42, Try.ntmps42
        go_wp2_with ((go_at_call 36; (with_reducible refine (is_cs _ _ _ _ _ _ ?_).mono ?_); exact ⟨by simp, rfl, rfl, by decide⟩; rintro e w' ⟨rfl, rfl⟩; first | rw [show isL pa (List.map intOf (#[.int .u8 5, .int .u8 10, .int .u8 13] : Array Value).toList) = _ from S0.out]))
        go_ret
        exact ⟨ret_bool (by simp only [isR, S0.out, h1, h2]; first | done | rfl), by repeat (first | with_reducible refine bel_alloc ?_ _ | with_reducible exact Below.refl _ _)⟩
  · go_enter Try.func42, Try.ntmps42
    go_wp2_with ((go_at_call 36; (with_reducible refine (is_cs _ _ _ _ _ _ ?_).mono ?_); exact ⟨by simp, rfl, rfl, by decide⟩; rintro e w' ⟨rfl, rfl⟩; first | rw [show isL pa (List.map intOf (#[.int .u8 5, .int .u8 10, .int .u8 13] : Array Value).toList) = _ from S0.out]))
    go_ret
    exact ⟨ret_bool (by simp only [isR, S0.out, h1]; first | done | rfl), by repeat (first | with_reducible refine bel_alloc ?_ _ | with_reducible exact Below.refl _ _)⟩
set_option maxHeartbeats 8000000 in
theorem r9_any (p : Pl) (w : World) : Calls Try.prog 43 #[plV p] w fun e w' => e = .returned (.bool (isR 9 p)) ∧ Below w.heap.size w w' := by
  obtain ⟨pa, po, pb, pc⟩ := p
  simp only [plV]
  obtain ⟨s0, q0⟩ : ∃ s, isL pb [15, 17, 18] = s := ⟨_, rfl⟩
  have S0 := Lib.hid q0
  clear q0
  go_enter Try.func43, Try.ntmps43
  go_wp2_with ((go_at_call 36; (with_reducible refine (is_cs _ _ _ _ _ _ ?_).mono ?_); exact ⟨by simp, rfl, rfl, by decide⟩; rintro e w' ⟨rfl, rfl⟩; first | rw [show isL pb (List.map intOf (#[.int .u8 15, .int .u8 17, .int .u8 18] : Array Value).toList) = _ from S0.out]))
  go_ret
  exact ⟨ret_bool (by simp only [isR, S0.out]; first | done | rfl), by repeat (first | with_reducible refine bel_alloc ?_ _ | with_reducible exact Below.refl _ _)⟩
set_option maxHeartbeats 8000000 in
theorem r10_any (p : Pl) (w : World) : Calls Try.prog 44 #[plV p] w fun e w' => e = .returned (.bool (isR 10 p)) ∧ Below w.heap.size w w' := by
  obtain ⟨pa, po, pb, pc⟩ := p
  simp only [plV]
  go_enter Try.func44, Try.ntmps44
  go_wp2
  go_ret
  exact ⟨rfl, by repeat (first | with_reducible refine bel_alloc ?_ _ | with_reducible exact Below.refl _ _)⟩
set_option maxHeartbeats 8000000 in
theorem r11_any (p : Pl) (w : World) : Calls Try.prog 45 #[plV p] w fun e w' => e = .returned (.bool (isR 11 p)) ∧ Below w.heap.size w w' := by
  obtain ⟨pa, po, pb, pc⟩ := p
  simp only [plV]
  cases h1 : (po == 16)
  · go_enter Try.func45, Try.ntmps45
    go_wp2
    go_ret
    exact ⟨ret_bool (by simp only [isR, h1]; first | done | rfl), by repeat (first | with_reducible refine bel_alloc ?_ _ | with_reducible exact Below.refl _ _)⟩
  · cases h2 : (pb == 14)
    · go_enter Try.func45, Try.ntmps45
      go_wp2
      go_ret
      exact ⟨ret_bool (by simp only [isR, h1, h2]; first | done | rfl), by repeat (first | with_reducible refine bel_alloc ?_ _ | with_reducible exact Below.refl _ _)⟩
    · go_enter Try.func45, Try.ntmps45
      go_wp2
      go_ret
      exact ⟨ret_bool (by simp only [isR, h1, h2]; first | done | rfl), by repeat (first | with_reducible refine bel_alloc ?_ _ | with_reducible exact Below.refl _ _)⟩
set_option maxHeartbeats 8000000 in
theorem r12_any (p : Pl) (w : World) : Calls Try.prog 46 #[plV p] w fun e w' => e = .returned (.bool (isR 12 p)) ∧ Below w.heap.size w w' := by
  obtain ⟨pa, po, pb, pc⟩ := p
  simp only [plV]
  cases h1 : (po == 15)
  · go_enter Try.func46, Try.ntmps46
    go_wp2
    go_ret
    exact ⟨ret_bool (by simp only [isR, h1]; first | done | rfl), by repeat (first | with_reducible refine bel_alloc ?_ _ | with_reducible exact Below.refl _ _)⟩
  · cases h2 : (pb == 19)
    · go_enter Try.func46, Try.ntmps46
      go_wp2
      go_ret
      exact ⟨ret_bool (by simp only [isR, h1, h2]; first | done | rfl), by repeat (first | with_reducible refine bel_alloc ?_ _ | with_reducible exact Below.refl _ _)⟩
    · go_enter Try.func46, Try.ntmps46
      go_wp2
      go_ret
      exact ⟨ret_bool (by simp only [isR, h1, h2]; first | done | rfl), by repeat (first | with_reducible refine bel_alloc ?_ _ | with_reducible exact Below.refl _ _)⟩
set_option maxHeartbeats 8000000 in
theorem r13_any (p : Pl) (w : World) : Calls Try.prog 47 #[plV p] w fun e w' => e = .returned (.bool (isR 13 p)) ∧ Below w.heap.size w w' := by
  obtain ⟨pa, po, pb, pc⟩ := p
  simp only [plV]
  cases h1 : (po == 12)
  · go_enter Try.func47, Try.ntmps47
    go_wp2
    go_ret
    exact ⟨ret_bool (by simp only [isR, h1]; first | done | rfl), by repeat (first | with_reducible refine bel_alloc ?_ _ | with_reducible exact Below.refl _ _)⟩
  · cases h2 : (pb == 12)
    · go_enter Try.func47, Try.ntmps47
      go_wp2
      go_ret
      exact ⟨ret_bool (by simp only [isR, h1, h2]; first | done | rfl), by repeat (first | with_reducible refine bel_alloc ?_ _ | with_reducible exact Below.refl _ _)⟩
    · go_enter Try.func47, Try.ntmps47
      go_wp2
      go_ret
      exact ⟨ret_bool (by simp only [isR, h1, h2]; first | done | rfl), by repeat (first | with_reducible refine bel_alloc ?_ _ | with_reducible exact Below.refl _ _)⟩
set_option maxHeartbeats 8000000 in
theorem r14_any (p : Pl) (w : World) : Calls Try.prog 48 #[plV p] w fun e w' => e = .returned (.bool (isR 14 p)) ∧ Below w.heap.size w w' := by
  obtain ⟨pa, po, pb, pc⟩ := p
  simp only [plV]
  go_enter Try.func48, Try.ntmps48
  go_wp2
  go_ret
  exact ⟨rfl, by repeat (first | with_reducible refine bel_alloc ?_ _ | with_reducible exact Below.refl _ _)⟩
set_option maxHeartbeats 8000000 in
theorem r15_any (p : Pl) (w : World) : Calls Try.prog 49 #[plV p] w fun e w' => e = .returned (.bool (isR 15 p)) ∧ Below w.heap.size w w' := by
  obtain ⟨pa, po, pb, pc⟩ := p
  simp only [plV]
  cases h1 : (pa == 16)
  · cases h2 : (pb == 16)
    · go_enter Try.func49, Try.ntmps49
      go_wp2
      go_ret
      exact ⟨ret_bool (by simp only [isR, h1, h2]; first | done | rfl), by repeat (first | with_reducible refine bel_alloc ?_ _ | with_reducible exact Below.refl _ _)⟩
    · go_enter Try.func49, Try.ntmps49
      go_wp2
      go_ret
      exact ⟨ret_bool (by simp only [isR, h1, h2]; first | done | rfl), by repeat (first | with_reducible refine bel_alloc ?_ _ | with_reducible exact Below.refl _ _)⟩
  · go_enter Try.func49, Try.ntmps49
    go_wp2
    go_ret
    exact ⟨ret_bool (by simp only [isR, h1]; first | done | rfl), by repeat (first | with_reducible refine bel_alloc ?_ _ | with_reducible exact Below.refl _ _)⟩
set_option maxHeartbeats 8000000 in
theorem r16_any (p : Pl) (w : World) : Calls Try.prog 50 #[plV p] w fun e w' => e = .returned (.bool (isR 16 p)) ∧ Below w.heap.size w w' := by
  obtain ⟨pa, po, pb, pc⟩ := p
  simp only [plV]
  cases h1 : (pa == 26)
  · cases h2 : (pb == 26)
    · go_enter Try.func50, Try.ntmps50
      go_wp2
      go_ret
      exact ⟨ret_bool (by simp only [isR, h1, h2]; first | done | rfl), by repeat (first | with_reducible refine bel_alloc ?_ _ | with_reducible exact Below.refl _ _)⟩
    · go_enter Try.func50, Try.ntmps50
      go_wp2
      go_ret
      exact ⟨ret_bool (by simp only [isR, h1, h2]; first | done | rfl), by repeat (first | with_reducible refine bel_alloc ?_ _ | with_reducible exact Below.refl _ _)⟩
  · go_enter Try.func50, Try.ntmps50
    go_wp2
    go_ret
    exact ⟨ret_bool (by simp only [isR, h1]; first | done | rfl), by repeat (first | with_reducible refine bel_alloc ?_ _ | with_reducible exact Below.refl _ _)⟩
set_option maxHeartbeats 8000000 in
theorem r17_any (p : Pl) (w : World) : Calls Try.prog 51 #[plV p] w fun e w' => e = .returned (.bool (isR 17 p)) ∧ Below w.heap.size w w' := by
  obtain ⟨pa, po, pb, pc⟩ := p
  simp only [plV]
  obtain ⟨s0, q0⟩ : ∃ s, isL pb [10, 13, 19] = s := ⟨_, rfl⟩
  have S0 := Lib.hid q0
  clear q0
  cases s0
  · cases h1 : (pa == 11)
    · go_enter Try.func51, Try.ntmps51
      go_wp2_with ((go_at_call 36; (with_reducible refine (is_cs _ _ _ _ _ _ ?_).mono ?_); exact ⟨by simp, rfl, rfl, by decide⟩; rintro e w' ⟨rfl, rfl⟩; first | rw [show isL pb (List.map intOf (#[.int .u8 10, .int .u8 13, .int .u8 19] : Array Value).toList) = _ from S0.out]))
      go_ret
      exact ⟨ret_bool (by simp only [isR, S0.out, h1]; first | done | rfl), by repeat (first | with_reducible refine bel_alloc ?_ _ | with_reducible exact Below.refl _ _)⟩
    · go_enter Try.func51, Try.ntmps51
      go_wp2_with ((go_at_call 36; (with_reducible refine (is_cs _ _ _ _ _ _ ?_).mono ?_); exact ⟨by simp, rfl, rfl, by decide⟩; rintro e w' ⟨rfl, rfl⟩; first | rw [show isL pb (List.map intOf (#[.int .u8 10, .int .u8 13, .int .u8 19] : Array Value).toList) = _ from S0.out]))
      go_ret
      exact ⟨ret_bool (by simp only [isR, S0.out, h1]; first | done | rfl), by repeat (first | with_reducible refine bel_alloc ?_ _ | with_reducible exact Below.refl _ _)⟩
  · go_enter Try.func51, Try.ntmps51
    go_wp2_with ((go_at_call 36; (with_reducible refine (is_cs _ _ _ _ _ _ ?_).mono ?_); exact ⟨by simp, rfl, rfl, by decide⟩; rintro e w' ⟨rfl, rfl⟩; first | rw [show isL pb (List.map intOf (#[.int .u8 10, .int .u8 13, .int .u8 19] : Array Value).toList) = _ from S0.out]))
    go_ret
    exact ⟨ret_bool (by simp only [isR, S0.out]; first | done | rfl), by repeat (first | with_reducible refine bel_alloc ?_ _ | with_reducible exact Below.refl _ _)⟩
set_option maxHeartbeats 8000000 in
theorem r18_any (p : Pl) (w : World) : Calls Try.prog 52 #[plV p] w fun e w' => e = .returned (.bool (isR 18 p)) ∧ Below w.heap.size w w' := by
  obtain ⟨pa, po, pb, pc⟩ := p
  simp only [plV]
  go_enter Try.func52, Try.ntmps52
  go_wp2
  go_ret
  exact ⟨rfl, by repeat (first | with_reducible refine bel_alloc ?_ _ | with_reducible exact Below.refl _ _)⟩
set_option maxHeartbeats 8000000 in
theorem r19_any (p : Pl) (w : World) : Calls Try.prog 53 #[plV p] w fun e w' => e = .returned (.bool (isR 19 p)) ∧ Below w.heap.size w w' := by
  obtain ⟨pa, po, pb, pc⟩ := p
  simp only [plV]
  obtain ⟨s0, q0⟩ : ∃ s, bothL pa pb [0, 22, 22, 0, 23, 25, 25, 24] = s := ⟨_, rfl⟩
  have S0 := Lib.hid q0
  clear q0
  go_enter Try.func53, Try.ntmps53
  go_wp2_with ((go_at_call 34; refine (both_lit pa po pb pc _ _ _ [0, 22, 22, 0, 23, 25, 25, 24] _ rfl (by decide) (lit_at _ _ _ _ _ (by simp) rfl rfl)).mono ?_; rintro e w' ⟨rfl, hb'⟩; rw [S0.out]))
  go_ret
  exact ⟨ret_bool (by simp only [isR, S0.out]; first | done | rfl), bel_trans (by repeat (first | with_reducible refine bel_alloc ?_ _ | with_reducible exact Below.refl _ _)) hb'⟩
set_option maxHeartbeats 8000000 in
theorem r20_any (p : Pl) (w : World) : Calls Try.prog 54 #[plV p] w fun e w' => e = .returned (.bool (isR 20 p)) ∧ Below w.heap.size w w' := by
  obtain ⟨pa, po, pb, pc⟩ := p
  simp only [plV]
  obtain ⟨s0, q0⟩ : ∃ s, bothL pa pb [23, 0, 24, 0, 0, 23, 0, 24] = s := ⟨_, rfl⟩
  have S0 := Lib.hid q0
  clear q0
  go_enter Try.func54, Try.ntmps54
  go_wp2_with ((go_at_call 34; refine (both_lit pa po pb pc _ _ _ [23, 0, 24, 0, 0, 23, 0, 24] _ rfl (by decide) (lit_at _ _ _ _ _ (by simp) rfl rfl)).mono ?_; rintro e w' ⟨rfl, hb'⟩; rw [S0.out]))
  go_ret
  exact ⟨ret_bool (by simp only [isR, S0.out]; first | done | rfl), bel_trans (by repeat (first | with_reducible refine bel_alloc ?_ _ | with_reducible exact Below.refl _ _)) hb'⟩
set_option maxHeartbeats 8000000 in
theorem r21_any (p : Pl) (w : World) : Calls Try.prog 55 #[plV p] w fun e w' => e = .returned (.bool (isR 21 p)) ∧ Below w.heap.size w w' := by
  obtain ⟨pa, po, pb, pc⟩ := p
  simp only [plV]
  obtain ⟨s0, q0⟩ : ∃ s, isL pa [15, 22] = s := ⟨_, rfl⟩
  have S0 := Lib.hid q0
  clear q0
  obtain ⟨s1, q1⟩ : ∃ s, isL pb [24, 23] = s := ⟨_, rfl⟩
  have S1 := Lib.hid q1
  clear q1
  obtain ⟨s2, q2⟩ : ∃ s, isL pa [24, 23] = s := ⟨_, rfl⟩
  have S2 := Lib.hid q2
  clear q2
  obtain ⟨s3, q3⟩ : ∃ s, isL pb [14, 22] = s := ⟨_, rfl⟩
  have S3 := Lib.hid q3
  clear q3
  obtain ⟨s4, q4⟩ : ∃ s, isL pa [13, 18, 22] = s := ⟨_, rfl⟩
  have S4 := Lib.hid q4
  clear q4
  cases s0
  · cases s2
    · cases s4
      · go_enter Try.func55, Try.ntmps55
        go_wp2_with ((go_at_call 36; (with_reducible refine (is_cs _ _ _ _ _ _ ?_).mono ?_); exact ⟨by simp, rfl, rfl, by decide⟩; rintro e w' ⟨rfl, rfl⟩; first | rw [show isL pa (List.map intOf (#[.int .u8 15, .int .u8 22] : Array Value).toList) = _ from S0.out] | rw [show isL pb (List.map intOf (#[.int .u8 24, .int .u8 23] : Array Value).toList) = _ from S1.out] | rw [show isL pa (List.map intOf (#[.int .u8 24, .int .u8 23] : Array Value).toList) = _ from S2.out] | rw [show isL pb (List.map intOf (#[.int .u8 14, .int .u8 22] : Array Value).toList) = _ from S3.out] | rw [show isL pa (List.map intOf (#[.int .u8 13, .int .u8 18, .int .u8 22] : Array Value).toList) = _ from S4.out]))
        go_ret
        exact ⟨ret_bool (by simp only [isR, S0.out, S1.out, S2.out, S3.out, S4.out]; first | done | rfl), by repeat (first | with_reducible refine bel_alloc ?_ _ | with_reducible exact Below.refl _ _)⟩
      · cases h1 : (pb == 22)
        · go_enter Try.func55, Try.ntmps55
          go_wp2_with ((go_at_call 36; (with_reducible refine (is_cs _ _ _ _ _ _ ?_).mono ?_); exact ⟨by simp, rfl, rfl, by decide⟩; rintro e w' ⟨rfl, rfl⟩; first | rw [show isL pa (List.map intOf (#[.int .u8 15, .int .u8 22] : Array Value).toList) = _ from S0.out] | rw [show isL pb (List.map intOf (#[.int .u8 24, .int .u8 23] : Array Value).toList) = _ from S1.out] | rw [show isL pa (List.map intOf (#[.int .u8 24, .int .u8 23] : Array Value).toList) = _ from S2.out] | rw [show isL pb (List.map intOf (#[.int .u8 14, .int .u8 22] : Array Value).toList) = _ from S3.out] | rw [show isL pa (List.map intOf (#[.int .u8 13, .int .u8 18, .int .u8 22] : Array Value).toList) = _ from S4.out]))
          go_ret
          exact ⟨ret_bool (by simp only [isR, S0.out, S1.out, S2.out, S3.out, S4.out, h1]; first | done | rfl), by repeat (first | with_reducible refine bel_alloc ?_ _ | with_reducible exact Below.refl _ _)⟩
        · go_enter Try.func55, Try.ntmps55
          go_wp2_with ((go_at_call 36; (with_reducible refine (is_cs _ _ _ _ _ _ ?_).mono ?_); exact ⟨by simp, rfl, rfl, by decide⟩; rintro e w' ⟨rfl, rfl⟩; first | rw [show isL pa (List.map intOf (#[.int .u8 15, .int .u8 22] : Array Value).toList) = _ from S0.out] | rw [show isL pb (List.map intOf (#[.int .u8 24, .int .u8 23] : Array Value).toList) = _ from S1.out] | rw [show isL pa (List.map intOf (#[.int .u8 24, .int .u8 23] : Array Value).toList) = _ from S2.out] | rw [show isL pb (List.map intOf (#[.int .u8 14, .int .u8 22] : Array Value).toList) = _ from S3.out] | rw [show isL pa (List.map intOf (#[.int .u8 13, .int .u8 18, .int .u8 22] : Array Value).toList) = _ from S4.out]))
          go_ret
          exact ⟨ret_bool (by simp only [isR, S0.out, S1.out, S2.out, S3.out, S4.out, h1]; first | done | rfl), by repeat (first | with_reducible refine bel_alloc ?_ _ | with_reducible exact Below.refl _ _)⟩
    · cases s3
      · cases s4
        · go_enter Try.func55, Try.ntmps55
          go_wp2_with ((go_at_call 36; (with_reducible refine (is_cs _ _ _ _ _ _ ?_).mono ?_); exact ⟨by simp, rfl, rfl, by decide⟩; rintro e w' ⟨rfl, rfl⟩; first | rw [show isL pa (List.map intOf (#[.int .u8 15, .int .u8 22] : Array Value).toList) = _ from S0.out] | rw [show isL pb (List.map intOf (#[.int .u8 24, .int .u8 23] : Array Value).toList) = _ from S1.out] | rw [show isL pa (List.map intOf (#[.int .u8 24, .int .u8 23] : Array Value).toList) = _ from S2.out] | rw [show isL pb (List.map intOf (#[.int .u8 14, .int .u8 22] : Array Value).toList) = _ from S3.out] | rw [show isL pa (List.map intOf (#[.int .u8 13, .int .u8 18, .int .u8 22] : Array Value).toList) = _ from S4.out]))
          go_ret
          exact ⟨ret_bool (by simp only [isR, S0.out, S1.out, S2.out, S3.out, S4.out]; first | done | rfl), by repeat (first | with_reducible refine bel_alloc ?_ _ | with_reducible exact Below.refl _ _)⟩
        · cases h2 : (pb == 22)
          · go_enter Try.func55, Try.ntmps55
            go_wp2_with ((go_at_call 36; (with_reducible refine (is_cs _ _ _ _ _ _ ?_).mono ?_); exact ⟨by simp, rfl, rfl, by decide⟩; rintro e w' ⟨rfl, rfl⟩; first | rw [show isL pa (List.map intOf (#[.int .u8 15, .int .u8 22] : Array Value).toList) = _ from S0.out] | rw [show isL pb (List.map intOf (#[.int .u8 24, .int .u8 23] : Array Value).toList) = _ from S1.out] | rw [show isL pa (List.map intOf (#[.int .u8 24, .int .u8 23] : Array Value).toList) = _ from S2.out] | rw [show isL pb (List.map intOf (#[.int .u8 14, .int .u8 22] : Array Value).toList) = _ from S3.out] | rw [show isL pa (List.map intOf (#[.int .u8 13, .int .u8 18, .int .u8 22] : Array Value).toList) = _ from S4.out]))
            go_ret
            exact ⟨ret_bool (by simp only [isR, S0.out, S1.out, S2.out, S3.out, S4.out, h2]; first | done | rfl), by repeat (first | with_reducible refine bel_alloc ?_ _ | with_reducible exact Below.refl _ _)⟩
          · go_enter Try.func55, Try.ntmps55
            go_wp2_with ((go_at_call 36; (with_reducible refine (is_cs _ _ _ _ _ _ ?_).mono ?_); exact ⟨by simp, rfl, rfl, by decide⟩; rintro e w' ⟨rfl, rfl⟩; first | rw [show isL pa (List.map intOf (#[.int .u8 15, .int .u8 22] : Array Value).toList) = _ from S0.out] | rw [show isL pb (List.map intOf (#[.int .u8 24, .int .u8 23] : Array Value).toList) = _ from S1.out] | rw [show isL pa (List.map intOf (#[.int .u8 24, .int .u8 23] : Array Value).toList) = _ from S2.out] | rw [show isL pb (List.map intOf (#[.int .u8 14, .int .u8 22] : Array Value).toList) = _ from S3.out] | rw [show isL pa (List.map intOf (#[.int .u8 13, .int .u8 18, .int .u8 22] : Array Value).toList) = _ from S4.out]))
            go_ret
            exact ⟨ret_bool (by simp only [isR, S0.out, S1.out, S2.out, S3.out, S4.out, h2]; first | done | rfl), by repeat (first | with_reducible refine bel_alloc ?_ _ | with_reducible exact Below.refl _ _)⟩
      · go_enter Try.func55, Try.ntmps55
        go_wp2_with ((go_at_call 36; (with_reducible refine (is_cs _ _ _ _ _ _ ?_).mono ?_); exact ⟨by simp, rfl, rfl, by decide⟩; rintro e w' ⟨rfl, rfl⟩; first | rw [show isL pa (List.map intOf (#[.int .u8 15, .int .u8 22] : Array Value).toList) = _ from S0.out] | rw [show isL pb (List.map intOf (#[.int .u8 24, .int .u8 23] : Array Value).toList) = _ from S1.out] | rw [show isL pa (List.map intOf (#[.int .u8 24, .int .u8 23] : Array Value).toList) = _ from S2.out] | rw [show isL pb (List.map intOf (#[.int .u8 14, .int .u8 22] : Array Value).toList) = _ from S3.out] | rw [show isL pa (List.map intOf (#[.int .u8 13, .int .u8 18, .int .u8 22] : Array Value).toList) = _ from S4.out]))
        go_ret
        exact ⟨ret_bool (by simp only [isR, S0.out, S1.out, S2.out, S3.out, S4.out]; first | done | rfl), by repeat (first | with_reducible refine bel_alloc ?_ _ | with_reducible exact Below.refl _ _)⟩
  · cases s1
    · cases s2
      · cases s4
        · go_enter Try.func55, Try.ntmps55
          go_wp2_with ((go_at_call 36; (with_reducible refine (is_cs _ _ _ _ _ _ ?_).mono ?_); exact ⟨by simp, rfl, rfl, by decide⟩; rintro e w' ⟨rfl, rfl⟩; first | rw [show isL pa (List.map intOf (#[.int .u8 15, .int .u8 22] : Array Value).toList) = _ from S0.out] | rw [show isL pb (List.map intOf (#[.int .u8 24, .int .u8 23] : Array Value).toList) = _ from S1.out] | rw [show isL pa (List.map intOf (#[.int .u8 24, .int .u8 23] : Array Value).toList) = _ from S2.out] | rw [show isL pb (List.map intOf (#[.int .u8 14, .int .u8 22] : Array Value).toList) = _ from S3.out] | rw [show isL pa (List.map intOf (#[.int .u8 13, .int .u8 18, .int .u8 22] : Array Value).toList) = _ from S4.out]))
          go_ret
          exact ⟨ret_bool (by simp only [isR, S0.out, S1.out, S2.out, S3.out, S4.out]; first | done | rfl), by repeat (first | with_reducible refine bel_alloc ?_ _ | with_reducible exact Below.refl _ _)⟩
        · cases h3 : (pb == 22)
          · go_enter Try.func55, Try.ntmps55
            go_wp2_with ((go_at_call 36; (with_reducible refine (is_cs _ _ _ _ _ _ ?_).mono ?_); exact ⟨by simp, rfl, rfl, by decide⟩; rintro e w' ⟨rfl, rfl⟩; first | rw [show isL pa (List.map intOf (#[.int .u8 15, .int .u8 22] : Array Value).toList) = _ from S0.out] | rw [show isL pb (List.map intOf (#[.int .u8 24, .int .u8 23] : Array Value).toList) = _ from S1.out] | rw [show isL pa (List.map intOf (#[.int .u8 24, .int .u8 23] : Array Value).toList) = _ from S2.out] | rw [show isL pb (List.map intOf (#[.int .u8 14, .int .u8 22] : Array Value).toList) = _ from S3.out] | rw [show isL pa (List.map intOf (#[.int .u8 13, .int .u8 18, .int .u8 22] : Array Value).toList) = _ from S4.out]))
            go_ret
            exact ⟨ret_bool (by simp only [isR, S0.out, S1.out, S2.out, S3.out, S4.out, h3]; first | done | rfl), by repeat (first | with_reducible refine bel_alloc ?_ _ | with_reducible exact Below.refl _ _)⟩
          · go_enter Try.func55, Try.ntmps55
            go_wp2_with ((go_at_call 36; (with_reducible refine (is_cs _ _ _ _ _ _ ?_).mono ?_); exact ⟨by simp, rfl, rfl, by decide⟩; rintro e w' ⟨rfl, rfl⟩; first | rw [show isL pa (List.map intOf (#[.int .u8 15, .int .u8 22] : Array Value).toList) = _ from S0.out] | rw [show isL pb (List.map intOf (#[.int .u8 24, .int .u8 23] : Array Value).toList) = _ from S1.out] | rw [show isL pa (List.map intOf (#[.int .u8 24, .int .u8 23] : Array Value).toList) = _ from S2.out] | rw [show isL pb (List.map intOf (#[.int .u8 14, .int .u8 22] : Array Value).toList) = _ from S3.out] | rw [show isL pa (List.map intOf (#[.int .u8 13, .int .u8 18, .int .u8 22] : Array Value).toList) = _ from S4.out]))
            go_ret
            exact ⟨ret_bool (by simp only [isR, S0.out, S1.out, S2.out, S3.out, S4.out, h3]; first | done | rfl), by repeat (first | with_reducible refine bel_alloc ?_ _ | with_reducible exact Below.refl _ _)⟩
      · cases s3
        · cases s4
          · go_enter Try.func55, Try.ntmps55
            go_wp2_with ((go_at_call 36; (with_reducible refine (is_cs _ _ _ _ _ _ ?_).mono ?_); exact ⟨by simp, rfl, rfl, by decide⟩; rintro e w' ⟨rfl, rfl⟩; first | rw [show isL pa (List.map intOf (#[.int .u8 15, .int .u8 22] : Array Value).toList) = _ from S0.out] | rw [show isL pb (List.map intOf (#[.int .u8 24, .int .u8 23] : Array Value).toList) = _ from S1.out] | rw [show isL pa (List.map intOf (#[.int .u8 24, .int .u8 23] : Array Value).toList) = _ from S2.out] | rw [show isL pb (List.map intOf (#[.int .u8 14, .int .u8 22] : Array Value).toList) = _ from S3.out] | rw [show isL pa (List.map intOf (#[.int .u8 13, .int .u8 18, .int .u8 22] : Array Value).toList) = _ from S4.out]))
            go_ret
            exact ⟨ret_bool (by simp only [isR, S0.out, S1.out, S2.out, S3.out, S4.out]; first | done | rfl), by repeat (first | with_reducible refine bel_alloc ?_ _ | with_reducible exact Below.refl _ _)⟩
          · cases h4 : (pb == 22)
            · go_enter Try.func55, Try.ntmps55
              go_wp2_with ((go_at_call 36; (with_reducible refine (is_cs _ _ _ _ _ _ ?_).mono ?_); exact ⟨by simp, rfl, rfl, by decide⟩; rintro e w' ⟨rfl, rfl⟩; first | rw [show isL pa (List.map intOf (#[.int .u8 15, .int .u8 22] : Array Value).toList) = _ from S0.out] | rw [show isL pb (List.map intOf (#[.int .u8 24, .int .u8 23] : Array Value).toList) = _ from S1.out] | rw [show isL pa (List.map intOf (#[.int .u8 24, .int .u8 23] : Array Value).toList) = _ from S2.out] | rw [show isL pb (List.map intOf (#[.int .u8 14, .int .u8 22] : Array Value).toList) = _ from S3.out] | rw [show isL pa (List.map intOf (#[.int .u8 13, .int .u8 18, .int .u8 22] : Array Value).toList) = _ from S4.out]))
              go_ret
              exact ⟨ret_bool (by simp only [isR, S0.out, S1.out, S2.out, S3.out, S4.out, h4]; first | done | rfl), by repeat (first | with_reducible refine bel_alloc ?_ _ | with_reducible exact Below.refl _ _)⟩
            · go_enter Try.func55, Try.ntmps55
              go_wp2_with ((go_at_call 36; (with_reducible refine (is_cs _ _ _ _ _ _ ?_).mono ?_); exact ⟨by simp, rfl, rfl, by decide⟩; rintro e w' ⟨rfl, rfl⟩; first | rw [show isL pa (List.map intOf (#[.int .u8 15, .int .u8 22] : Array Value).toList) = _ from S0.out] | rw [show isL pb (List.map intOf (#[.int .u8 24, .int .u8 23] : Array Value).toList) = _ from S1.out] | rw [show isL pa (List.map intOf (#[.int .u8 24, .int .u8 23] : Array Value).toList) = _ from S2.out] | rw [show isL pb (List.map intOf (#[.int .u8 14, .int .u8 22] : Array Value).toList) = _ from S3.out] | rw [show isL pa (List.map intOf (#[.int .u8 13, .int .u8 18, .int .u8 22] : Array Value).toList) = _ from S4.out]))
              go_ret
              exact ⟨ret_bool (by simp only [isR, S0.out, S1.out, S2.out, S3.out, S4.out, h4]; first | done | rfl), by repeat (first | with_reducible refine bel_alloc ?_ _ | with_reducible exact Below.refl _ _)⟩
        · go_enter Try.func55, Try.ntmps55
          go_wp2_with ((go_at_call 36; (with_reducible refine (is_cs _ _ _ _ _ _ ?_).mono ?_); exact ⟨by simp, rfl, rfl, by decide⟩; rintro e w' ⟨rfl, rfl⟩; first | rw [show isL pa (List.map intOf (#[.int .u8 15, .int .u8 22] : Array Value).toList) = _ from S0.out] | rw [show isL pb (List.map intOf (#[.int .u8 24, .int .u8 23] : Array Value).toList) = _ from S1.out] | rw [show isL pa (List.map intOf (#[.int .u8 24, .int .u8 23] : Array Value).toList) = _ from S2.out] | rw [show isL pb (List.map intOf (#[.int .u8 14, .int .u8 22] : Array Value).toList) = _ from S3.out] | rw [show isL pa (List.map intOf (#[.int .u8 13, .int .u8 18, .int .u8 22] : Array Value).toList) = _ from S4.out]))
          go_ret
          exact ⟨ret_bool (by simp only [isR, S0.out, S1.out, S2.out, S3.out, S4.out]; first | done | rfl), by repeat (first | with_reducible refine bel_alloc ?_ _ | with_reducible exact Below.refl _ _)⟩
    · go_enter Try.func55, Try.ntmps55
      go_wp2_with ((go_at_call 36; (with_reducible refine (is_cs _ _ _ _ _ _ ?_).mono ?_); exact ⟨by simp, rfl, rfl, by decide⟩; rintro e w' ⟨rfl, rfl⟩; first | rw [show isL pa (List.map intOf (#[.int .u8 15, .int .u8 22] : Array Value).toList) = _ from S0.out] | rw [show isL pb (List.map intOf (#[.int .u8 24, .int .u8 23] : Array Value).toList) = _ from S1.out] | rw [show isL pa (List.map intOf (#[.int .u8 24, .int .u8 23] : Array Value).toList) = _ from S2.out] | rw [show isL pb (List.map intOf (#[.int .u8 14, .int .u8 22] : Array Value).toList) = _ from S3.out] | rw [show isL pa (List.map intOf (#[.int .u8 13, .int .u8 18, .int .u8 22] : Array Value).toList) = _ from S4.out]))
      go_ret
      exact ⟨ret_bool (by simp only [isR, S0.out, S1.out, S2.out, S3.out, S4.out]; first | done | rfl), by repeat (first | with_reducible refine bel_alloc ?_ _ | with_reducible exact Below.refl _ _)⟩
set_option maxHeartbeats 8000000 in
theorem r22_any (p : Pl) (w : World) : Calls Try.prog 56 #[plV p] w fun e w' => e = .returned (.bool (isR 22 p)) ∧ Below w.heap.size w w' := by
  obtain ⟨pa, po, pb, pc⟩ := p
  simp only [plV]
  obtain ⟨s0, q0⟩ : ∃ s, bothL pa pb [0, 0] = s := ⟨_, rfl⟩
  have S0 := Lib.hid q0
  clear q0
  go_enter Try.func56, Try.ntmps56
  go_wp2_with ((go_at_call 34; refine (both_lit pa po pb pc _ _ _ [0, 0] _ rfl (by decide) (lit_at _ _ _ _ _ (by simp) rfl rfl)).mono ?_; rintro e w' ⟨rfl, hb'⟩; rw [S0.out]))
  go_ret
  exact ⟨ret_bool (by simp only [isR, S0.out]; first | done | rfl), bel_trans (by repeat (first | with_reducible refine bel_alloc ?_ _ | with_reducible exact Below.refl _ _)) hb'⟩
set_option maxHeartbeats 8000000 in
theorem r23_any (p : Pl) (w : World) : Calls Try.prog 57 #[plV p] w fun e w' => e = .returned (.bool (isR 23 p)) ∧ Below w.heap.size w w' := by
  obtain ⟨pa, po, pb, pc⟩ := p
  simp only [plV]
  obtain ⟨s0, q0⟩ : ∃ s, bothL pa pb [18, 0] = s := ⟨_, rfl⟩
  have S0 := Lib.hid q0
  clear q0
  go_enter Try.func57, Try.ntmps57
  go_wp2_with ((go_at_call 34; refine (both_lit pa po pb pc _ _ _ [18, 0] _ rfl (by decide) (lit_at _ _ _ _ _ (by simp) rfl rfl)).mono ?_; rintro e w' ⟨rfl, hb'⟩; rw [S0.out]))
  go_ret
  exact ⟨ret_bool (by simp only [isR, S0.out]; first | done | rfl), bel_trans (by repeat (first | with_reducible refine bel_alloc ?_ _ | with_reducible exact Below.refl _ _)) hb'⟩
set_option maxHeartbeats 8000000 in
theorem r24_any (p : Pl) (w : World) : Calls Try.prog 58 #[plV p] w fun e w' => e = .returned (.bool (isR 24 p)) ∧ Below w.heap.size w w' := by
  obtain ⟨pa, po, pb, pc⟩ := p
  simp only [plV]
  go_enter Try.func58, Try.ntmps58
  go_wp2
  go_ret
  exact ⟨rfl, by repeat (first | with_reducible refine bel_alloc ?_ _ | with_reducible exact Below.refl _ _)⟩
/-- The functions of the rules. -/
def gR (k : Nat) : Nat := [32, 33, 35, 37, 38, 39, 40, 41, 42, 43, 44, 45, 46, 47, 48, 49, 50, 51, 52, 53, 54, 55, 56, 57].getD k 58
theorem rule_any (k : Nat) (hk : k < 25) (p : Pl) (w : World) : Calls Try.prog (gR k) #[plV p] w fun e w' => e = .returned (.bool (isR k p)) ∧ Below w.heap.size w w' := by
  match k, hk with
  | 0, _ => exact r0_any p w
  | 1, _ => exact r1_any p w
  | 2, _ => exact r2_any p w
  | 3, _ => exact r3_any p w
  | 4, _ => exact r4_any p w
  | 5, _ => exact r5_any p w
  | 6, _ => exact r6_any p w
  | 7, _ => exact r7_any p w
  | 8, _ => exact r8_any p w
  | 9, _ => exact r9_any p w
  | 10, _ => exact r10_any p w
  | 11, _ => exact r11_any p w
  | 12, _ => exact r12_any p w
  | 13, _ => exact r13_any p w
  | 14, _ => exact r14_any p w
  | 15, _ => exact r15_any p w
  | 16, _ => exact r16_any p w
  | 17, _ => exact r17_any p w
  | 18, _ => exact r18_any p w
  | 19, _ => exact r19_any p w
  | 20, _ => exact r20_any p w
  | 21, _ => exact r21_any p w
  | 22, _ => exact r22_any p w
  | 23, _ => exact r23_any p w
  | 24, _ => exact r24_any p w
  | k + 25, h => exact absurd h (by omega)
theorem rule_enters (k : Nat) (hk : k < 25) (args : Array Value) (w : World) : (callFunc (gR k) args).run Try.prog w = .ok (.enter (gR k) args) w := by
  match k, hk with
  | 0, _ => exact Go.Proofs.enters_of Try.func32 (by kernel_rfl) rfl args w
  | 1, _ => exact Go.Proofs.enters_of Try.func33 (by kernel_rfl) rfl args w
  | 2, _ => exact Go.Proofs.enters_of Try.func35 (by kernel_rfl) rfl args w
  | 3, _ => exact Go.Proofs.enters_of Try.func37 (by kernel_rfl) rfl args w
  | 4, _ => exact Go.Proofs.enters_of Try.func38 (by kernel_rfl) rfl args w
  | 5, _ => exact Go.Proofs.enters_of Try.func39 (by kernel_rfl) rfl args w
  | 6, _ => exact Go.Proofs.enters_of Try.func40 (by kernel_rfl) rfl args w
  | 7, _ => exact Go.Proofs.enters_of Try.func41 (by kernel_rfl) rfl args w
  | 8, _ => exact Go.Proofs.enters_of Try.func42 (by kernel_rfl) rfl args w
  | 9, _ => exact Go.Proofs.enters_of Try.func43 (by kernel_rfl) rfl args w
  | 10, _ => exact Go.Proofs.enters_of Try.func44 (by kernel_rfl) rfl args w
  | 11, _ => exact Go.Proofs.enters_of Try.func45 (by kernel_rfl) rfl args w
  | 12, _ => exact Go.Proofs.enters_of Try.func46 (by kernel_rfl) rfl args w
  | 13, _ => exact Go.Proofs.enters_of Try.func47 (by kernel_rfl) rfl args w
  | 14, _ => exact Go.Proofs.enters_of Try.func48 (by kernel_rfl) rfl args w
  | 15, _ => exact Go.Proofs.enters_of Try.func49 (by kernel_rfl) rfl args w
  | 16, _ => exact Go.Proofs.enters_of Try.func50 (by kernel_rfl) rfl args w
  | 17, _ => exact Go.Proofs.enters_of Try.func51 (by kernel_rfl) rfl args w
  | 18, _ => exact Go.Proofs.enters_of Try.func52 (by kernel_rfl) rfl args w
  | 19, _ => exact Go.Proofs.enters_of Try.func53 (by kernel_rfl) rfl args w
  | 20, _ => exact Go.Proofs.enters_of Try.func54 (by kernel_rfl) rfl args w
  | 21, _ => exact Go.Proofs.enters_of Try.func55 (by kernel_rfl) rfl args w
  | 22, _ => exact Go.Proofs.enters_of Try.func56 (by kernel_rfl) rfl args w
  | 23, _ => exact Go.Proofs.enters_of Try.func57 (by kernel_rfl) rfl args w
  | 24, _ => exact Go.Proofs.enters_of Try.func58 (by kernel_rfl) rfl args w
  | k + 25, h => exact absurd h (by omega)
end Go.Proofs.Ytlobedonclimbaa.Pair

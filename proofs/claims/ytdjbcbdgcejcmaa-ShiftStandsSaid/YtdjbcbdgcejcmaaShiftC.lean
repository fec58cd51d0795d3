/- Chapter 19: the reference's Shift, walked kind by kind. No condition. -/
import Derived.Test.YtdjbcbdgcejcmaaShiftB
namespace Go.Proofs.Ytdjbcbdgcejcmaa.Unit
open Go.RowKit Go.Proofs.Ytdjbcbdgcejcmaa.Div Go.Great
set_option linter.unusedVariables false

set_option maxHeartbeats 4000000 in
set_option maxRecDepth 100000 in
theorem rshift_no (k : Nat) (n A B U D X S H : Int) (ok : Bool) (hk8 : (k : Int) ≤ 255) (h : 10 ≤ k ∨ k < 10 ∧ ok = false) (hok : Hid (allU [n, A, B, U, D, X, S, H] = ok)) (w : World) :
    Calls Try.prog 7 #[vaV k n, boxV A B, arV U D X S H] w fun e w' => e = shR 0 0 2 ∧ Below w.heap.size w w' := by
  rcases h with h | ⟨h, rfl⟩
  all_goals
    go_enter Try.func7, Try.ntmps7
    go_wp2_with (go_at_call 12; refine (rMay_any _ 8 8 [n, A, B, U, D, X, S, H] _ rfl ?_ (by omega)).mono ?_; exact reads_at _ _ _ _ _ _ rfl rfl (by simp); rintro e w2 ⟨rfl, ⟨m2, rfl⟩⟩; rw [hok.out])
    go_ret3
    exact ⟨rfl, by repeat (first | exact Below.refl _ _ | refine bel_alloc ?_ _ | refine bel_drewN ?_ _)⟩
set_option maxHeartbeats 4000000 in
set_option maxRecDepth 100000 in
theorem rshift_0 {n A B U D X S H : Int} (sm : Small8 n A B U D X S H) (hok : Hid (allU [n, A, B, U, D, X, S, H] = true)) (w : World) :
    Calls Try.prog 7 #[vaV 0 n, boxV A B, arV U D X S H] w fun e w' => e = shR (0) 0 0 ∧ Below w.heap.size w w' := by
  clear sm
  go_enter Try.func7, Try.ntmps7
  go_wp2_with (first
    | (go_at_call 12; refine (rMay_any _ 8 8 [n, A, B, U, D, X, S, H] _ rfl ?_ (by omega)).mono ?_; exact reads_at _ _ _ _ _ _ rfl rfl (by simp); rintro e w2 ⟨rfl, ⟨m2, rfl⟩⟩; rw [hok.out]))
  go_ret3
  exact ⟨rfl, by repeat (first | exact Below.refl _ _ | exact bel_trans (by repeat (first | exact Below.refl _ _ | refine bel_alloc ?_ _ | refine bel_drewN ?_ _)) hb3 | refine bel_alloc ?_ _ | refine bel_drewN ?_ _)⟩
set_option maxHeartbeats 4000000 in
set_option maxRecDepth 100000 in
theorem rshift_1 {n A B U D X S H : Int} (sm : Small8 n A B U D X S H) (hok : Hid (allU [n, A, B, U, D, X, S, H] = true)) (w : World) :
    Calls Try.prog 7 #[vaV 1 n, boxV A B, arV U D X S H] w fun e w' => e = shR (-rnd (S * 1) 5) 0 0 ∧ Below w.heap.size w w' := by
  obtain ⟨s_0, s_1⟩ := sm.S
  have C := Lib.hid (scale_in S 1 5 (by omega) (by omega) (by omega) (by omega) (by omega) (by omega)).2
  have b := rnd_bd (S * 1) 5 1073741824 (by omega) (by omega) (by omega) (by omega)
  generalize rnd (S * 1) 5 = v at *
  have e1 : wrap64 (-v) = -v := by unfold wrap64; omega
  obtain ⟨b0, b1⟩ := b
  clear sm
  go_enter Try.func7, Try.ntmps7
  go_wp2_with (first
    | (go_at_call 12; refine (rMay_any _ 8 8 [n, A, B, U, D, X, S, H] _ rfl ?_ (by omega)).mono ?_; exact reads_at _ _ _ _ _ _ rfl rfl (by simp); rintro e w2 ⟨rfl, ⟨m2, rfl⟩⟩; rw [hok.out])
    | (go_at_call 13; ((with_reducible refine (C.out _).mono ?_); rintro e w3 ⟨rfl, hb3⟩)))
  go_ret3
  exact ⟨rfl, by repeat (first | exact Below.refl _ _ | exact bel_trans (by repeat (first | exact Below.refl _ _ | refine bel_alloc ?_ _ | refine bel_drewN ?_ _)) hb3 | refine bel_alloc ?_ _ | refine bel_drewN ?_ _)⟩
set_option maxHeartbeats 4000000 in
set_option maxRecDepth 100000 in
theorem rshift_2 {n A B U D X S H : Int} (sm : Small8 n A B U D X S H) (hok : Hid (allU [n, A, B, U, D, X, S, H] = true)) (w : World) :
    Calls Try.prog 7 #[vaV 2 n, boxV A B, arV U D X S H] w fun e w' => e = shR (rnd (S * 1) 3) 0 0 ∧ Below w.heap.size w w' := by
  obtain ⟨s_0, s_1⟩ := sm.S
  have C := Lib.hid (scale_in S 1 3 (by omega) (by omega) (by omega) (by omega) (by omega) (by omega)).2
  generalize rnd (S * 1) 3 = v at *
  clear sm
  go_enter Try.func7, Try.ntmps7
  go_wp2_with (first
    | (go_at_call 12; refine (rMay_any _ 8 8 [n, A, B, U, D, X, S, H] _ rfl ?_ (by omega)).mono ?_; exact reads_at _ _ _ _ _ _ rfl rfl (by simp); rintro e w2 ⟨rfl, ⟨m2, rfl⟩⟩; rw [hok.out])
    | (go_at_call 13; ((with_reducible refine (C.out _).mono ?_); rintro e w3 ⟨rfl, hb3⟩)))
  go_ret3
  exact ⟨rfl, by repeat (first | exact Below.refl _ _ | exact bel_trans (by repeat (first | exact Below.refl _ _ | refine bel_alloc ?_ _ | refine bel_drewN ?_ _)) hb3 | refine bel_alloc ?_ _ | refine bel_drewN ?_ _)⟩
set_option maxHeartbeats 4000000 in
set_option maxRecDepth 100000 in
theorem rshift_3 {n A B U D X S H : Int} (sm : Small8 n A B U D X S H) (hok : Hid (allU [n, A, B, U, D, X, S, H] = true)) (w : World) :
    Calls Try.prog 7 #[vaV 3 n, boxV A B, arV U D X S H] w fun e w' => e = shR (U - A) 0 0 ∧ Below w.heap.size w w' := by
  obtain ⟨u_0, u_1⟩ := sm.U
  obtain ⟨a_0, a_1⟩ := sm.A
  clear sm
  go_enter Try.func7, Try.ntmps7
  go_wp2_with (first
    | (go_at_call 12; refine (rMay_any _ 8 8 [n, A, B, U, D, X, S, H] _ rfl ?_ (by omega)).mono ?_; exact reads_at _ _ _ _ _ _ rfl rfl (by simp); rintro e w2 ⟨rfl, ⟨m2, rfl⟩⟩; rw [hok.out]))
  go_ret3
  exact ⟨rfl, by repeat (first | exact Below.refl _ _ | exact bel_trans (by repeat (first | exact Below.refl _ _ | refine bel_alloc ?_ _ | refine bel_drewN ?_ _)) hb3 | refine bel_alloc ?_ _ | refine bel_drewN ?_ _)⟩
set_option maxHeartbeats 4000000 in
set_option maxRecDepth 100000 in
theorem rshift_4 {n A B U D X S H : Int} (sm : Small8 n A B U D X S H) (hok : Hid (allU [n, A, B, U, D, X, S, H] = true)) (w : World) :
    Calls Try.prog 7 #[vaV 4 n, boxV A B, arV U D X S H] w fun e w' => e = shR (B - D) 0 0 ∧ Below w.heap.size w w' := by
  obtain ⟨b_0, b_1⟩ := sm.B
  obtain ⟨d_0, d_1⟩ := sm.D
  clear sm
  go_enter Try.func7, Try.ntmps7
  go_wp2_with (first
    | (go_at_call 12; refine (rMay_any _ 8 8 [n, A, B, U, D, X, S, H] _ rfl ?_ (by omega)).mono ?_; exact reads_at _ _ _ _ _ _ rfl rfl (by simp); rintro e w2 ⟨rfl, ⟨m2, rfl⟩⟩; rw [hok.out]))
  go_ret3
  exact ⟨rfl, by repeat (first | exact Below.refl _ _ | exact bel_trans (by repeat (first | exact Below.refl _ _ | refine bel_alloc ?_ _ | refine bel_drewN ?_ _)) hb3 | refine bel_alloc ?_ _ | refine bel_drewN ?_ _)⟩
set_option maxHeartbeats 4000000 in
set_option maxRecDepth 100000 in
theorem rshift_5 {n A B U D X S H : Int} (sm : Small8 n A B U D X S H) (hok : Hid (allU [n, A, B, U, D, X, S, H] = true)) (w : World) :
    Calls Try.prog 7 #[vaV 5 n, boxV A B, arV U D X S H] w fun e w' => e = shR ((X - A + B) / 2) 0 0 ∧ Below w.heap.size w w' := by
  obtain ⟨x_0, x_1⟩ := sm.X
  obtain ⟨a_0, a_1⟩ := sm.A
  obtain ⟨b_0, b_1⟩ := sm.B
  have C := Lib.hid (fun W => rhalves_any (X - A + B) (by omega) (by omega) W)
  generalize hv : (X - A + B) / 2 = v at *
  have HV := Lib.hid hv
  clear hv
  clear sm
  go_enter Try.func7, Try.ntmps7
  go_wp2_with (first
    | (go_at_call 12; refine (rMay_any _ 8 8 [n, A, B, U, D, X, S, H] _ rfl ?_ (by omega)).mono ?_; exact reads_at _ _ _ _ _ _ rfl rfl (by simp); rintro e w2 ⟨rfl, ⟨m2, rfl⟩⟩; rw [hok.out])
    | (go_at_call 14; ((with_reducible refine (C.out _).mono ?_); rintro e w3 ⟨rfl, ⟨m3, rfl⟩⟩)))
  go_ret3
  exact ⟨rfl, by repeat (first | exact Below.refl _ _ | exact bel_trans (by repeat (first | exact Below.refl _ _ | refine bel_alloc ?_ _ | refine bel_drewN ?_ _)) hb3 | refine bel_alloc ?_ _ | refine bel_drewN ?_ _)⟩
set_option maxHeartbeats 4000000 in
set_option maxRecDepth 100000 in
theorem rshift_6 {n A B U D X S H : Int} (sm : Small8 n A B U D X S H) (hok : Hid (allU [n, A, B, U, D, X, S, H] = true)) (w : World) :
    Calls Try.prog 7 #[vaV 6 n, boxV A B, arV U D X S H] w fun e w' => e = shR (n) 0 0 ∧ Below w.heap.size w w' := by
  clear sm
  go_enter Try.func7, Try.ntmps7
  go_wp2_with (first
    | (go_at_call 12; refine (rMay_any _ 8 8 [n, A, B, U, D, X, S, H] _ rfl ?_ (by omega)).mono ?_; exact reads_at _ _ _ _ _ _ rfl rfl (by simp); rintro e w2 ⟨rfl, ⟨m2, rfl⟩⟩; rw [hok.out]))
  go_ret3
  exact ⟨rfl, by repeat (first | exact Below.refl _ _ | exact bel_trans (by repeat (first | exact Below.refl _ _ | refine bel_alloc ?_ _ | refine bel_drewN ?_ _)) hb3 | refine bel_alloc ?_ _ | refine bel_drewN ?_ _)⟩
set_option maxHeartbeats 4000000 in
set_option maxRecDepth 100000 in
theorem rshift_7 {n A B U D X S H : Int} (sm : Small8 n A B U D X S H) (hok : Hid (allU [n, A, B, U, D, X, S, H] = true)) (w : World) :
    Calls Try.prog 7 #[vaV 7 n, boxV A B, arV U D X S H] w fun e w' => e = shR (rnd (n * H) 64) 0 0 ∧ Below w.heap.size w w' := by
  obtain ⟨n_0, n_1⟩ := sm.n
  obtain ⟨h_0, h_1⟩ := sm.H
  have C := Lib.hid (scale_in n H 64 (by omega) (by omega) (by omega) (by omega) (by omega) (by omega)).2
  generalize rnd (n * H) 64 = v at *
  clear sm
  go_enter Try.func7, Try.ntmps7
  go_wp2_with (first
    | (go_at_call 12; refine (rMay_any _ 8 8 [n, A, B, U, D, X, S, H] _ rfl ?_ (by omega)).mono ?_; exact reads_at _ _ _ _ _ _ rfl rfl (by simp); rintro e w2 ⟨rfl, ⟨m2, rfl⟩⟩; rw [hok.out])
    | (go_at_call 13; ((with_reducible refine (C.out _).mono ?_); rintro e w3 ⟨rfl, hb3⟩)))
  go_ret3
  exact ⟨rfl, by repeat (first | exact Below.refl _ _ | exact bel_trans (by repeat (first | exact Below.refl _ _ | refine bel_alloc ?_ _ | refine bel_drewN ?_ _)) hb3 | refine bel_alloc ?_ _ | refine bel_drewN ?_ _)⟩
set_option maxHeartbeats 4000000 in
set_option maxRecDepth 100000 in
theorem rshift_8 {n A B U D X S H : Int} (sm : Small8 n A B U D X S H) (hok : Hid (allU [n, A, B, U, D, X, S, H] = true)) (w : World) :
    Calls Try.prog 7 #[vaV 8 n, boxV A B, arV U D X S H] w fun e w' => e = shR (0) 1 0 ∧ Below w.heap.size w w' := by
  clear sm
  go_enter Try.func7, Try.ntmps7
  go_wp2_with (first
    | (go_at_call 12; refine (rMay_any _ 8 8 [n, A, B, U, D, X, S, H] _ rfl ?_ (by omega)).mono ?_; exact reads_at _ _ _ _ _ _ rfl rfl (by simp); rintro e w2 ⟨rfl, ⟨m2, rfl⟩⟩; rw [hok.out]))
  go_ret3
  exact ⟨rfl, by repeat (first | exact Below.refl _ _ | exact bel_trans (by repeat (first | exact Below.refl _ _ | refine bel_alloc ?_ _ | refine bel_drewN ?_ _)) hb3 | refine bel_alloc ?_ _ | refine bel_drewN ?_ _)⟩
set_option maxHeartbeats 4000000 in
set_option maxRecDepth 100000 in
theorem rshift_9 {n A B U D X S H : Int} (sm : Small8 n A B U D X S H) (hok : Hid (allU [n, A, B, U, D, X, S, H] = true)) (w : World) :
    Calls Try.prog 7 #[vaV 9 n, boxV A B, arV U D X S H] w fun e w' => e = shR (0) 2 0 ∧ Below w.heap.size w w' := by
  clear sm
  go_enter Try.func7, Try.ntmps7
  go_wp2_with (first
    | (go_at_call 12; refine (rMay_any _ 8 8 [n, A, B, U, D, X, S, H] _ rfl ?_ (by omega)).mono ?_; exact reads_at _ _ _ _ _ _ rfl rfl (by simp); rintro e w2 ⟨rfl, ⟨m2, rfl⟩⟩; rw [hok.out]))
  go_ret3
  exact ⟨rfl, by repeat (first | exact Below.refl _ _ | exact bel_trans (by repeat (first | exact Below.refl _ _ | refine bel_alloc ?_ _ | refine bel_drewN ?_ _)) hb3 | refine bel_alloc ?_ _ | refine bel_drewN ?_ _)⟩
theorem rshift_yes (k : Nat) (n A B U D X S H : Int) (hk : k < 10) (hok : Hid (allU [n, A, B, U, D, X, S, H] = true)) (w : World) :
    Calls Try.prog 7 #[vaV k n, boxV A B, arV U D X S H] w fun e w' => e = shR (shUp k n A B U D X S H) (shEd k) 0 ∧ Below w.heap.size w w' := by
  have sm := small8 hok.out
  rcases (show k = 0 ∨ k = 1 ∨ k = 2 ∨ k = 3 ∨ k = 4 ∨ k = 5 ∨ k = 6 ∨ k = 7 ∨ k = 8 ∨ k = 9 by omega) with rfl | rfl | rfl | rfl | rfl | rfl | rfl | rfl | rfl | rfl
  · exact rshift_0 sm hok w
  · exact rshift_1 sm hok w
  · exact rshift_2 sm hok w
  · exact rshift_3 sm hok w
  · exact rshift_4 sm hok w
  · exact rshift_5 sm hok w
  · exact rshift_6 sm hok w
  · exact rshift_7 sm hok w
  · exact rshift_8 sm hok w
  · exact rshift_9 sm hok w
end Go.Proofs.Ytdjbcbdgcejcmaa.Unit

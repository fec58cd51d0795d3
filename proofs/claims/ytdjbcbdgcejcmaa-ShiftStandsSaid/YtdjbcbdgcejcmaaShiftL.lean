/- Chapter 19: the head of the laws; ShiftTells and ShiftTimes, walked: they return true, for every input. No condition. -/
import Derived.Test.YtdjbcbdgcejcmaaShiftC
import Derived.Laws.StructEq
namespace Go.Proofs.Ytdjbcbdgcejcmaa.Unit
open Go.RowKit Go.Proofs.Ytdjbcbdgcejcmaa.Div Go.Great
set_option linter.unusedVariables false

/-- A law's boxed arguments. -/
structure BA (W : World) (g h : Nat) (A B U D X S H : Int) : Prop where
  b : Blk W g 25 #[.int .i64 A, .int .i64 B]
  a : Blk W h 27 #[.int .i64 U, .int .i64 D, .int .i64 X, .int .i64 S, .int .i64 H]
theorem BA.keep {W W1 : World} {g h : Nat} {A B U D X S H : Int} (m : BA W g h A B U D X S H) (hb : Below W.heap.size W W1) : BA W1 g h A B U D X S H := ⟨m.b.keep hb, m.a.keep hb⟩
theorem BA.cells {W : World} {g h : Nat} {A B U D X S H : Int} (m : BA W g h A B U D X S H) :
    W.cell? ⟨g, 0, none⟩ = some (.int .i64 A) ∧ W.cell? ⟨g, 1, none⟩ = some (.int .i64 B) ∧ W.cell? ⟨h, 0, none⟩ = some (.int .i64 U) ∧ W.cell? ⟨h, 1, none⟩ = some (.int .i64 D) ∧ W.cell? ⟨h, 2, none⟩ = some (.int .i64 X) ∧ W.cell? ⟨h, 3, none⟩ = some (.int .i64 S) ∧ W.cell? ⟨h, 4, none⟩ = some (.int .i64 H) :=
  ⟨m.b.cell 0, m.b.cell 1, m.a.cell 0, m.a.cell 1, m.a.cell 2, m.a.cell 3, m.a.cell 4⟩
theorem BA.new3 (w : World) (k n A B U D X S H : Int) : BA (((w.alloc (.cells #[.int .u8 k, .int .i64 n] 23)).alloc (.cells #[.int .i64 A, .int .i64 B] 25)).alloc (.cells #[.int .i64 U, .int .i64 D, .int .i64 X, .int .i64 S, .int .i64 H] 27)) (w.heap.size + 1) (w.heap.size + 1 + 1) A B U D X S H := by
  obtain ⟨_, h1, h2, _⟩ := box3 (w := w) (c0 := #[.int .u8 k, .int .i64 n]) (t0 := 23) (c1 := #[.int .i64 A, .int .i64 B]) (t1 := 25) (c2 := #[.int .i64 U, .int .i64 D, .int .i64 X, .int .i64 S, .int .i64 H]) (t2 := 27) (Below.refl _ _)
  exact ⟨h1, h2⟩
theorem BA.new2 (w : World) (A B U D X S H : Int) : BA ((w.alloc (.cells #[.int .i64 A, .int .i64 B] 25)).alloc (.cells #[.int .i64 U, .int .i64 D, .int .i64 X, .int .i64 S, .int .i64 H] 27)) w.heap.size (w.heap.size + 1) A B U D X S H := by
  have h1 := Blk.new (w.alloc (.cells #[.int .i64 A, .int .i64 B] 25)) 27 #[.int .i64 U, .int .i64 D, .int .i64 X, .int .i64 S, .int .i64 H]
  rw [World.size_alloc] at h1
  exact ⟨(Blk.new w _ _).alloc _, h1⟩
abbrev cS (k n A B U D X S H v d e : Int) : Prop := ∀ W, Calls Try.prog 6 #[vaV k n, boxV A B, arV U D X S H] W fun x w' => x = shR v d e ∧ Below W.heap.size W w'
abbrev cT (k n A B U D X S H v d e : Int) : Prop := ∀ W, Calls Try.prog 7 #[vaV k n, boxV A B, arV U D X S H] W fun x w' => x = shR v d e ∧ Below W.heap.size W w'
abbrev cMv (a b u p q : Int) : Prop := ∀ W, Calls Try.prog 9 #[boxV a b, .int .i64 u] W fun e w' => e = .returned (boxV p q) ∧ Below W.heap.size W w'
theorem shift_any (k : Nat) (n A B U D X S H : Int) (hk : (k : Int) ≤ 255) :
    (k < 10 ∧ allU [n, A, B, U, D, X, S, H] = true ∧ cS k n A B U D X S H (shUp k n A B U D X S H) (shEd k) 0 ∧ cT k n A B U D X S H (shUp k n A B U D X S H) (shEd k) 0) ∨
    ((10 ≤ k ∨ allU [n, A, B, U, D, X, S, H] = false) ∧ cS k n A B U D X S H 0 0 2 ∧ cT k n A B U D X S H 0 0 2) := by
  rcases Nat.lt_or_ge k 10 with h | h
  · cases hok : allU [n, A, B, U, D, X, S, H] with
    | true => exact .inl ⟨h, rfl, fun W => shift_yes k n A B U D X S H h (Lib.hid hok) W, fun W => rshift_yes k n A B U D X S H h (Lib.hid hok) W⟩
    | false => exact .inr ⟨.inr rfl, fun W => shift_no k n A B U D X S H false hk (.inr ⟨h, rfl⟩) (Lib.hid hok) W, fun W => rshift_no k n A B U D X S H false hk (.inr ⟨h, rfl⟩) (Lib.hid hok) W⟩
  · exact .inr ⟨.inl h, fun W => shift_no k n A B U D X S H _ hk (.inl h) (Lib.hid rfl) W, fun W => rshift_no k n A B U D X S H _ hk (.inl h) (Lib.hid rfl) W⟩

abbrev cU (k n v : Int) : Prop := ∀ w, Calls Try.prog 15 #[.int .u8 k, .int .i64 n] w fun e w' => e = .returned (.int .i64 v) ∧ Below w.heap.size w w'
theorem up_any (k n v : Int) (h : Hid (cS k n 10 4 20 6 9 16 30 v 0 0)) (w : World) : Calls Try.prog 15 #[.int .u8 k, .int .i64 n] w fun e w' => e = .returned (.int .i64 v) ∧ Below w.heap.size w w' := by
  go_enter Try.func15, Try.ntmps15
  go_wp2_with (go_at_call 6; ((with_reducible refine (h.out _).mono ?_); rintro e w1 ⟨rfl, hb1⟩))
  go_ret
  exact ⟨rfl, hb1⟩
theorem up_lit (k : Nat) (n v : Int) (hk : k < 10) (hok : allU [n, 10, 4, 20, 6, 9, 16, 30] = true) (hv : shUp k n 10 4 20 6 9 16 30 = v) (hd : shEd k = 0) : ∀ w, Calls Try.prog 15 #[.int .u8 k, .int .i64 n] w fun e w' => e = .returned (.int .i64 v) ∧ Below w.heap.size w w' := fun w =>
  up_any k n v (fun W => by
    have := shift_yes k n 10 4 20 6 9 16 30 hk (Lib.hid hok) W
    rw [hv, hd] at this
    exact this) w

set_option maxHeartbeats 8000000 in
set_option maxRecDepth 100000 in
theorem head_any (w : World) : Calls Try.prog 8 #[] w fun e w' => e = .returned (.bool true) ∧ Below w.heap.size w w' := by
  have S8 : Hid (cS 8 0 0 0 0 0 0 0 0 0 1 0) := fun W => shift_yes 8 0 0 0 0 0 0 0 0 (by omega) (Lib.hid (by decide)) W
  have S10 : Hid (cS 10 0 0 0 0 0 0 0 0 0 0 2) := fun W => shift_no 10 0 0 0 0 0 0 0 0 _ (by omega) (.inl (by omega)) (Lib.hid rfl) W
  have M : Hid (cMv 3 2 5 8 (-3)) := fun W => by
    have := moved_any 3 2 5 W
    rw [show wrap64 (3 + 5) = 8 by unfold wrap64; omega, show wrap64 (2 - 5) = -3 by unfold wrap64; omega] at this
    exact this
  have U0 : Hid (cU 0 5 0) := up_lit 0 5 0 (by omega) (by decide) (by decide) (by decide)
  have U1 : Hid (cU 1 5 (-3)) := up_lit 1 5 (-3) (by omega) (by decide) (by decide) (by decide)
  have U2 : Hid (cU 2 5 5) := up_lit 2 5 5 (by omega) (by decide) (by decide) (by decide)
  have U3 : Hid (cU 3 5 10) := up_lit 3 5 10 (by omega) (by decide) (by decide) (by decide)
  have U4 : Hid (cU 4 5 (-2)) := up_lit 4 5 (-2) (by omega) (by decide) (by decide) (by decide)
  have U5 : Hid (cU 5 5 1) := up_lit 5 5 1 (by omega) (by decide) (by decide) (by decide)
  have U6 : Hid (cU 6 (-7) (-7)) := up_lit 6 (-7) (-7) (by omega) (by decide) (by decide) (by decide)
  have U7 : Hid (cU 7 32 15) := up_lit 7 32 15 (by omega) (by decide) (by decide) (by decide)
  go_enter Try.func8, Try.ntmps8
  go_wp2_with (first
    | (go_at_call 6; first | ((with_reducible refine (S8.out _).mono ?_); rintro e w1 ⟨rfl, hb1⟩) | ((with_reducible refine (S10.out _).mono ?_); rintro e w2 ⟨rfl, hb2⟩))
    | (go_at_call 9; ((with_reducible refine (M.out _).mono ?_); rintro e wm ⟨rfl, hbm⟩))
    | (go_at_call 15; first
      | ((with_reducible refine (U0.out _).mono ?_); rintro e u0 ⟨rfl, k0⟩) | ((with_reducible refine (U1.out _).mono ?_); rintro e u1 ⟨rfl, k1⟩) | ((with_reducible refine (U2.out _).mono ?_); rintro e u2 ⟨rfl, k2⟩) | ((with_reducible refine (U3.out _).mono ?_); rintro e u3 ⟨rfl, k3⟩)
      | ((with_reducible refine (U4.out _).mono ?_); rintro e u4 ⟨rfl, k4⟩) | ((with_reducible refine (U5.out _).mono ?_); rintro e u5 ⟨rfl, k5⟩) | ((with_reducible refine (U6.out _).mono ?_); rintro e u6 ⟨rfl, k6⟩) | ((with_reducible refine (U7.out _).mono ?_); rintro e u7 ⟨rfl, k7⟩)))
  go_ret
  exact ⟨rfl, bel_trans (bel_trans (bel_trans (bel_trans (bel_trans (bel_trans (bel_trans (bel_trans (bel_trans (bel_trans hb1 hb2) k0) k1) k2) k3) k4) k5) k6) k7) hbm⟩

theorem u8_wf {n : Int} (h : (Lit.int .u8 n).wf = true) : 0 ≤ n ∧ n ≤ 255 := (Lit.wf_int_iff .u8 n).1 h
set_option maxHeartbeats 8000000 in
set_option maxRecDepth 100000 in
theorem tells_any (k n A B U D X S H : Int) (hk : (Lit.int .u8 k).wf = true) (w : World) :
    Calls Try.prog 3 #[vaV k n, boxV A B, arV U D X S H] w fun e w' => e = .returned (.bool true) ∧ Below w.heap.size w w' := by
  have hk := u8_wf hk
  obtain ⟨j, rfl⟩ : ∃ j : Nat, k = (j : Int) := ⟨k.toNat, by omega⟩
  obtain ⟨v, d, e0, he, C1, C2⟩ : ∃ v d e0, (e0 = 0 ∨ e0 = 2) ∧ cS j n A B U D X S H v d e0 ∧ cT j n A B U D X S H v d e0 := by
    rcases shift_any j n A B U D X S H hk.2 with ⟨_, _, h1, h2⟩ | ⟨_, h1, h2⟩
    · exact ⟨_, _, 0, .inl rfl, h1, h2⟩
    · exact ⟨_, _, 2, .inr rfl, h1, h2⟩
  have H1 := Lib.hid C1
  have H2 := Lib.hid C2
  clear C1 C2
  have N := Lib.hid (BA.new3 w j n A B U D X S H)
  have NV := Lib.hid (((Blk.new w 23 #[.int .u8 j, .int .i64 n]).alloc (.cells #[.int .i64 A, .int .i64 B] 25)).alloc (.cells #[.int .i64 U, .int .i64 D, .int .i64 X, .int .i64 S, .int .i64 H] 27))
  rcases he with rfl | rfl
  all_goals
    go_enter Try.func3, Try.ntmps3
    go_wp2_with (first
      | (go_at_call 6; ((with_reducible refine (H1.out _).mono ?_); rintro e w1 ⟨rfl, hb1⟩; obtain ⟨c0, c1, c2, c3, c4, c5, c6⟩ := (N.out.keep hb1).cells; have v0 : w1.cell? ⟨w.heap.size, 0, none⟩ = some (.int .u8 j) := (NV.out.keep hb1).cell 0; have v1 : w1.cell? ⟨w.heap.size, 1, none⟩ = some (.int .i64 n) := (NV.out.keep hb1).cell 1))
      | (go_at_call 7; ((with_reducible refine (H2.out _).mono ?_); rintro e w2 ⟨rfl, hb2⟩))
      | (go_at_call 8; refine (head_any _).mono ?_; rintro e w3 ⟨rfl, hb3⟩))
    go_ret
    exact ⟨rfl, bel_trans (bel_trans (bel_trans (by repeat (first | exact Below.refl _ _ | refine bel_alloc ?_ _)) hb1) hb2) hb3⟩

theorem allU_cons (n : Int) (l : List Int) : allU (n :: l) = (mayU n && allU l) := rfl
theorem shUp_times (m A B U D X S H : Int) : shUp 7 m A B U D X S H = rnd (m * H) 64 := by simp [shUp]
set_option maxHeartbeats 8000000 in
set_option maxRecDepth 100000 in
theorem times_bad (n A B U D X S H : Int) (H1 : Hid (cS 7 64 A B U D X S H 0 0 2)) (H2 : Hid (cS 7 (-64) A B U D X S H 0 0 2)) (H3 : Hid (cS 7 0 A B U D X S H 0 0 2)) (H4 : Hid (cS 6 n A B U D X S H 0 0 2)) (w : World) :
    Calls Try.prog 5 #[.int .i64 n, boxV A B, arV U D X S H] w fun e w' => e = .returned (.bool true) ∧ Below w.heap.size w w' := by
  have N := Lib.hid (BA.new2 w A B U D X S H)
  go_enter Try.func5, Try.ntmps5
  go_wp2_with (first
    | (go_at_call 6; first
      | ((with_reducible refine (H1.out _).mono ?_); rintro e w1 ⟨rfl, hb1⟩; have N1 := Lib.hid (N.out.keep hb1); obtain ⟨c0, c1, c2, c3, c4, c5, c6⟩ := N1.out.cells) | ((with_reducible refine (H2.out _).mono ?_); rintro e w2 ⟨rfl, hb2⟩; have N2 := Lib.hid (N1.out.keep hb2); obtain ⟨d0, d1, d2, d3, d4, d5, d6⟩ := N2.out.cells)
      | ((with_reducible refine (H3.out _).mono ?_); rintro e w3 ⟨rfl, hb3⟩; have N3 := Lib.hid (N2.out.keep hb3); obtain ⟨f0, f1, f2, f3, f4, f5, f6⟩ := N3.out.cells) | ((with_reducible refine (H4.out _).mono ?_); rintro e w4 ⟨rfl, hb4⟩; have N4 := Lib.hid (N3.out.keep hb4); obtain ⟨g0, g1, g2, g3, g4, g5, g6⟩ := N4.out.cells))
    | (go_at_call 8; refine (head_any _).mono ?_; rintro e w5 ⟨rfl, hb5⟩))
  go_ret
  exact ⟨rfl, by
    refine bel_trans (bel_trans (bel_trans (bel_trans (bel_trans ?_ hb1) hb2) hb3) hb4) hb5
    repeat (first | exact Below.refl _ _ | refine bel_alloc ?_ _)⟩

set_option maxHeartbeats 8000000 in
set_option maxRecDepth 100000 in
theorem times_good (n A B U D X S H v h : Int) (hv : v = n ∧ h = 0 ∨ v = 0 ∧ h = 2) (h0 : -1073741824 ≤ H) (h1 : H ≤ 1073741824) (H1 : Hid (cS 7 64 A B U D X S H H 0 0)) (H2 : Hid (cS 7 (-64) A B U D X S H (-H) 0 0)) (H3 : Hid (cS 7 0 A B U D X S H 0 0 0)) (H4 : Hid (cS 6 n A B U D X S H v 0 h)) (w : World) :
    Calls Try.prog 5 #[.int .i64 n, boxV A B, arV U D X S H] w fun e w' => e = .returned (.bool true) ∧ Below w.heap.size w w' := by
  have N := Lib.hid (BA.new2 w A B U D X S H)
  rcases hv with ⟨rfl, rfl⟩ | ⟨rfl, rfl⟩
  all_goals
    go_enter Try.func5, Try.ntmps5
    go_wp2_with (first
      | (go_at_call 6; first
        | ((with_reducible refine (H1.out _).mono ?_); rintro e w1 ⟨rfl, hb1⟩; have N1 := Lib.hid (N.out.keep hb1); obtain ⟨c0, c1, c2, c3, c4, c5, c6⟩ := N1.out.cells) | ((with_reducible refine (H2.out _).mono ?_); rintro e w2 ⟨rfl, hb2⟩; have N2 := Lib.hid (N1.out.keep hb2); obtain ⟨d0, d1, d2, d3, d4, d5, d6⟩ := N2.out.cells)
        | ((with_reducible refine (H3.out _).mono ?_); rintro e w3 ⟨rfl, hb3⟩; have N3 := Lib.hid (N2.out.keep hb3); obtain ⟨f0, f1, f2, f3, f4, f5, f6⟩ := N3.out.cells) | ((with_reducible refine (H4.out _).mono ?_); rintro e w4 ⟨rfl, hb4⟩; have N4 := Lib.hid (N3.out.keep hb4); obtain ⟨g0, g1, g2, g3, g4, g5, g6⟩ := N4.out.cells))
      | (go_at_call 8; refine (head_any _).mono ?_; rintro e w5 ⟨rfl, hb5⟩))
    go_ret
    exact ⟨rfl, by
      refine bel_trans (bel_trans (bel_trans (bel_trans (bel_trans ?_ hb1) hb2) hb3) hb4) hb5
      repeat (first | exact Below.refl _ _ | refine bel_alloc ?_ _)⟩

theorem ShiftTimes_any (n A B U D X S H : Int) (w : World) :
    Calls Try.prog 5 #[.int .i64 n, boxV A B, arV U D X S H] w fun e w' => e = .returned (.bool true) ∧ Below w.heap.size w w' := by
  cases hR : allU [A, B, U, D, X, S, H] with
  | false =>
    have e : ∀ m, allU [m, A, B, U, D, X, S, H] = false := fun m => by rw [allU_cons, hR, Bool.and_false]
    have C7 : ∀ m, cS 7 m A B U D X S H 0 0 2 := fun m W => shift_no 7 m A B U D X S H false (by omega) (.inr ⟨by omega, rfl⟩) (Lib.hid (e m)) W
    have C6 : cS 6 n A B U D X S H 0 0 2 := fun W => shift_no 6 n A B U D X S H false (by omega) (.inr ⟨by omega, rfl⟩) (Lib.hid (e n)) W
    exact times_bad n A B U D X S H (Lib.hid (C7 _)) (Lib.hid (C7 _)) (Lib.hid (C7 _)) (Lib.hid C6) w
  | true =>
    have e : ∀ m, allU [m, A, B, U, D, X, S, H] = mayU m := fun m => by rw [allU_cons, hR, Bool.and_true]
    have hH := (small8 (n := 0) ((e 0).trans (by decide))).H
    have C7 : ∀ m, mayU m = true → cS 7 m A B U D X S H (rnd (m * H) 64) 0 0 := fun m hm W => by
      have := shift_yes 7 m A B U D X S H (by omega) (Lib.hid ((e m).trans hm)) W
      rw [shUp_times] at this
      exact this
    have D1 := C7 64 (by decide)
    rw [Int.mul_comm, rnd_self _ _ (by omega)] at D1
    have D2 := C7 (-64) (by decide)
    rw [show -64 * H = (-H) * 64 by omega, rnd_self _ _ (by omega)] at D2
    have D3 := C7 0 (by decide)
    rw [show 0 * H = 0 * 64 by omega, rnd_self _ _ (by omega)] at D3
    obtain ⟨v, h, hv, D4⟩ : ∃ v h, (v = n ∧ h = 0 ∨ v = 0 ∧ h = 2) ∧ cS 6 n A B U D X S H v 0 h := by
      cases hm : mayU n with
      | true => exact ⟨n, 0, .inl ⟨rfl, rfl⟩, fun W => shift_yes 6 n A B U D X S H (by omega) (Lib.hid ((e n).trans hm)) W⟩
      | false => exact ⟨0, 2, .inr ⟨rfl, rfl⟩, fun W => shift_no 6 n A B U D X S H false (by omega) (.inr ⟨by omega, rfl⟩) (Lib.hid ((e n).trans hm)) W⟩
    exact times_good n A B U D X S H v h hv hH.1 hH.2 (Lib.hid D1) (Lib.hid D2) (Lib.hid D3) (Lib.hid D4) w
end Go.Proofs.Ytdjbcbdgcejcmaa.Unit

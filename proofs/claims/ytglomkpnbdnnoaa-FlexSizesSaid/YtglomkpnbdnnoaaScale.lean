/- unit.Scale and what it calls, walked. No condition. -/
import Derived.Test.YtglomkpnbdnnoaaDiv
namespace Go.Proofs.Ytglomkpnbdnnoaa.Unit
open Go.RowKit Go.Proofs.Ytglomkpnbdnnoaa.Div
set_option linter.unusedVariables false

/-! ### the spec -/
def negB (n b : Int) : Bool := decide (n < 0) != decide (b < 0)
def upB (neg : Bool) (r o : Nat) : Bool := if neg then decide (o - r < r) else decide (o - r ≤ r)
def absQ (n b : Int) (o : Nat) : Nat := n.natAbs * b.natAbs / o + if upB (negB n b) (n.natAbs * b.natAbs % o) o then 1 else 0
def scV (n b o : Int) : Int := if o < 1 then 0 else if 4611686018427387904 < absQ n b o.toNat then 0 else if negB n b then -(absQ n b o.toNat : Int) else (absQ n b o.toNat : Int)
def scE (n b o : Int) : Int := if o < 1 then 2 else if 4611686018427387904 < absQ n b o.toNat then 10 else 0

theorem size_any (n : Int) (h0 : -9223372036854775808 ≤ n) (h1 : n ≤ 9223372036854775807) (w : World) : Calls Try.prog 45 #[.int .i64 n] w fun e w' => e = .returned (.int .u64 (n.natAbs : Nat)) ∧ w = w' := by
  rcases Int.lt_or_le n 0 with h | h
  · have e1 : IntKind.u64.wrap (-IntKind.u64.wrap n) = (n.natAbs : Int) := by rw [u64_mod, u64_mod]; omega
    have E := Lib.hid e1
    clear e1
    have H0 := Lib.hid h0
    have H1 := Lib.hid h1
    clear h0 h1
    go_enter Try.func45, Try.ntmps45
    go_wp2
    go_ret
    exact ⟨ret_int E.out, rfl⟩
  · have e1 : IntKind.u64.wrap n = (n.natAbs : Int) := by rw [u64_mod]; omega
    have E := Lib.hid e1
    have H0 := Lib.hid h0
    have H1 := Lib.hid h1
    clear h0 h1 e1
    go_enter Try.func45, Try.ntmps45
    go_wp2
    go_ret
    exact ⟨ret_int E.out, rfl⟩

theorem up1_any (x y : Int) (w : World) : Calls Try.prog 47 #[.int .u64 x, .int .u64 y] w fun e w' => e = .returned (.bool (decide (y ≤ x))) ∧ w = w' := by
  go_enter Try.func47, Try.ntmps47
  go_wp2
  go_ret
  exact ⟨rfl, rfl⟩
theorem up2_any (x y : Int) (w : World) : Calls Try.prog 48 #[.int .u64 x, .int .u64 y] w fun e w' => e = .returned (.bool (decide (y < x))) ∧ w = w' := by
  go_enter Try.func48, Try.ntmps48
  go_wp2
  go_ret
  exact ⟨rfl, rfl⟩
theorem mul_any (x y hi lo : Nat) (hx : x < 18446744073709551616) (hy : y < 18446744073709551616) (h1 : x * y / 18446744073709551616 = hi) (h2 : x * y % 18446744073709551616 = lo) (w : World) :
    Calls Try.prog 44 #[.int .u64 x, .int .u64 y] w fun e w' => e = .returned (.tuple #[.int .u64 (hi : Nat), .int .u64 (lo : Nat)]) ∧ w = w' :=
  (Try.bits_Mul64 x y hx hy w).mono fun e w' ⟨he, hw⟩ => ⟨by rw [he, h1, h2], hw.symm⟩

theorem scale_arg (n b o : Int) (h : o < 1) (w : World) : Calls Try.prog 41 #[.int .i64 n, .int .i64 b, .int .i64 o] w fun e w' => e = .returned (.tuple #[.int .i64 0, .int .i64 2]) ∧ Drawn w w' := by
  go_enter Try.func41, Try.ntmps41
  go_wp2
  go_ret2
  exact ⟨rfl, Drawn.refl _⟩

set_option maxHeartbeats 2000000 in
set_option maxRecDepth 100000 in
theorem scale_high (n b : Int) (o x y hi lo : Nat) (ho : 0 < o) (hox : (o : Int) ≤ 9223372036854775807) (hn : Hid (∀ W, Calls Try.prog 45 #[.int .i64 n] W fun e w' => e = .returned (.int .u64 (x : Nat)) ∧ W = w')) (hb : Hid (∀ W, Calls Try.prog 45 #[.int .i64 b] W fun e w' => e = .returned (.int .u64 (y : Nat)) ∧ W = w'))
    (hm : Hid (∀ W, Calls Try.prog 44 #[.int .u64 x, .int .u64 y] W fun e w' => e = .returned (.tuple #[.int .u64 (hi : Nat), .int .u64 (lo : Nat)]) ∧ W = w')) (hh : o ≤ hi) (w : World) :
    Calls Try.prog 41 #[.int .i64 n, .int .i64 b, .int .i64 o] w fun e w' => e = .returned (.tuple #[.int .i64 0, .int .i64 10]) ∧ Drawn w w' := by
  have e1 : IntKind.u64.wrap (o : Int) = (o : Int) := u64_in _ (by omega) (by omega)
  have H := Lib.hid hox
  have ho1 : (1 : Int) ≤ (o : Int) := by omega
  clear hox
  go_enter Try.func41, Try.ntmps41
  go_wp2_with (first
    | (go_at_call 45; ((with_reducible refine (hn.out _).mono ?_); rintro e w' ⟨rfl, rfl⟩))
    | (go_at_call 45; ((with_reducible refine (hb.out _).mono ?_); rintro e w' ⟨rfl, rfl⟩))
    | (go_at_call 44; refine (hm.out _).mono ?_; rintro e w' ⟨rfl, rfl⟩))
  go_ret2
  exact ⟨rfl, Drawn.refl _⟩

set_option maxHeartbeats 2000000 in
set_option maxRecDepth 100000 in
theorem scale_great (n b : Int) (o x y hi lo q r : Nat) (ho : 0 < o) (hox : (o : Int) ≤ 9223372036854775807) (hn : Hid (∀ W, Calls Try.prog 45 #[.int .i64 n] W fun e w' => e = .returned (.int .u64 (x : Nat)) ∧ W = w')) (hb : Hid (∀ W, Calls Try.prog 45 #[.int .i64 b] W fun e w' => e = .returned (.int .u64 (y : Nat)) ∧ W = w'))
    (hm : Hid (∀ W, Calls Try.prog 44 #[.int .u64 x, .int .u64 y] W fun e w' => e = .returned (.tuple #[.int .u64 (hi : Nat), .int .u64 (lo : Nat)]) ∧ W = w')) (hd : Hid (∀ W, Calls Try.prog 46 #[.int .u64 hi, .int .u64 lo, .int .u64 o] W fun e w' => e = .returned (.tuple #[.int .u64 (q : Nat), .int .u64 (r : Nat)]) ∧ Drawn W w')) (hh : hi < o) (hq : (4611686018427387904 : Int) < q) (w : World) :
    Calls Try.prog 41 #[.int .i64 n, .int .i64 b, .int .i64 o] w fun e w' => e = .returned (.tuple #[.int .i64 0, .int .i64 10]) ∧ Drawn w w' := by
  have e1 : IntKind.u64.wrap (o : Int) = (o : Int) := u64_in _ (by omega) (by omega)
  have ho1 : (1 : Int) ≤ (o : Int) := by omega
  clear hox
  go_enter Try.func41, Try.ntmps41
  go_wp2_with (first
    | (go_at_call 45; ((with_reducible refine (hn.out _).mono ?_); rintro e w' ⟨rfl, rfl⟩))
    | (go_at_call 45; ((with_reducible refine (hb.out _).mono ?_); rintro e w' ⟨rfl, rfl⟩))
    | (go_at_call 44; refine (hm.out _).mono ?_; rintro e w' ⟨rfl, rfl⟩)
    | (go_at_call 46; refine (hd.out _).mono ?_; rintro e w' ⟨rfl, ⟨m, rfl⟩⟩))
  go_ret2
  exact ⟨rfl, ⟨⟨_, rfl⟩⟩⟩

set_option maxHeartbeats 2000000 in
set_option maxRecDepth 100000 in
theorem scale_000 (n b : Int) (o x y hi lo q r : Nat) (ho : 0 < o) (hox : (o : Int) ≤ 9223372036854775807) (hn : Hid (∀ W, Calls Try.prog 45 #[.int .i64 n] W fun e w' => e = .returned (.int .u64 (x : Nat)) ∧ W = w')) (hb : Hid (∀ W, Calls Try.prog 45 #[.int .i64 b] W fun e w' => e = .returned (.int .u64 (y : Nat)) ∧ W = w'))
    (hm : Hid (∀ W, Calls Try.prog 44 #[.int .u64 x, .int .u64 y] W fun e w' => e = .returned (.tuple #[.int .u64 (hi : Nat), .int .u64 (lo : Nat)]) ∧ W = w')) (hd : Hid (∀ W, Calls Try.prog 46 #[.int .u64 hi, .int .u64 lo, .int .u64 o] W fun e w' => e = .returned (.tuple #[.int .u64 (q : Nat), .int .u64 (r : Nat)]) ∧ Drawn W w')) (hh : hi < o) (hr : r < o) (h1 : 0 ≤ n) (h2 : 0 ≤ b) (hu : ¬ o - r ≤ r) (hq : (q : Int) ≤ 4611686018427387904) (w : World) :
    Calls Try.prog 41 #[.int .i64 n, .int .i64 b, .int .i64 o] w fun e w' => e = .returned (.tuple #[.int .i64 (((q : Nat) : Int)), .int .i64 0]) ∧ Drawn w w' := by
  have e1 : IntKind.u64.wrap (o : Int) = (o : Int) := u64_in _ (by omega) (by omega)
  have ho1 : (1 : Int) ≤ (o : Int) := by omega
  have hu2 : decide ((o : Int) - (r : Int) ≤ (r : Int)) = false := by rw [decide_eq_false_iff_not]; omega
  have hq2 : (q : Int) ≤ 4611686018427387904 := by omega
  have e2 : IntKind.u64.wrap ((o : Int) - (r : Int)) = (o : Int) - (r : Int) := u64_in _ (by omega) (by omega)
  have t1 := (decide_eq_false (Int.not_lt.2 h1) : decide (n < 0) = false)
  have t2 := (decide_eq_false (Int.not_lt.2 h2) : decide (b < 0) = false)
  clear hox hu hr h1 h2
  go_enter Try.func41, Try.ntmps41
  go_wp2_with (first
    | (go_at_call 45; ((with_reducible refine (hn.out _).mono ?_); rintro e w' ⟨rfl, rfl⟩))
    | (go_at_call 45; ((with_reducible refine (hb.out _).mono ?_); rintro e w' ⟨rfl, rfl⟩))
    | (go_at_call 44; refine (hm.out _).mono ?_; rintro e w' ⟨rfl, rfl⟩)
    | (go_at_call 46; refine (hd.out _).mono ?_; rintro e w' ⟨rfl, ⟨m, rfl⟩⟩)
    | (go_at_call 47; refine (up1_any _ _ _).mono ?_; rintro e w' ⟨rfl, rfl⟩))
  go_ret2
  exact ⟨by first | rfl | go_num | (simp; omega), ⟨⟨_, rfl⟩⟩⟩

set_option maxHeartbeats 2000000 in
set_option maxRecDepth 100000 in
theorem scale_001 (n b : Int) (o x y hi lo q r : Nat) (ho : 0 < o) (hox : (o : Int) ≤ 9223372036854775807) (hn : Hid (∀ W, Calls Try.prog 45 #[.int .i64 n] W fun e w' => e = .returned (.int .u64 (x : Nat)) ∧ W = w')) (hb : Hid (∀ W, Calls Try.prog 45 #[.int .i64 b] W fun e w' => e = .returned (.int .u64 (y : Nat)) ∧ W = w'))
    (hm : Hid (∀ W, Calls Try.prog 44 #[.int .u64 x, .int .u64 y] W fun e w' => e = .returned (.tuple #[.int .u64 (hi : Nat), .int .u64 (lo : Nat)]) ∧ W = w')) (hd : Hid (∀ W, Calls Try.prog 46 #[.int .u64 hi, .int .u64 lo, .int .u64 o] W fun e w' => e = .returned (.tuple #[.int .u64 (q : Nat), .int .u64 (r : Nat)]) ∧ Drawn W w')) (hh : hi < o) (hr : r < o) (h1 : 0 ≤ n) (h2 : 0 ≤ b) (hu : o - r ≤ r) (hq : (q : Int) ≤ 4611686018427387903) (w : World) :
    Calls Try.prog 41 #[.int .i64 n, .int .i64 b, .int .i64 o] w fun e w' => e = .returned (.tuple #[.int .i64 (((q + 1 : Nat) : Int)), .int .i64 0]) ∧ Drawn w w' := by
  have e1 : IntKind.u64.wrap (o : Int) = (o : Int) := u64_in _ (by omega) (by omega)
  have ho1 : (1 : Int) ≤ (o : Int) := by omega
  have hu2 : decide ((o : Int) - (r : Int) ≤ (r : Int)) = true := by rw [decide_eq_true_eq]; omega
  have hq2 : (q : Int) ≤ 4611686018427387904 := by omega
  have e2 : IntKind.u64.wrap ((o : Int) - (r : Int)) = (o : Int) - (r : Int) := u64_in _ (by omega) (by omega)
  obtain ⟨q1, hq1⟩ : ∃ q1, q + 1 = q1 := ⟨_, rfl⟩
  have e3 : IntKind.u64.wrap ((q : Int) + 1) = (q1 : Int) := by rw [u64_in _ (by omega) (by omega)]; omega
  have hq3 : (q1 : Int) ≤ 4611686018427387904 := by omega
  have HQ1 := Lib.hid hq1
  have HQ := Lib.hid hq
  clear hq1 hq
  have t1 := (decide_eq_false (Int.not_lt.2 h1) : decide (n < 0) = false)
  have t2 := (decide_eq_false (Int.not_lt.2 h2) : decide (b < 0) = false)
  clear hox hu hr h1 h2
  go_enter Try.func41, Try.ntmps41
  go_wp2_with (first
    | (go_at_call 45; ((with_reducible refine (hn.out _).mono ?_); rintro e w' ⟨rfl, rfl⟩))
    | (go_at_call 45; ((with_reducible refine (hb.out _).mono ?_); rintro e w' ⟨rfl, rfl⟩))
    | (go_at_call 44; refine (hm.out _).mono ?_; rintro e w' ⟨rfl, rfl⟩)
    | (go_at_call 46; refine (hd.out _).mono ?_; rintro e w' ⟨rfl, ⟨m, rfl⟩⟩)
    | (go_at_call 47; refine (up1_any _ _ _).mono ?_; rintro e w' ⟨rfl, rfl⟩))
  go_ret2
  exact ⟨by rw [HQ1.out]; first | rfl | (simp; done), ⟨⟨_, rfl⟩⟩⟩

set_option maxHeartbeats 2000000 in
set_option maxRecDepth 100000 in
theorem scale_002 (n b : Int) (o x y hi lo q r : Nat) (ho : 0 < o) (hox : (o : Int) ≤ 9223372036854775807) (hn : Hid (∀ W, Calls Try.prog 45 #[.int .i64 n] W fun e w' => e = .returned (.int .u64 (x : Nat)) ∧ W = w')) (hb : Hid (∀ W, Calls Try.prog 45 #[.int .i64 b] W fun e w' => e = .returned (.int .u64 (y : Nat)) ∧ W = w'))
    (hm : Hid (∀ W, Calls Try.prog 44 #[.int .u64 x, .int .u64 y] W fun e w' => e = .returned (.tuple #[.int .u64 (hi : Nat), .int .u64 (lo : Nat)]) ∧ W = w')) (hd : Hid (∀ W, Calls Try.prog 46 #[.int .u64 hi, .int .u64 lo, .int .u64 o] W fun e w' => e = .returned (.tuple #[.int .u64 (q : Nat), .int .u64 (r : Nat)]) ∧ Drawn W w')) (hh : hi < o) (hr : r < o) (h1 : 0 ≤ n) (h2 : 0 ≤ b) (hu : o - r ≤ r) (hq0 : (4611686018427387904 : Int) ≤ (q : Int)) (hq : (q : Int) ≤ 4611686018427387904) (w : World) :
    Calls Try.prog 41 #[.int .i64 n, .int .i64 b, .int .i64 o] w fun e w' => e = .returned (.tuple #[.int .i64 0, .int .i64 10]) ∧ Drawn w w' := by
  have e1 : IntKind.u64.wrap (o : Int) = (o : Int) := u64_in _ (by omega) (by omega)
  have ho1 : (1 : Int) ≤ (o : Int) := by omega
  have hu2 : decide ((o : Int) - (r : Int) ≤ (r : Int)) = true := by rw [decide_eq_true_eq]; omega
  have hq2 : (q : Int) ≤ 4611686018427387904 := by omega
  have e2 : IntKind.u64.wrap ((o : Int) - (r : Int)) = (o : Int) - (r : Int) := u64_in _ (by omega) (by omega)
  obtain ⟨q1, hq1⟩ : ∃ q1, q + 1 = q1 := ⟨_, rfl⟩
  have e3 : IntKind.u64.wrap ((q : Int) + 1) = (q1 : Int) := by rw [u64_in _ (by omega) (by omega)]; omega
  have hq3 : (4611686018427387904 : Int) < (q1 : Int) := by omega
  have HQ1 := Lib.hid hq1
  have HQ := Lib.hid hq
  clear hq1 hq hq0
  have t1 := (decide_eq_false (Int.not_lt.2 h1) : decide (n < 0) = false)
  have t2 := (decide_eq_false (Int.not_lt.2 h2) : decide (b < 0) = false)
  clear hox hu hr h1 h2
  go_enter Try.func41, Try.ntmps41
  go_wp2_with (first
    | (go_at_call 45; ((with_reducible refine (hn.out _).mono ?_); rintro e w' ⟨rfl, rfl⟩))
    | (go_at_call 45; ((with_reducible refine (hb.out _).mono ?_); rintro e w' ⟨rfl, rfl⟩))
    | (go_at_call 44; refine (hm.out _).mono ?_; rintro e w' ⟨rfl, rfl⟩)
    | (go_at_call 46; refine (hd.out _).mono ?_; rintro e w' ⟨rfl, ⟨m, rfl⟩⟩)
    | (go_at_call 47; refine (up1_any _ _ _).mono ?_; rintro e w' ⟨rfl, rfl⟩))
  go_ret2
  exact ⟨rfl, ⟨⟨_, rfl⟩⟩⟩

set_option maxHeartbeats 2000000 in
set_option maxRecDepth 100000 in
theorem scale_010 (n b : Int) (o x y hi lo q r : Nat) (ho : 0 < o) (hox : (o : Int) ≤ 9223372036854775807) (hn : Hid (∀ W, Calls Try.prog 45 #[.int .i64 n] W fun e w' => e = .returned (.int .u64 (x : Nat)) ∧ W = w')) (hb : Hid (∀ W, Calls Try.prog 45 #[.int .i64 b] W fun e w' => e = .returned (.int .u64 (y : Nat)) ∧ W = w'))
    (hm : Hid (∀ W, Calls Try.prog 44 #[.int .u64 x, .int .u64 y] W fun e w' => e = .returned (.tuple #[.int .u64 (hi : Nat), .int .u64 (lo : Nat)]) ∧ W = w')) (hd : Hid (∀ W, Calls Try.prog 46 #[.int .u64 hi, .int .u64 lo, .int .u64 o] W fun e w' => e = .returned (.tuple #[.int .u64 (q : Nat), .int .u64 (r : Nat)]) ∧ Drawn W w')) (hh : hi < o) (hr : r < o) (h1 : 0 ≤ n) (h2 : b < 0) (hu : ¬ o - r < r) (hq : (q : Int) ≤ 4611686018427387904) (w : World) :
    Calls Try.prog 41 #[.int .i64 n, .int .i64 b, .int .i64 o] w fun e w' => e = .returned (.tuple #[.int .i64 (-((q : Nat) : Int)), .int .i64 0]) ∧ Drawn w w' := by
  have e1 : IntKind.u64.wrap (o : Int) = (o : Int) := u64_in _ (by omega) (by omega)
  have ho1 : (1 : Int) ≤ (o : Int) := by omega
  have hu2 : decide ((o : Int) - (r : Int) < (r : Int)) = false := by rw [decide_eq_false_iff_not]; omega
  have hq2 : (q : Int) ≤ 4611686018427387904 := by omega
  have e2 : IntKind.u64.wrap ((o : Int) - (r : Int)) = (o : Int) - (r : Int) := u64_in _ (by omega) (by omega)
  have t1 := (decide_eq_false (Int.not_lt.2 h1) : decide (n < 0) = false)
  have t2 := (decide_eq_true h2 : decide (b < 0) = true)
  clear hox hu hr h1 h2
  go_enter Try.func41, Try.ntmps41
  go_wp2_with (first
    | (go_at_call 45; ((with_reducible refine (hn.out _).mono ?_); rintro e w' ⟨rfl, rfl⟩))
    | (go_at_call 45; ((with_reducible refine (hb.out _).mono ?_); rintro e w' ⟨rfl, rfl⟩))
    | (go_at_call 44; refine (hm.out _).mono ?_; rintro e w' ⟨rfl, rfl⟩)
    | (go_at_call 46; refine (hd.out _).mono ?_; rintro e w' ⟨rfl, ⟨m, rfl⟩⟩)
    | (go_at_call 48; refine (up2_any _ _ _).mono ?_; rintro e w' ⟨rfl, rfl⟩))
  go_ret2
  exact ⟨by first | rfl | go_num | (simp; omega), ⟨⟨_, rfl⟩⟩⟩

set_option maxHeartbeats 2000000 in
set_option maxRecDepth 100000 in
theorem scale_011 (n b : Int) (o x y hi lo q r : Nat) (ho : 0 < o) (hox : (o : Int) ≤ 9223372036854775807) (hn : Hid (∀ W, Calls Try.prog 45 #[.int .i64 n] W fun e w' => e = .returned (.int .u64 (x : Nat)) ∧ W = w')) (hb : Hid (∀ W, Calls Try.prog 45 #[.int .i64 b] W fun e w' => e = .returned (.int .u64 (y : Nat)) ∧ W = w'))
    (hm : Hid (∀ W, Calls Try.prog 44 #[.int .u64 x, .int .u64 y] W fun e w' => e = .returned (.tuple #[.int .u64 (hi : Nat), .int .u64 (lo : Nat)]) ∧ W = w')) (hd : Hid (∀ W, Calls Try.prog 46 #[.int .u64 hi, .int .u64 lo, .int .u64 o] W fun e w' => e = .returned (.tuple #[.int .u64 (q : Nat), .int .u64 (r : Nat)]) ∧ Drawn W w')) (hh : hi < o) (hr : r < o) (h1 : 0 ≤ n) (h2 : b < 0) (hu : o - r < r) (hq : (q : Int) ≤ 4611686018427387903) (w : World) :
    Calls Try.prog 41 #[.int .i64 n, .int .i64 b, .int .i64 o] w fun e w' => e = .returned (.tuple #[.int .i64 (-((q + 1 : Nat) : Int)), .int .i64 0]) ∧ Drawn w w' := by
  have e1 : IntKind.u64.wrap (o : Int) = (o : Int) := u64_in _ (by omega) (by omega)
  have ho1 : (1 : Int) ≤ (o : Int) := by omega
  have hu2 : decide ((o : Int) - (r : Int) < (r : Int)) = true := by rw [decide_eq_true_eq]; omega
  have hq2 : (q : Int) ≤ 4611686018427387904 := by omega
  have e2 : IntKind.u64.wrap ((o : Int) - (r : Int)) = (o : Int) - (r : Int) := u64_in _ (by omega) (by omega)
  obtain ⟨q1, hq1⟩ : ∃ q1, q + 1 = q1 := ⟨_, rfl⟩
  have e3 : IntKind.u64.wrap ((q : Int) + 1) = (q1 : Int) := by rw [u64_in _ (by omega) (by omega)]; omega
  have hq3 : (q1 : Int) ≤ 4611686018427387904 := by omega
  have HQ1 := Lib.hid hq1
  have HQ := Lib.hid hq
  clear hq1 hq
  have t1 := (decide_eq_false (Int.not_lt.2 h1) : decide (n < 0) = false)
  have t2 := (decide_eq_true h2 : decide (b < 0) = true)
  clear hox hu hr h1 h2
  go_enter Try.func41, Try.ntmps41
  go_wp2_with (first
    | (go_at_call 45; ((with_reducible refine (hn.out _).mono ?_); rintro e w' ⟨rfl, rfl⟩))
    | (go_at_call 45; ((with_reducible refine (hb.out _).mono ?_); rintro e w' ⟨rfl, rfl⟩))
    | (go_at_call 44; refine (hm.out _).mono ?_; rintro e w' ⟨rfl, rfl⟩)
    | (go_at_call 46; refine (hd.out _).mono ?_; rintro e w' ⟨rfl, ⟨m, rfl⟩⟩)
    | (go_at_call 48; refine (up2_any _ _ _).mono ?_; rintro e w' ⟨rfl, rfl⟩))
  go_ret2
  exact ⟨by rw [HQ1.out]; first | rfl | (simp; done), ⟨⟨_, rfl⟩⟩⟩

set_option maxHeartbeats 2000000 in
set_option maxRecDepth 100000 in
theorem scale_012 (n b : Int) (o x y hi lo q r : Nat) (ho : 0 < o) (hox : (o : Int) ≤ 9223372036854775807) (hn : Hid (∀ W, Calls Try.prog 45 #[.int .i64 n] W fun e w' => e = .returned (.int .u64 (x : Nat)) ∧ W = w')) (hb : Hid (∀ W, Calls Try.prog 45 #[.int .i64 b] W fun e w' => e = .returned (.int .u64 (y : Nat)) ∧ W = w'))
    (hm : Hid (∀ W, Calls Try.prog 44 #[.int .u64 x, .int .u64 y] W fun e w' => e = .returned (.tuple #[.int .u64 (hi : Nat), .int .u64 (lo : Nat)]) ∧ W = w')) (hd : Hid (∀ W, Calls Try.prog 46 #[.int .u64 hi, .int .u64 lo, .int .u64 o] W fun e w' => e = .returned (.tuple #[.int .u64 (q : Nat), .int .u64 (r : Nat)]) ∧ Drawn W w')) (hh : hi < o) (hr : r < o) (h1 : 0 ≤ n) (h2 : b < 0) (hu : o - r < r) (hq0 : (4611686018427387904 : Int) ≤ (q : Int)) (hq : (q : Int) ≤ 4611686018427387904) (w : World) :
    Calls Try.prog 41 #[.int .i64 n, .int .i64 b, .int .i64 o] w fun e w' => e = .returned (.tuple #[.int .i64 0, .int .i64 10]) ∧ Drawn w w' := by
  have e1 : IntKind.u64.wrap (o : Int) = (o : Int) := u64_in _ (by omega) (by omega)
  have ho1 : (1 : Int) ≤ (o : Int) := by omega
  have hu2 : decide ((o : Int) - (r : Int) < (r : Int)) = true := by rw [decide_eq_true_eq]; omega
  have hq2 : (q : Int) ≤ 4611686018427387904 := by omega
  have e2 : IntKind.u64.wrap ((o : Int) - (r : Int)) = (o : Int) - (r : Int) := u64_in _ (by omega) (by omega)
  obtain ⟨q1, hq1⟩ : ∃ q1, q + 1 = q1 := ⟨_, rfl⟩
  have e3 : IntKind.u64.wrap ((q : Int) + 1) = (q1 : Int) := by rw [u64_in _ (by omega) (by omega)]; omega
  have hq3 : (4611686018427387904 : Int) < (q1 : Int) := by omega
  have HQ1 := Lib.hid hq1
  have HQ := Lib.hid hq
  clear hq1 hq hq0
  have t1 := (decide_eq_false (Int.not_lt.2 h1) : decide (n < 0) = false)
  have t2 := (decide_eq_true h2 : decide (b < 0) = true)
  clear hox hu hr h1 h2
  go_enter Try.func41, Try.ntmps41
  go_wp2_with (first
    | (go_at_call 45; ((with_reducible refine (hn.out _).mono ?_); rintro e w' ⟨rfl, rfl⟩))
    | (go_at_call 45; ((with_reducible refine (hb.out _).mono ?_); rintro e w' ⟨rfl, rfl⟩))
    | (go_at_call 44; refine (hm.out _).mono ?_; rintro e w' ⟨rfl, rfl⟩)
    | (go_at_call 46; refine (hd.out _).mono ?_; rintro e w' ⟨rfl, ⟨m, rfl⟩⟩)
    | (go_at_call 48; refine (up2_any _ _ _).mono ?_; rintro e w' ⟨rfl, rfl⟩))
  go_ret2
  exact ⟨rfl, ⟨⟨_, rfl⟩⟩⟩

set_option maxHeartbeats 2000000 in
set_option maxRecDepth 100000 in
theorem scale_100 (n b : Int) (o x y hi lo q r : Nat) (ho : 0 < o) (hox : (o : Int) ≤ 9223372036854775807) (hn : Hid (∀ W, Calls Try.prog 45 #[.int .i64 n] W fun e w' => e = .returned (.int .u64 (x : Nat)) ∧ W = w')) (hb : Hid (∀ W, Calls Try.prog 45 #[.int .i64 b] W fun e w' => e = .returned (.int .u64 (y : Nat)) ∧ W = w'))
    (hm : Hid (∀ W, Calls Try.prog 44 #[.int .u64 x, .int .u64 y] W fun e w' => e = .returned (.tuple #[.int .u64 (hi : Nat), .int .u64 (lo : Nat)]) ∧ W = w')) (hd : Hid (∀ W, Calls Try.prog 46 #[.int .u64 hi, .int .u64 lo, .int .u64 o] W fun e w' => e = .returned (.tuple #[.int .u64 (q : Nat), .int .u64 (r : Nat)]) ∧ Drawn W w')) (hh : hi < o) (hr : r < o) (h1 : n < 0) (h2 : 0 ≤ b) (hu : ¬ o - r < r) (hq : (q : Int) ≤ 4611686018427387904) (w : World) :
    Calls Try.prog 41 #[.int .i64 n, .int .i64 b, .int .i64 o] w fun e w' => e = .returned (.tuple #[.int .i64 (-((q : Nat) : Int)), .int .i64 0]) ∧ Drawn w w' := by
  have e1 : IntKind.u64.wrap (o : Int) = (o : Int) := u64_in _ (by omega) (by omega)
  have ho1 : (1 : Int) ≤ (o : Int) := by omega
  have hu2 : decide ((o : Int) - (r : Int) < (r : Int)) = false := by rw [decide_eq_false_iff_not]; omega
  have hq2 : (q : Int) ≤ 4611686018427387904 := by omega
  have e2 : IntKind.u64.wrap ((o : Int) - (r : Int)) = (o : Int) - (r : Int) := u64_in _ (by omega) (by omega)
  have t1 := (decide_eq_true h1 : decide (n < 0) = true)
  have t2 := (decide_eq_false (Int.not_lt.2 h2) : decide (b < 0) = false)
  clear hox hu hr h1 h2
  go_enter Try.func41, Try.ntmps41
  go_wp2_with (first
    | (go_at_call 45; ((with_reducible refine (hn.out _).mono ?_); rintro e w' ⟨rfl, rfl⟩))
    | (go_at_call 45; ((with_reducible refine (hb.out _).mono ?_); rintro e w' ⟨rfl, rfl⟩))
    | (go_at_call 44; refine (hm.out _).mono ?_; rintro e w' ⟨rfl, rfl⟩)
    | (go_at_call 46; refine (hd.out _).mono ?_; rintro e w' ⟨rfl, ⟨m, rfl⟩⟩)
    | (go_at_call 48; refine (up2_any _ _ _).mono ?_; rintro e w' ⟨rfl, rfl⟩))
  go_ret2
  exact ⟨by first | rfl | go_num | (simp; omega), ⟨⟨_, rfl⟩⟩⟩

set_option maxHeartbeats 2000000 in
set_option maxRecDepth 100000 in
theorem scale_101 (n b : Int) (o x y hi lo q r : Nat) (ho : 0 < o) (hox : (o : Int) ≤ 9223372036854775807) (hn : Hid (∀ W, Calls Try.prog 45 #[.int .i64 n] W fun e w' => e = .returned (.int .u64 (x : Nat)) ∧ W = w')) (hb : Hid (∀ W, Calls Try.prog 45 #[.int .i64 b] W fun e w' => e = .returned (.int .u64 (y : Nat)) ∧ W = w'))
    (hm : Hid (∀ W, Calls Try.prog 44 #[.int .u64 x, .int .u64 y] W fun e w' => e = .returned (.tuple #[.int .u64 (hi : Nat), .int .u64 (lo : Nat)]) ∧ W = w')) (hd : Hid (∀ W, Calls Try.prog 46 #[.int .u64 hi, .int .u64 lo, .int .u64 o] W fun e w' => e = .returned (.tuple #[.int .u64 (q : Nat), .int .u64 (r : Nat)]) ∧ Drawn W w')) (hh : hi < o) (hr : r < o) (h1 : n < 0) (h2 : 0 ≤ b) (hu : o - r < r) (hq : (q : Int) ≤ 4611686018427387903) (w : World) :
    Calls Try.prog 41 #[.int .i64 n, .int .i64 b, .int .i64 o] w fun e w' => e = .returned (.tuple #[.int .i64 (-((q + 1 : Nat) : Int)), .int .i64 0]) ∧ Drawn w w' := by
  have e1 : IntKind.u64.wrap (o : Int) = (o : Int) := u64_in _ (by omega) (by omega)
  have ho1 : (1 : Int) ≤ (o : Int) := by omega
  have hu2 : decide ((o : Int) - (r : Int) < (r : Int)) = true := by rw [decide_eq_true_eq]; omega
  have hq2 : (q : Int) ≤ 4611686018427387904 := by omega
  have e2 : IntKind.u64.wrap ((o : Int) - (r : Int)) = (o : Int) - (r : Int) := u64_in _ (by omega) (by omega)
  obtain ⟨q1, hq1⟩ : ∃ q1, q + 1 = q1 := ⟨_, rfl⟩
  have e3 : IntKind.u64.wrap ((q : Int) + 1) = (q1 : Int) := by rw [u64_in _ (by omega) (by omega)]; omega
  have hq3 : (q1 : Int) ≤ 4611686018427387904 := by omega
  have HQ1 := Lib.hid hq1
  have HQ := Lib.hid hq
  clear hq1 hq
  have t1 := (decide_eq_true h1 : decide (n < 0) = true)
  have t2 := (decide_eq_false (Int.not_lt.2 h2) : decide (b < 0) = false)
  clear hox hu hr h1 h2
  go_enter Try.func41, Try.ntmps41
  go_wp2_with (first
    | (go_at_call 45; ((with_reducible refine (hn.out _).mono ?_); rintro e w' ⟨rfl, rfl⟩))
    | (go_at_call 45; ((with_reducible refine (hb.out _).mono ?_); rintro e w' ⟨rfl, rfl⟩))
    | (go_at_call 44; refine (hm.out _).mono ?_; rintro e w' ⟨rfl, rfl⟩)
    | (go_at_call 46; refine (hd.out _).mono ?_; rintro e w' ⟨rfl, ⟨m, rfl⟩⟩)
    | (go_at_call 48; refine (up2_any _ _ _).mono ?_; rintro e w' ⟨rfl, rfl⟩))
  go_ret2
  exact ⟨by rw [HQ1.out]; first | rfl | (simp; done), ⟨⟨_, rfl⟩⟩⟩

set_option maxHeartbeats 2000000 in
set_option maxRecDepth 100000 in
theorem scale_102 (n b : Int) (o x y hi lo q r : Nat) (ho : 0 < o) (hox : (o : Int) ≤ 9223372036854775807) (hn : Hid (∀ W, Calls Try.prog 45 #[.int .i64 n] W fun e w' => e = .returned (.int .u64 (x : Nat)) ∧ W = w')) (hb : Hid (∀ W, Calls Try.prog 45 #[.int .i64 b] W fun e w' => e = .returned (.int .u64 (y : Nat)) ∧ W = w'))
    (hm : Hid (∀ W, Calls Try.prog 44 #[.int .u64 x, .int .u64 y] W fun e w' => e = .returned (.tuple #[.int .u64 (hi : Nat), .int .u64 (lo : Nat)]) ∧ W = w')) (hd : Hid (∀ W, Calls Try.prog 46 #[.int .u64 hi, .int .u64 lo, .int .u64 o] W fun e w' => e = .returned (.tuple #[.int .u64 (q : Nat), .int .u64 (r : Nat)]) ∧ Drawn W w')) (hh : hi < o) (hr : r < o) (h1 : n < 0) (h2 : 0 ≤ b) (hu : o - r < r) (hq0 : (4611686018427387904 : Int) ≤ (q : Int)) (hq : (q : Int) ≤ 4611686018427387904) (w : World) :
    Calls Try.prog 41 #[.int .i64 n, .int .i64 b, .int .i64 o] w fun e w' => e = .returned (.tuple #[.int .i64 0, .int .i64 10]) ∧ Drawn w w' := by
  have e1 : IntKind.u64.wrap (o : Int) = (o : Int) := u64_in _ (by omega) (by omega)
  have ho1 : (1 : Int) ≤ (o : Int) := by omega
  have hu2 : decide ((o : Int) - (r : Int) < (r : Int)) = true := by rw [decide_eq_true_eq]; omega
  have hq2 : (q : Int) ≤ 4611686018427387904 := by omega
  have e2 : IntKind.u64.wrap ((o : Int) - (r : Int)) = (o : Int) - (r : Int) := u64_in _ (by omega) (by omega)
  obtain ⟨q1, hq1⟩ : ∃ q1, q + 1 = q1 := ⟨_, rfl⟩
  have e3 : IntKind.u64.wrap ((q : Int) + 1) = (q1 : Int) := by rw [u64_in _ (by omega) (by omega)]; omega
  have hq3 : (4611686018427387904 : Int) < (q1 : Int) := by omega
  have HQ1 := Lib.hid hq1
  have HQ := Lib.hid hq
  clear hq1 hq hq0
  have t1 := (decide_eq_true h1 : decide (n < 0) = true)
  have t2 := (decide_eq_false (Int.not_lt.2 h2) : decide (b < 0) = false)
  clear hox hu hr h1 h2
  go_enter Try.func41, Try.ntmps41
  go_wp2_with (first
    | (go_at_call 45; ((with_reducible refine (hn.out _).mono ?_); rintro e w' ⟨rfl, rfl⟩))
    | (go_at_call 45; ((with_reducible refine (hb.out _).mono ?_); rintro e w' ⟨rfl, rfl⟩))
    | (go_at_call 44; refine (hm.out _).mono ?_; rintro e w' ⟨rfl, rfl⟩)
    | (go_at_call 46; refine (hd.out _).mono ?_; rintro e w' ⟨rfl, ⟨m, rfl⟩⟩)
    | (go_at_call 48; refine (up2_any _ _ _).mono ?_; rintro e w' ⟨rfl, rfl⟩))
  go_ret2
  exact ⟨rfl, ⟨⟨_, rfl⟩⟩⟩

set_option maxHeartbeats 2000000 in
set_option maxRecDepth 100000 in
theorem scale_110 (n b : Int) (o x y hi lo q r : Nat) (ho : 0 < o) (hox : (o : Int) ≤ 9223372036854775807) (hn : Hid (∀ W, Calls Try.prog 45 #[.int .i64 n] W fun e w' => e = .returned (.int .u64 (x : Nat)) ∧ W = w')) (hb : Hid (∀ W, Calls Try.prog 45 #[.int .i64 b] W fun e w' => e = .returned (.int .u64 (y : Nat)) ∧ W = w'))
    (hm : Hid (∀ W, Calls Try.prog 44 #[.int .u64 x, .int .u64 y] W fun e w' => e = .returned (.tuple #[.int .u64 (hi : Nat), .int .u64 (lo : Nat)]) ∧ W = w')) (hd : Hid (∀ W, Calls Try.prog 46 #[.int .u64 hi, .int .u64 lo, .int .u64 o] W fun e w' => e = .returned (.tuple #[.int .u64 (q : Nat), .int .u64 (r : Nat)]) ∧ Drawn W w')) (hh : hi < o) (hr : r < o) (h1 : n < 0) (h2 : b < 0) (hu : ¬ o - r ≤ r) (hq : (q : Int) ≤ 4611686018427387904) (w : World) :
    Calls Try.prog 41 #[.int .i64 n, .int .i64 b, .int .i64 o] w fun e w' => e = .returned (.tuple #[.int .i64 (((q : Nat) : Int)), .int .i64 0]) ∧ Drawn w w' := by
  have e1 : IntKind.u64.wrap (o : Int) = (o : Int) := u64_in _ (by omega) (by omega)
  have ho1 : (1 : Int) ≤ (o : Int) := by omega
  have hu2 : decide ((o : Int) - (r : Int) ≤ (r : Int)) = false := by rw [decide_eq_false_iff_not]; omega
  have hq2 : (q : Int) ≤ 4611686018427387904 := by omega
  have e2 : IntKind.u64.wrap ((o : Int) - (r : Int)) = (o : Int) - (r : Int) := u64_in _ (by omega) (by omega)
  have t1 := (decide_eq_true h1 : decide (n < 0) = true)
  have t2 := (decide_eq_true h2 : decide (b < 0) = true)
  clear hox hu hr h1 h2
  go_enter Try.func41, Try.ntmps41
  go_wp2_with (first
    | (go_at_call 45; ((with_reducible refine (hn.out _).mono ?_); rintro e w' ⟨rfl, rfl⟩))
    | (go_at_call 45; ((with_reducible refine (hb.out _).mono ?_); rintro e w' ⟨rfl, rfl⟩))
    | (go_at_call 44; refine (hm.out _).mono ?_; rintro e w' ⟨rfl, rfl⟩)
    | (go_at_call 46; refine (hd.out _).mono ?_; rintro e w' ⟨rfl, ⟨m, rfl⟩⟩)
    | (go_at_call 47; refine (up1_any _ _ _).mono ?_; rintro e w' ⟨rfl, rfl⟩))
  go_ret2
  exact ⟨by first | rfl | go_num | (simp; omega), ⟨⟨_, rfl⟩⟩⟩

set_option maxHeartbeats 2000000 in
set_option maxRecDepth 100000 in
theorem scale_111 (n b : Int) (o x y hi lo q r : Nat) (ho : 0 < o) (hox : (o : Int) ≤ 9223372036854775807) (hn : Hid (∀ W, Calls Try.prog 45 #[.int .i64 n] W fun e w' => e = .returned (.int .u64 (x : Nat)) ∧ W = w')) (hb : Hid (∀ W, Calls Try.prog 45 #[.int .i64 b] W fun e w' => e = .returned (.int .u64 (y : Nat)) ∧ W = w'))
    (hm : Hid (∀ W, Calls Try.prog 44 #[.int .u64 x, .int .u64 y] W fun e w' => e = .returned (.tuple #[.int .u64 (hi : Nat), .int .u64 (lo : Nat)]) ∧ W = w')) (hd : Hid (∀ W, Calls Try.prog 46 #[.int .u64 hi, .int .u64 lo, .int .u64 o] W fun e w' => e = .returned (.tuple #[.int .u64 (q : Nat), .int .u64 (r : Nat)]) ∧ Drawn W w')) (hh : hi < o) (hr : r < o) (h1 : n < 0) (h2 : b < 0) (hu : o - r ≤ r) (hq : (q : Int) ≤ 4611686018427387903) (w : World) :
    Calls Try.prog 41 #[.int .i64 n, .int .i64 b, .int .i64 o] w fun e w' => e = .returned (.tuple #[.int .i64 (((q + 1 : Nat) : Int)), .int .i64 0]) ∧ Drawn w w' := by
  have e1 : IntKind.u64.wrap (o : Int) = (o : Int) := u64_in _ (by omega) (by omega)
  have ho1 : (1 : Int) ≤ (o : Int) := by omega
  have hu2 : decide ((o : Int) - (r : Int) ≤ (r : Int)) = true := by rw [decide_eq_true_eq]; omega
  have hq2 : (q : Int) ≤ 4611686018427387904 := by omega
  have e2 : IntKind.u64.wrap ((o : Int) - (r : Int)) = (o : Int) - (r : Int) := u64_in _ (by omega) (by omega)
  obtain ⟨q1, hq1⟩ : ∃ q1, q + 1 = q1 := ⟨_, rfl⟩
  have e3 : IntKind.u64.wrap ((q : Int) + 1) = (q1 : Int) := by rw [u64_in _ (by omega) (by omega)]; omega
  have hq3 : (q1 : Int) ≤ 4611686018427387904 := by omega
  have HQ1 := Lib.hid hq1
  have HQ := Lib.hid hq
  clear hq1 hq
  have t1 := (decide_eq_true h1 : decide (n < 0) = true)
  have t2 := (decide_eq_true h2 : decide (b < 0) = true)
  clear hox hu hr h1 h2
  go_enter Try.func41, Try.ntmps41
  go_wp2_with (first
    | (go_at_call 45; ((with_reducible refine (hn.out _).mono ?_); rintro e w' ⟨rfl, rfl⟩))
    | (go_at_call 45; ((with_reducible refine (hb.out _).mono ?_); rintro e w' ⟨rfl, rfl⟩))
    | (go_at_call 44; refine (hm.out _).mono ?_; rintro e w' ⟨rfl, rfl⟩)
    | (go_at_call 46; refine (hd.out _).mono ?_; rintro e w' ⟨rfl, ⟨m, rfl⟩⟩)
    | (go_at_call 47; refine (up1_any _ _ _).mono ?_; rintro e w' ⟨rfl, rfl⟩))
  go_ret2
  exact ⟨by rw [HQ1.out]; first | rfl | (simp; done), ⟨⟨_, rfl⟩⟩⟩

set_option maxHeartbeats 2000000 in
set_option maxRecDepth 100000 in
theorem scale_112 (n b : Int) (o x y hi lo q r : Nat) (ho : 0 < o) (hox : (o : Int) ≤ 9223372036854775807) (hn : Hid (∀ W, Calls Try.prog 45 #[.int .i64 n] W fun e w' => e = .returned (.int .u64 (x : Nat)) ∧ W = w')) (hb : Hid (∀ W, Calls Try.prog 45 #[.int .i64 b] W fun e w' => e = .returned (.int .u64 (y : Nat)) ∧ W = w'))
    (hm : Hid (∀ W, Calls Try.prog 44 #[.int .u64 x, .int .u64 y] W fun e w' => e = .returned (.tuple #[.int .u64 (hi : Nat), .int .u64 (lo : Nat)]) ∧ W = w')) (hd : Hid (∀ W, Calls Try.prog 46 #[.int .u64 hi, .int .u64 lo, .int .u64 o] W fun e w' => e = .returned (.tuple #[.int .u64 (q : Nat), .int .u64 (r : Nat)]) ∧ Drawn W w')) (hh : hi < o) (hr : r < o) (h1 : n < 0) (h2 : b < 0) (hu : o - r ≤ r) (hq0 : (4611686018427387904 : Int) ≤ (q : Int)) (hq : (q : Int) ≤ 4611686018427387904) (w : World) :
    Calls Try.prog 41 #[.int .i64 n, .int .i64 b, .int .i64 o] w fun e w' => e = .returned (.tuple #[.int .i64 0, .int .i64 10]) ∧ Drawn w w' := by
  have e1 : IntKind.u64.wrap (o : Int) = (o : Int) := u64_in _ (by omega) (by omega)
  have ho1 : (1 : Int) ≤ (o : Int) := by omega
  have hu2 : decide ((o : Int) - (r : Int) ≤ (r : Int)) = true := by rw [decide_eq_true_eq]; omega
  have hq2 : (q : Int) ≤ 4611686018427387904 := by omega
  have e2 : IntKind.u64.wrap ((o : Int) - (r : Int)) = (o : Int) - (r : Int) := u64_in _ (by omega) (by omega)
  obtain ⟨q1, hq1⟩ : ∃ q1, q + 1 = q1 := ⟨_, rfl⟩
  have e3 : IntKind.u64.wrap ((q : Int) + 1) = (q1 : Int) := by rw [u64_in _ (by omega) (by omega)]; omega
  have hq3 : (4611686018427387904 : Int) < (q1 : Int) := by omega
  have HQ1 := Lib.hid hq1
  have HQ := Lib.hid hq
  clear hq1 hq hq0
  have t1 := (decide_eq_true h1 : decide (n < 0) = true)
  have t2 := (decide_eq_true h2 : decide (b < 0) = true)
  clear hox hu hr h1 h2
  go_enter Try.func41, Try.ntmps41
  go_wp2_with (first
    | (go_at_call 45; ((with_reducible refine (hn.out _).mono ?_); rintro e w' ⟨rfl, rfl⟩))
    | (go_at_call 45; ((with_reducible refine (hb.out _).mono ?_); rintro e w' ⟨rfl, rfl⟩))
    | (go_at_call 44; refine (hm.out _).mono ?_; rintro e w' ⟨rfl, rfl⟩)
    | (go_at_call 46; refine (hd.out _).mono ?_; rintro e w' ⟨rfl, ⟨m, rfl⟩⟩)
    | (go_at_call 47; refine (up1_any _ _ _).mono ?_; rintro e w' ⟨rfl, rfl⟩))
  go_ret2
  exact ⟨rfl, ⟨⟨_, rfl⟩⟩⟩
end Go.Proofs.Ytglomkpnbdnnoaa.Unit

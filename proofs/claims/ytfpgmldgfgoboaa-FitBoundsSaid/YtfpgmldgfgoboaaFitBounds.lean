/- FitBounds, walked: it returns true for every input. No condition. -/
import Derived.Test.YtfpgmldgfgoboaaFitLaws
namespace Go.Proofs.Ytfpgmldgfgoboaa.Fit
open Go.RowKit
attribute [local go_sem] max2_int min2_int max_two min_two
set_option linter.unusedVariables false

/-! ### FitBounds -/
set_option maxHeartbeats 1000000 in
set_option maxRecDepth 100000 in
theorem bounds_no (l m a s x y more : Int) (h1 : fitV l m a (-1) = 0) (h2 : fitE l m a (-1) = 2) (w : World) : Calls Try.prog 4 #[.agg #[.int .i64 l, .int .i64 m, .int .i64 a, .int .i64 s, .int .i64 x, .int .i64 y], .int .i64 more] w fun e w' => e = .returned (.bool true) ∧ Below w.heap.size w w' := by
  have A1 := Lib.hid h1
  have A2 := Lib.hid h2
  clear h1 h2
  have K0 := Blk.boxed w 23 #[.int .i64 l, .int .i64 m, .int .i64 a, .int .i64 s, .int .i64 x, .int .i64 y]
  have bel0 := bel_alloc (Below.refl w.heap.size w) (.cells #[.int .i64 l, .int .i64 m, .int .i64 a, .int .i64 s, .int .i64 x, .int .i64 y] 23)
  go_enter Try.func4, Try.ntmps4
  go_wp2_with (first
    | (go_at_call 10; ((with_reducible refine (fit_any l m a (-1) 0 2 A1.out A2.out _).mono ?_); rintro e w1 ⟨rfl, hb1⟩; have K1 := K0.keep hb1; have R1 := K1.cell))
    | (go_at_call 18; refine (head_any _).mono ?_; rintro e w9 ⟨rfl, hb9⟩))
  all_goals
    go_ret
    exact ⟨rfl, (by (repeat (first | assumption | refine bel_trans ?_ (by assumption))))⟩
set_option maxHeartbeats 1000000 in
set_option maxRecDepth 100000 in
theorem bounds_off (l m a s x y more v : Int) (h1 : fitV l m a (-1) = v) (h2 : fitE l m a (-1) = 0) (hm : more < 0 ∨ 1099511627776 < more) (w : World) : Calls Try.prog 4 #[.agg #[.int .i64 l, .int .i64 m, .int .i64 a, .int .i64 s, .int .i64 x, .int .i64 y], .int .i64 more] w fun e w' => e = .returned (.bool true) ∧ Below w.heap.size w w' := by
  have A1 := Lib.hid h1
  have A2 := Lib.hid h2
  clear h1 h2
  have K0 := Blk.boxed w 23 #[.int .i64 l, .int .i64 m, .int .i64 a, .int .i64 s, .int .i64 x, .int .i64 y]
  have bel0 := bel_alloc (Below.refl w.heap.size w) (.cells #[.int .i64 l, .int .i64 m, .int .i64 a, .int .i64 s, .int .i64 x, .int .i64 y] 23)
  rcases hm with hm | hm
  all_goals
    go_enter Try.func4, Try.ntmps4
    go_wp2_with (first
      | (go_at_call 10; ((with_reducible refine (fit_any l m a (-1) v 0 A1.out A2.out _).mono ?_); rintro e w1 ⟨rfl, hb1⟩; have K1 := K0.keep hb1; have R1 := K1.cell))
      | (go_at_call 18; refine (head_any _).mono ?_; rintro e w9 ⟨rfl, hb9⟩))
    go_ret
    exact ⟨rfl, (by (repeat (first | assumption | refine bel_trans ?_ (by assumption))))⟩
set_option maxHeartbeats 2000000 in
set_option maxRecDepth 100000 in
theorem bounds_00 (l m a s x y more v b sv : Int) (h1 : fitV l m a (-1) = v) (h2 : fitE l m a (-1) = 0) (hm : 0 ≤ more) (hM : more ≤ 1099511627776)
    (h3 : fitV l m v (-1) = v) (h4 : fitE l m v (-1) = 0) (h5 : fitV l m 1099511627776 (-1) = b) (h6 : fitE l m 1099511627776 (-1) = 0) (h7 : fitV l m m (-1) = m) (h8 : fitE l m m (-1) = 0) (h9 : fitV l m a s = sv) (h10 : fitE l m a s = 2)
    (hr : 1099511627776 < a + more) (ha0 : 0 ≤ a) (ha1 : a ≤ 1099511627776) (hv0 : l ≤ v) (hv1 : v ≤ m) (hb : v ≤ b) (w : World) : Calls Try.prog 4 #[.agg #[.int .i64 l, .int .i64 m, .int .i64 a, .int .i64 s, .int .i64 x, .int .i64 y], .int .i64 more] w fun e w' => e = .returned (.bool true) ∧ Below w.heap.size w w' := by
  have A1 := Lib.hid h1
  have A2 := Lib.hid h2
  have A3 := Lib.hid h3
  have A4 := Lib.hid h4
  have A5 := Lib.hid h5
  have A6 := Lib.hid h6
  have A7 := Lib.hid h7
  have A8 := Lib.hid h8
  have A9 := Lib.hid h9
  have A10 := Lib.hid h10
  clear h1 h2 h3 h4 h5 h6 h7 h8 h9 h10
  have K0 := Blk.boxed w 23 #[.int .i64 l, .int .i64 m, .int .i64 a, .int .i64 s, .int .i64 x, .int .i64 y]
  have bel0 := bel_alloc (Below.refl w.heap.size w) (.cells #[.int .i64 l, .int .i64 m, .int .i64 a, .int .i64 s, .int .i64 x, .int .i64 y] 23)
  go_enter Try.func4, Try.ntmps4
  go_wp2_with (first
    | (go_at_call 10; ((with_reducible refine (fit_any l m a (-1) v 0 A1.out A2.out _).mono ?_); rintro e w1 ⟨rfl, hb1⟩; have K1 := K0.keep hb1; have R1 := K1.cell))
    | (go_at_call 10; ((with_reducible refine (fit_any l m v (-1) v 0 A3.out A4.out _).mono ?_); rintro e w2 ⟨rfl, hb2⟩; have K2 := K1.keep hb2; have R2 := K2.cell))
    | (go_at_call 10; ((with_reducible refine (fit_any l m 1099511627776 (-1) b 0 A5.out A6.out _).mono ?_); rintro e w3 ⟨rfl, hb3⟩; have K3 := K2.keep hb3; have R3 := K3.cell))
    | (go_at_call 10; ((with_reducible refine (fit_any l m m (-1) m 0 A7.out A8.out _).mono ?_); rintro e w4 ⟨rfl, hb4⟩; have K4 := K3.keep hb4; have R4 := K4.cell))
    | (go_at_call 10; ((with_reducible refine (fit_any l m a s sv 2 A9.out A10.out _).mono ?_); rintro e w5 ⟨rfl, hb5⟩; have K5 := K4.keep hb5; have R5 := K5.cell))
    | (go_at_call 18; refine (head_any _).mono ?_; rintro e w9 ⟨rfl, hb9⟩))
  all_goals
    go_ret
    exact ⟨rfl, (by (repeat (first | assumption | refine bel_trans ?_ (by assumption))))⟩
set_option maxHeartbeats 2000000 in
set_option maxRecDepth 100000 in
theorem bounds_01 (l m a s x y more v b : Int) (h1 : fitV l m a (-1) = v) (h2 : fitE l m a (-1) = 0) (hm : 0 ≤ more) (hM : more ≤ 1099511627776)
    (h3 : fitV l m v (-1) = v) (h4 : fitE l m v (-1) = 0) (h5 : fitV l m 1099511627776 (-1) = b) (h6 : fitE l m 1099511627776 (-1) = 0) (h7 : fitV l m m (-1) = m) (h8 : fitE l m m (-1) = 0) (h9 : fitV l m a s = v) (h10 : fitE l m a s = 0)
    (hr : 1099511627776 < a + more) (ha0 : 0 ≤ a) (ha1 : a ≤ 1099511627776) (hv0 : l ≤ v) (hv1 : v ≤ m) (hb : v ≤ b) (hs : s < 0) (w : World) : Calls Try.prog 4 #[.agg #[.int .i64 l, .int .i64 m, .int .i64 a, .int .i64 s, .int .i64 x, .int .i64 y], .int .i64 more] w fun e w' => e = .returned (.bool true) ∧ Below w.heap.size w w' := by
  have A1 := Lib.hid h1
  have A2 := Lib.hid h2
  have A3 := Lib.hid h3
  have A4 := Lib.hid h4
  have A5 := Lib.hid h5
  have A6 := Lib.hid h6
  have A7 := Lib.hid h7
  have A8 := Lib.hid h8
  have A9 := Lib.hid h9
  have A10 := Lib.hid h10
  clear h1 h2 h3 h4 h5 h6 h7 h8 h9 h10
  have K0 := Blk.boxed w 23 #[.int .i64 l, .int .i64 m, .int .i64 a, .int .i64 s, .int .i64 x, .int .i64 y]
  have bel0 := bel_alloc (Below.refl w.heap.size w) (.cells #[.int .i64 l, .int .i64 m, .int .i64 a, .int .i64 s, .int .i64 x, .int .i64 y] 23)
  go_enter Try.func4, Try.ntmps4
  go_wp2_with (first
    | (go_at_call 10; ((with_reducible refine (fit_any l m a (-1) v 0 A1.out A2.out _).mono ?_); rintro e w1 ⟨rfl, hb1⟩; have K1 := K0.keep hb1; have R1 := K1.cell))
    | (go_at_call 10; ((with_reducible refine (fit_any l m v (-1) v 0 A3.out A4.out _).mono ?_); rintro e w2 ⟨rfl, hb2⟩; have K2 := K1.keep hb2; have R2 := K2.cell))
    | (go_at_call 10; ((with_reducible refine (fit_any l m 1099511627776 (-1) b 0 A5.out A6.out _).mono ?_); rintro e w3 ⟨rfl, hb3⟩; have K3 := K2.keep hb3; have R3 := K3.cell))
    | (go_at_call 10; ((with_reducible refine (fit_any l m m (-1) m 0 A7.out A8.out _).mono ?_); rintro e w4 ⟨rfl, hb4⟩; have K4 := K3.keep hb4; have R4 := K4.cell))
    | (go_at_call 10; ((with_reducible refine (fit_any l m a s v 0 A9.out A10.out _).mono ?_); rintro e w5 ⟨rfl, hb5⟩; have K5 := K4.keep hb5; have R5 := K5.cell))
    | (go_at_call 18; refine (head_any _).mono ?_; rintro e w9 ⟨rfl, hb9⟩))
  all_goals
    go_ret
    exact ⟨rfl, (by (repeat (first | assumption | refine bel_trans ?_ (by assumption))))⟩
set_option maxHeartbeats 2000000 in
set_option maxRecDepth 100000 in
theorem bounds_02 (l m a s x y more v b : Int) (h1 : fitV l m a (-1) = v) (h2 : fitE l m a (-1) = 0) (hm : 0 ≤ more) (hM : more ≤ 1099511627776)
    (h3 : fitV l m v (-1) = v) (h4 : fitE l m v (-1) = 0) (h5 : fitV l m 1099511627776 (-1) = b) (h6 : fitE l m 1099511627776 (-1) = 0) (h7 : fitV l m m (-1) = m) (h8 : fitE l m m (-1) = 0) (h9 : fitV l m a s = s) (h10 : fitE l m a s = 0)
    (hr : 1099511627776 < a + more) (ha0 : 0 ≤ a) (ha1 : a ≤ 1099511627776) (hv0 : l ≤ v) (hv1 : v ≤ m) (hb : v ≤ b) (hs : 0 ≤ s) (w : World) : Calls Try.prog 4 #[.agg #[.int .i64 l, .int .i64 m, .int .i64 a, .int .i64 s, .int .i64 x, .int .i64 y], .int .i64 more] w fun e w' => e = .returned (.bool true) ∧ Below w.heap.size w w' := by
  have A1 := Lib.hid h1
  have A2 := Lib.hid h2
  have A3 := Lib.hid h3
  have A4 := Lib.hid h4
  have A5 := Lib.hid h5
  have A6 := Lib.hid h6
  have A7 := Lib.hid h7
  have A8 := Lib.hid h8
  have A9 := Lib.hid h9
  have A10 := Lib.hid h10
  clear h1 h2 h3 h4 h5 h6 h7 h8 h9 h10
  have K0 := Blk.boxed w 23 #[.int .i64 l, .int .i64 m, .int .i64 a, .int .i64 s, .int .i64 x, .int .i64 y]
  have bel0 := bel_alloc (Below.refl w.heap.size w) (.cells #[.int .i64 l, .int .i64 m, .int .i64 a, .int .i64 s, .int .i64 x, .int .i64 y] 23)
  go_enter Try.func4, Try.ntmps4
  go_wp2_with (first
    | (go_at_call 10; ((with_reducible refine (fit_any l m a (-1) v 0 A1.out A2.out _).mono ?_); rintro e w1 ⟨rfl, hb1⟩; have K1 := K0.keep hb1; have R1 := K1.cell))
    | (go_at_call 10; ((with_reducible refine (fit_any l m v (-1) v 0 A3.out A4.out _).mono ?_); rintro e w2 ⟨rfl, hb2⟩; have K2 := K1.keep hb2; have R2 := K2.cell))
    | (go_at_call 10; ((with_reducible refine (fit_any l m 1099511627776 (-1) b 0 A5.out A6.out _).mono ?_); rintro e w3 ⟨rfl, hb3⟩; have K3 := K2.keep hb3; have R3 := K3.cell))
    | (go_at_call 10; ((with_reducible refine (fit_any l m m (-1) m 0 A7.out A8.out _).mono ?_); rintro e w4 ⟨rfl, hb4⟩; have K4 := K3.keep hb4; have R4 := K4.cell))
    | (go_at_call 10; ((with_reducible refine (fit_any l m a s s 0 A9.out A10.out _).mono ?_); rintro e w5 ⟨rfl, hb5⟩; have K5 := K4.keep hb5; have R5 := K5.cell))
    | (go_at_call 18; refine (head_any _).mono ?_; rintro e w9 ⟨rfl, hb9⟩))
  all_goals
    go_ret
    exact ⟨rfl, (by (repeat (first | assumption | refine bel_trans ?_ (by assumption))))⟩
set_option maxHeartbeats 2000000 in
set_option maxRecDepth 100000 in
theorem bounds_10 (l m a s x y more v b sv : Int) (h1 : fitV l m a (-1) = v) (h2 : fitE l m a (-1) = 0) (hm : 0 ≤ more) (hM : more ≤ 1099511627776)
    (h3 : fitV l m v (-1) = v) (h4 : fitE l m v (-1) = 0) (h5 : fitV l m (a + more) (-1) = b) (h6 : fitE l m (a + more) (-1) = 0) (h7 : fitV l m m (-1) = m) (h8 : fitE l m m (-1) = 0) (h9 : fitV l m a s = sv) (h10 : fitE l m a s = 2)
    (hr : a + more ≤ 1099511627776) (ha0 : 0 ≤ a) (ha1 : a ≤ 1099511627776) (hv0 : l ≤ v) (hv1 : v ≤ m) (hb : v ≤ b) (w : World) : Calls Try.prog 4 #[.agg #[.int .i64 l, .int .i64 m, .int .i64 a, .int .i64 s, .int .i64 x, .int .i64 y], .int .i64 more] w fun e w' => e = .returned (.bool true) ∧ Below w.heap.size w w' := by
  have A1 := Lib.hid h1
  have A2 := Lib.hid h2
  have A3 := Lib.hid h3
  have A4 := Lib.hid h4
  have A5 := Lib.hid h5
  have A6 := Lib.hid h6
  have A7 := Lib.hid h7
  have A8 := Lib.hid h8
  have A9 := Lib.hid h9
  have A10 := Lib.hid h10
  clear h1 h2 h3 h4 h5 h6 h7 h8 h9 h10
  have K0 := Blk.boxed w 23 #[.int .i64 l, .int .i64 m, .int .i64 a, .int .i64 s, .int .i64 x, .int .i64 y]
  have bel0 := bel_alloc (Below.refl w.heap.size w) (.cells #[.int .i64 l, .int .i64 m, .int .i64 a, .int .i64 s, .int .i64 x, .int .i64 y] 23)
  go_enter Try.func4, Try.ntmps4
  go_wp2_with (first
    | (go_at_call 10; ((with_reducible refine (fit_any l m a (-1) v 0 A1.out A2.out _).mono ?_); rintro e w1 ⟨rfl, hb1⟩; have K1 := K0.keep hb1; have R1 := K1.cell))
    | (go_at_call 10; ((with_reducible refine (fit_any l m v (-1) v 0 A3.out A4.out _).mono ?_); rintro e w2 ⟨rfl, hb2⟩; have K2 := K1.keep hb2; have R2 := K2.cell))
    | (go_at_call 10; ((with_reducible refine (fit_any l m (a + more) (-1) b 0 A5.out A6.out _).mono ?_); rintro e w3 ⟨rfl, hb3⟩; have K3 := K2.keep hb3; have R3 := K3.cell))
    | (go_at_call 10; ((with_reducible refine (fit_any l m m (-1) m 0 A7.out A8.out _).mono ?_); rintro e w4 ⟨rfl, hb4⟩; have K4 := K3.keep hb4; have R4 := K4.cell))
    | (go_at_call 10; ((with_reducible refine (fit_any l m a s sv 2 A9.out A10.out _).mono ?_); rintro e w5 ⟨rfl, hb5⟩; have K5 := K4.keep hb5; have R5 := K5.cell))
    | (go_at_call 18; refine (head_any _).mono ?_; rintro e w9 ⟨rfl, hb9⟩))
  all_goals
    go_ret
    exact ⟨rfl, (by (repeat (first | assumption | refine bel_trans ?_ (by assumption))))⟩
set_option maxHeartbeats 2000000 in
set_option maxRecDepth 100000 in
theorem bounds_11 (l m a s x y more v b : Int) (h1 : fitV l m a (-1) = v) (h2 : fitE l m a (-1) = 0) (hm : 0 ≤ more) (hM : more ≤ 1099511627776)
    (h3 : fitV l m v (-1) = v) (h4 : fitE l m v (-1) = 0) (h5 : fitV l m (a + more) (-1) = b) (h6 : fitE l m (a + more) (-1) = 0) (h7 : fitV l m m (-1) = m) (h8 : fitE l m m (-1) = 0) (h9 : fitV l m a s = v) (h10 : fitE l m a s = 0)
    (hr : a + more ≤ 1099511627776) (ha0 : 0 ≤ a) (ha1 : a ≤ 1099511627776) (hv0 : l ≤ v) (hv1 : v ≤ m) (hb : v ≤ b) (hs : s < 0) (w : World) : Calls Try.prog 4 #[.agg #[.int .i64 l, .int .i64 m, .int .i64 a, .int .i64 s, .int .i64 x, .int .i64 y], .int .i64 more] w fun e w' => e = .returned (.bool true) ∧ Below w.heap.size w w' := by
  have A1 := Lib.hid h1
  have A2 := Lib.hid h2
  have A3 := Lib.hid h3
  have A4 := Lib.hid h4
  have A5 := Lib.hid h5
  have A6 := Lib.hid h6
  have A7 := Lib.hid h7
  have A8 := Lib.hid h8
  have A9 := Lib.hid h9
  have A10 := Lib.hid h10
  clear h1 h2 h3 h4 h5 h6 h7 h8 h9 h10
  have K0 := Blk.boxed w 23 #[.int .i64 l, .int .i64 m, .int .i64 a, .int .i64 s, .int .i64 x, .int .i64 y]
  have bel0 := bel_alloc (Below.refl w.heap.size w) (.cells #[.int .i64 l, .int .i64 m, .int .i64 a, .int .i64 s, .int .i64 x, .int .i64 y] 23)
  go_enter Try.func4, Try.ntmps4
  go_wp2_with (first
    | (go_at_call 10; ((with_reducible refine (fit_any l m a (-1) v 0 A1.out A2.out _).mono ?_); rintro e w1 ⟨rfl, hb1⟩; have K1 := K0.keep hb1; have R1 := K1.cell))
    | (go_at_call 10; ((with_reducible refine (fit_any l m v (-1) v 0 A3.out A4.out _).mono ?_); rintro e w2 ⟨rfl, hb2⟩; have K2 := K1.keep hb2; have R2 := K2.cell))
    | (go_at_call 10; ((with_reducible refine (fit_any l m (a + more) (-1) b 0 A5.out A6.out _).mono ?_); rintro e w3 ⟨rfl, hb3⟩; have K3 := K2.keep hb3; have R3 := K3.cell))
    | (go_at_call 10; ((with_reducible refine (fit_any l m m (-1) m 0 A7.out A8.out _).mono ?_); rintro e w4 ⟨rfl, hb4⟩; have K4 := K3.keep hb4; have R4 := K4.cell))
    | (go_at_call 10; ((with_reducible refine (fit_any l m a s v 0 A9.out A10.out _).mono ?_); rintro e w5 ⟨rfl, hb5⟩; have K5 := K4.keep hb5; have R5 := K5.cell))
    | (go_at_call 18; refine (head_any _).mono ?_; rintro e w9 ⟨rfl, hb9⟩))
  all_goals
    go_ret
    exact ⟨rfl, (by (repeat (first | assumption | refine bel_trans ?_ (by assumption))))⟩
set_option maxHeartbeats 2000000 in
set_option maxRecDepth 100000 in
theorem bounds_12 (l m a s x y more v b : Int) (h1 : fitV l m a (-1) = v) (h2 : fitE l m a (-1) = 0) (hm : 0 ≤ more) (hM : more ≤ 1099511627776)
    (h3 : fitV l m v (-1) = v) (h4 : fitE l m v (-1) = 0) (h5 : fitV l m (a + more) (-1) = b) (h6 : fitE l m (a + more) (-1) = 0) (h7 : fitV l m m (-1) = m) (h8 : fitE l m m (-1) = 0) (h9 : fitV l m a s = s) (h10 : fitE l m a s = 0)
    (hr : a + more ≤ 1099511627776) (ha0 : 0 ≤ a) (ha1 : a ≤ 1099511627776) (hv0 : l ≤ v) (hv1 : v ≤ m) (hb : v ≤ b) (hs : 0 ≤ s) (w : World) : Calls Try.prog 4 #[.agg #[.int .i64 l, .int .i64 m, .int .i64 a, .int .i64 s, .int .i64 x, .int .i64 y], .int .i64 more] w fun e w' => e = .returned (.bool true) ∧ Below w.heap.size w w' := by
  have A1 := Lib.hid h1
  have A2 := Lib.hid h2
  have A3 := Lib.hid h3
  have A4 := Lib.hid h4
  have A5 := Lib.hid h5
  have A6 := Lib.hid h6
  have A7 := Lib.hid h7
  have A8 := Lib.hid h8
  have A9 := Lib.hid h9
  have A10 := Lib.hid h10
  clear h1 h2 h3 h4 h5 h6 h7 h8 h9 h10
  have K0 := Blk.boxed w 23 #[.int .i64 l, .int .i64 m, .int .i64 a, .int .i64 s, .int .i64 x, .int .i64 y]
  have bel0 := bel_alloc (Below.refl w.heap.size w) (.cells #[.int .i64 l, .int .i64 m, .int .i64 a, .int .i64 s, .int .i64 x, .int .i64 y] 23)
  go_enter Try.func4, Try.ntmps4
  go_wp2_with (first
    | (go_at_call 10; ((with_reducible refine (fit_any l m a (-1) v 0 A1.out A2.out _).mono ?_); rintro e w1 ⟨rfl, hb1⟩; have K1 := K0.keep hb1; have R1 := K1.cell))
    | (go_at_call 10; ((with_reducible refine (fit_any l m v (-1) v 0 A3.out A4.out _).mono ?_); rintro e w2 ⟨rfl, hb2⟩; have K2 := K1.keep hb2; have R2 := K2.cell))
    | (go_at_call 10; ((with_reducible refine (fit_any l m (a + more) (-1) b 0 A5.out A6.out _).mono ?_); rintro e w3 ⟨rfl, hb3⟩; have K3 := K2.keep hb3; have R3 := K3.cell))
    | (go_at_call 10; ((with_reducible refine (fit_any l m m (-1) m 0 A7.out A8.out _).mono ?_); rintro e w4 ⟨rfl, hb4⟩; have K4 := K3.keep hb4; have R4 := K4.cell))
    | (go_at_call 10; ((with_reducible refine (fit_any l m a s s 0 A9.out A10.out _).mono ?_); rintro e w5 ⟨rfl, hb5⟩; have K5 := K4.keep hb5; have R5 := K5.cell))
    | (go_at_call 18; refine (head_any _).mono ?_; rintro e w9 ⟨rfl, hb9⟩))
  all_goals
    go_ret
    exact ⟨rfl, (by (repeat (first | assumption | refine bel_trans ?_ (by assumption))))⟩
theorem bounds_on (l m a s x y more v b r sv ev : Int) (h1 : fitV l m a (-1) = v) (h2 : fitE l m a (-1) = 0) (hm : 0 ≤ more) (hM : more ≤ 1099511627776)
    (h3 : fitV l m v (-1) = v) (h4 : fitE l m v (-1) = 0) (h5 : fitV l m r (-1) = b) (h6 : fitE l m r (-1) = 0) (h7 : fitV l m m (-1) = m) (h8 : fitE l m m (-1) = 0) (h9 : fitV l m a s = sv) (h10 : fitE l m a s = ev)
    (hr : 1099511627776 < a + more ∧ r = 1099511627776 ∨ a + more ≤ 1099511627776 ∧ r = a + more) (ha : 0 ≤ a ∧ a ≤ 1099511627776) (hv : l ≤ v ∧ v ≤ m) (hb : v ≤ b)
    (hs : ev = 2 ∨ s < 0 ∧ v = sv ∧ ev = 0 ∨ 0 ≤ s ∧ s = sv ∧ ev = 0) (w : World) : Calls Try.prog 4 #[.agg #[.int .i64 l, .int .i64 m, .int .i64 a, .int .i64 s, .int .i64 x, .int .i64 y], .int .i64 more] w fun e w' => e = .returned (.bool true) ∧ Below w.heap.size w w' := by
  rcases hr with ⟨hr, rfl⟩ | ⟨hr, rfl⟩ <;> rcases hs with rfl | ⟨hs, rfl, rfl⟩ | ⟨hs, rfl, rfl⟩
  · exact bounds_00 l m a s x y more v b sv h1 h2 hm hM h3 h4 h5 h6 h7 h8 h9 h10 hr ha.1 ha.2 hv.1 hv.2 hb w
  · exact bounds_01 l m a s x y more v b h1 h2 hm hM h3 h4 h5 h6 h7 h8 h9 h10 hr ha.1 ha.2 hv.1 hv.2 hb hs w
  · exact bounds_02 l m a s x y more v b h1 h2 hm hM h3 h4 h5 h6 h7 h8 h9 h10 hr ha.1 ha.2 hv.1 hv.2 hb hs w
  · exact bounds_10 l m a s x y more v b sv h1 h2 hm hM h3 h4 h5 h6 h7 h8 h9 h10 hr ha.1 ha.2 hv.1 hv.2 hb w
  · exact bounds_11 l m a s x y more v b h1 h2 hm hM h3 h4 h5 h6 h7 h8 h9 h10 hr ha.1 ha.2 hv.1 hv.2 hb hs w
  · exact bounds_12 l m a s x y more v b h1 h2 hm hM h3 h4 h5 h6 h7 h8 h9 h10 hr ha.1 ha.2 hv.1 hv.2 hb hs w
theorem FitBounds_any (l m a s x y more : Int) (w : World) : Calls Try.prog 4 #[.agg #[.int .i64 l, .int .i64 m, .int .i64 a, .int .i64 s, .int .i64 x, .int .i64 y], .int .i64 more] w fun e w' => e = .returned (.bool true) ∧ Below w.heap.size w w' := by
  cases h : okF l m a (-1) with
  | false => exact bounds_no l m a s x y more (by simp [fitV, h]) (by simp [fitE, h]) w
  | true =>
    have hp := okF_parts h
    have h2 : fitE l m a (-1) = 0 := by simp [fitE, h]
    obtain ⟨v, hv⟩ : ∃ v, fitV l m a (-1) = v := ⟨_, rfl⟩
    by_cases hm : more < 0 ∨ 1099511627776 < more
    · exact bounds_off l m a s x y more v hv h2 hm w
    · have mk : ∀ r, 0 ≤ r → r ≤ 1099511627776 → okF l m r (-1) = true := fun r h1 h2 => by simp [okF, mayW]; omega
      have fv : ∀ r, 0 ≤ r → r ≤ 1099511627776 → fitV l m r (-1) = (if r < l then l else if m < r then m else r) := fun r h1 h2 => by rw [fitV, if_pos (mk r h1 h2), if_neg (by omega)]
      have fe : ∀ r, 0 ≤ r → r ≤ 1099511627776 → fitE l m r (-1) = 0 := fun r h1 h2 => by rw [fitE, if_pos (mk r h1 h2)]
      have hv' := fv a (by omega) (by omega)
      rw [hv] at hv'
      have hvr : l ≤ v ∧ v ≤ m := by rw [hv']; split <;> (try split) <;> omega
      obtain ⟨r, hr⟩ : ∃ r : Int, 1099511627776 < a + more ∧ r = 1099511627776 ∨ a + more ≤ 1099511627776 ∧ r = a + more := by
        rcases Int.lt_or_le 1099511627776 (a + more) with g | g
        · exact ⟨_, .inl ⟨g, rfl⟩⟩
        · exact ⟨_, .inr ⟨g, rfl⟩⟩
      have hr0 : a ≤ r ∧ r ≤ 1099511627776 := by rcases hr with ⟨_, rfl⟩ | ⟨_, rfl⟩ <;> omega
      refine bounds_on l m a s x y more v _ r _ _ hv h2 (by omega) (by omega) ?_ (fe v (by omega) (by omega)) (fv r (by omega) (by omega)) (fe r (by omega) (by omega)) ?_ (fe m (by omega) (by omega)) rfl rfl hr (by omega) hvr ?_ ?_ w
      · rw [fv v (by omega) (by omega), if_neg (by omega), if_neg (by omega)]
      · rw [fv m (by omega) (by omega), if_neg (by omega), if_neg (by omega)]
      · rw [hv']
        split <;> (try split) <;> (try split) <;> (try split) <;> omega
      · cases g : okF l m a s with
        | false => exact .inl (by simp [fitE, g])
        | true =>
          have hq := okF_parts g
          rcases Int.lt_or_le s 0 with g1 | g1
          · obtain rfl : s = -1 := by omega
            exact .inr (.inl ⟨g1, hv.symm, h2⟩)
          · exact .inr (.inr ⟨g1, by simp [fitV, g, g1], by simp [fitE, g]⟩)


end Go.Proofs.Ytfpgmldgfgoboaa.Fit

/- FitBoxes, walked: it returns true for every input. No condition. -/
import Derived.Test.YtfpgmldgfgoboaaFitLaws
namespace Go.Proofs.Ytfpgmldgfgoboaa.Fit
open Go.RowKit
attribute [local go_sem] max2_int min2_int max_two min_two
set_option linter.unusedVariables false

/-! ### FitBoxes -/
set_option maxHeartbeats 1000000 in
set_option maxRecDepth 100000 in
theorem boxes_no (l m a s x y : Int) (h1 : boxI l m a s x y = 0) (h2 : boxO l m a s x y = 0) (h3 : boxE l m a s x y = 2) (w : World) : Calls Try.prog 5 #[.agg #[.int .i64 l, .int .i64 m, .int .i64 a, .int .i64 s, .int .i64 x, .int .i64 y]] w fun e w' => e = .returned (.bool true) ∧ Below w.heap.size w w' := by
  have A1 := Lib.hid h1
  have A2 := Lib.hid h2
  have A3 := Lib.hid h3
  clear h1 h2 h3
  have K0 := Blk.boxed w 23 #[.int .i64 l, .int .i64 m, .int .i64 a, .int .i64 s, .int .i64 x, .int .i64 y]
  have bel0 := bel_alloc (Below.refl w.heap.size w) (.cells #[.int .i64 l, .int .i64 m, .int .i64 a, .int .i64 s, .int .i64 x, .int .i64 y] 23)
  go_enter Try.func5, Try.ntmps5
  go_wp2_with (first
    | (go_at_call 16; refine (box_any l m a s x y 0 0 2 A1.out A2.out A3.out _).mono ?_; rintro e w1 ⟨rfl, hb1⟩; have K1 := K0.keep hb1; have R1 := K1.cell)
    | (go_at_call 18; refine (head_any _).mono ?_; rintro e w9 ⟨rfl, hb9⟩))
  go_ret
  exact ⟨rfl, (by (repeat (first | assumption | refine bel_trans ?_ (by assumption))))⟩
set_option maxHeartbeats 2000000 in
set_option maxRecDepth 100000 in
theorem boxes_s (l m a s x y v : Int) (h1 : boxI l m a s x y = v) (h2 : boxO l m a s x y = v + x + y) (h3 : boxE l m a s x y = 0) (hv : 0 ≤ v) (hv1 : v ≤ 1099511627776) (ha : 0 ≤ a) (ha1 : a ≤ 1099511627776) (hx : -1073741824 ≤ x) (hx1 : x ≤ 1073741824) (hy : -1073741824 ≤ y) (hy1 : y ≤ 1073741824)
    (q0 : 0 ≤ s) (w : World) : Calls Try.prog 5 #[.agg #[.int .i64 l, .int .i64 m, .int .i64 a, .int .i64 s, .int .i64 x, .int .i64 y]] w fun e w' => e = .returned (.bool true) ∧ Below w.heap.size w w' := by
  have A1 := Lib.hid h1
  have A2 := Lib.hid h2
  have A3 := Lib.hid h3
  clear h1 h2 h3
  have K0 := Blk.boxed w 23 #[.int .i64 l, .int .i64 m, .int .i64 a, .int .i64 s, .int .i64 x, .int .i64 y]
  have bel0 := bel_alloc (Below.refl w.heap.size w) (.cells #[.int .i64 l, .int .i64 m, .int .i64 a, .int .i64 s, .int .i64 x, .int .i64 y] 23)
  go_enter Try.func5, Try.ntmps5
  go_wp2_with (first
    | (go_at_call 16; refine (box_any l m a s x y _ (_ + x + y) 0 A1.out A2.out A3.out _).mono ?_; rintro e w1 ⟨rfl, hb1⟩; have K1 := K0.keep hb1; have R1 := K1.cell)
    | (go_at_call 18; refine (head_any _).mono ?_; rintro e w9 ⟨rfl, hb9⟩))
  all_goals
    go_ret
    exact ⟨rfl, (by (repeat (first | assumption | refine bel_trans ?_ (by assumption))))⟩
set_option maxHeartbeats 2000000 in
set_option maxRecDepth 100000 in
theorem boxes_a1 (l m a s x y v : Int) (h1 : boxI l m a s x y = v) (h2 : boxO l m a s x y = v + x + y) (h3 : boxE l m a s x y = 0) (hv : 0 ≤ v) (hv1 : v ≤ 1099511627776) (ha : 0 ≤ a) (ha1 : a ≤ 1099511627776) (hx : -1073741824 ≤ x) (hx1 : x ≤ 1073741824) (hy : -1073741824 ≤ y) (hy1 : y ≤ 1073741824)
    (q0 : x < 0) (q1 : a - x - y < 0) (w : World) : Calls Try.prog 5 #[.agg #[.int .i64 l, .int .i64 m, .int .i64 a, .int .i64 s, .int .i64 x, .int .i64 y]] w fun e w' => e = .returned (.bool true) ∧ Below w.heap.size w w' := by
  have A1 := Lib.hid h1
  have A2 := Lib.hid h2
  have A3 := Lib.hid h3
  clear h1 h2 h3
  have K0 := Blk.boxed w 23 #[.int .i64 l, .int .i64 m, .int .i64 a, .int .i64 s, .int .i64 x, .int .i64 y]
  have bel0 := bel_alloc (Below.refl w.heap.size w) (.cells #[.int .i64 l, .int .i64 m, .int .i64 a, .int .i64 s, .int .i64 x, .int .i64 y] 23)
  go_enter Try.func5, Try.ntmps5
  go_wp2_with (first
    | (go_at_call 16; refine (box_any l m a s x y _ (_ + x + y) 0 A1.out A2.out A3.out _).mono ?_; rintro e w1 ⟨rfl, hb1⟩; have K1 := K0.keep hb1; have R1 := K1.cell)
    | (go_at_call 18; refine (head_any _).mono ?_; rintro e w9 ⟨rfl, hb9⟩))
  all_goals
    go_ret
    exact ⟨rfl, (by (repeat (first | assumption | refine bel_trans ?_ (by assumption))))⟩
set_option maxHeartbeats 2000000 in
set_option maxRecDepth 100000 in
theorem boxes_a2 (l m a s x y v : Int) (h1 : boxI l m a s x y = v) (h2 : boxO l m a s x y = v + x + y) (h3 : boxE l m a s x y = 0) (hv : 0 ≤ v) (hv1 : v ≤ 1099511627776) (ha : 0 ≤ a) (ha1 : a ≤ 1099511627776) (hx : -1073741824 ≤ x) (hx1 : x ≤ 1073741824) (hy : -1073741824 ≤ y) (hy1 : y ≤ 1073741824)
    (q0 : x < 0) (q1 : a - x - y < l) (q2 : v ≤ l) (w : World) : Calls Try.prog 5 #[.agg #[.int .i64 l, .int .i64 m, .int .i64 a, .int .i64 s, .int .i64 x, .int .i64 y]] w fun e w' => e = .returned (.bool true) ∧ Below w.heap.size w w' := by
  have A1 := Lib.hid h1
  have A2 := Lib.hid h2
  have A3 := Lib.hid h3
  clear h1 h2 h3
  have K0 := Blk.boxed w 23 #[.int .i64 l, .int .i64 m, .int .i64 a, .int .i64 s, .int .i64 x, .int .i64 y]
  have bel0 := bel_alloc (Below.refl w.heap.size w) (.cells #[.int .i64 l, .int .i64 m, .int .i64 a, .int .i64 s, .int .i64 x, .int .i64 y] 23)
  go_enter Try.func5, Try.ntmps5
  go_wp2_with (first
    | (go_at_call 16; refine (box_any l m a s x y _ (_ + x + y) 0 A1.out A2.out A3.out _).mono ?_; rintro e w1 ⟨rfl, hb1⟩; have K1 := K0.keep hb1; have R1 := K1.cell)
    | (go_at_call 18; refine (head_any _).mono ?_; rintro e w9 ⟨rfl, hb9⟩))
  all_goals
    go_ret
    exact ⟨rfl, (by (repeat (first | assumption | refine bel_trans ?_ (by assumption))))⟩
set_option maxHeartbeats 2000000 in
set_option maxRecDepth 100000 in
theorem boxes_a3 (l m a s x y v : Int) (h1 : boxI l m a s x y = v) (h2 : boxO l m a s x y = v + x + y) (h3 : boxE l m a s x y = 0) (hv : 0 ≤ v) (hv1 : v ≤ 1099511627776) (ha : 0 ≤ a) (ha1 : a ≤ 1099511627776) (hx : -1073741824 ≤ x) (hx1 : x ≤ 1073741824) (hy : -1073741824 ≤ y) (hy1 : y ≤ 1073741824)
    (q0 : x < 0) (q1 : l ≤ a - x - y) (q2 : v ≤ a - x - y) (w : World) : Calls Try.prog 5 #[.agg #[.int .i64 l, .int .i64 m, .int .i64 a, .int .i64 s, .int .i64 x, .int .i64 y]] w fun e w' => e = .returned (.bool true) ∧ Below w.heap.size w w' := by
  have A1 := Lib.hid h1
  have A2 := Lib.hid h2
  have A3 := Lib.hid h3
  clear h1 h2 h3
  have K0 := Blk.boxed w 23 #[.int .i64 l, .int .i64 m, .int .i64 a, .int .i64 s, .int .i64 x, .int .i64 y]
  have bel0 := bel_alloc (Below.refl w.heap.size w) (.cells #[.int .i64 l, .int .i64 m, .int .i64 a, .int .i64 s, .int .i64 x, .int .i64 y] 23)
  go_enter Try.func5, Try.ntmps5
  go_wp2_with (first
    | (go_at_call 16; refine (box_any l m a s x y _ (_ + x + y) 0 A1.out A2.out A3.out _).mono ?_; rintro e w1 ⟨rfl, hb1⟩; have K1 := K0.keep hb1; have R1 := K1.cell)
    | (go_at_call 18; refine (head_any _).mono ?_; rintro e w9 ⟨rfl, hb9⟩))
  all_goals
    go_ret
    exact ⟨rfl, (by (repeat (first | assumption | refine bel_trans ?_ (by assumption))))⟩
set_option maxHeartbeats 2000000 in
set_option maxRecDepth 100000 in
theorem boxes_b1 (l m a s x y v : Int) (h1 : boxI l m a s x y = v) (h2 : boxO l m a s x y = v + x + y) (h3 : boxE l m a s x y = 0) (hv : 0 ≤ v) (hv1 : v ≤ 1099511627776) (ha : 0 ≤ a) (ha1 : a ≤ 1099511627776) (hx : -1073741824 ≤ x) (hx1 : x ≤ 1073741824) (hy : -1073741824 ≤ y) (hy1 : y ≤ 1073741824)
    (q0 : y < 0) (q1 : a - x - y < 0) (w : World) : Calls Try.prog 5 #[.agg #[.int .i64 l, .int .i64 m, .int .i64 a, .int .i64 s, .int .i64 x, .int .i64 y]] w fun e w' => e = .returned (.bool true) ∧ Below w.heap.size w w' := by
  have A1 := Lib.hid h1
  have A2 := Lib.hid h2
  have A3 := Lib.hid h3
  clear h1 h2 h3
  have K0 := Blk.boxed w 23 #[.int .i64 l, .int .i64 m, .int .i64 a, .int .i64 s, .int .i64 x, .int .i64 y]
  have bel0 := bel_alloc (Below.refl w.heap.size w) (.cells #[.int .i64 l, .int .i64 m, .int .i64 a, .int .i64 s, .int .i64 x, .int .i64 y] 23)
  go_enter Try.func5, Try.ntmps5
  go_wp2_with (first
    | (go_at_call 16; refine (box_any l m a s x y _ (_ + x + y) 0 A1.out A2.out A3.out _).mono ?_; rintro e w1 ⟨rfl, hb1⟩; have K1 := K0.keep hb1; have R1 := K1.cell)
    | (go_at_call 18; refine (head_any _).mono ?_; rintro e w9 ⟨rfl, hb9⟩))
  all_goals
    go_ret
    exact ⟨rfl, (by (repeat (first | assumption | refine bel_trans ?_ (by assumption))))⟩
set_option maxHeartbeats 2000000 in
set_option maxRecDepth 100000 in
theorem boxes_b2 (l m a s x y v : Int) (h1 : boxI l m a s x y = v) (h2 : boxO l m a s x y = v + x + y) (h3 : boxE l m a s x y = 0) (hv : 0 ≤ v) (hv1 : v ≤ 1099511627776) (ha : 0 ≤ a) (ha1 : a ≤ 1099511627776) (hx : -1073741824 ≤ x) (hx1 : x ≤ 1073741824) (hy : -1073741824 ≤ y) (hy1 : y ≤ 1073741824)
    (q0 : y < 0) (q1 : a - x - y < l) (q2 : v ≤ l) (w : World) : Calls Try.prog 5 #[.agg #[.int .i64 l, .int .i64 m, .int .i64 a, .int .i64 s, .int .i64 x, .int .i64 y]] w fun e w' => e = .returned (.bool true) ∧ Below w.heap.size w w' := by
  have A1 := Lib.hid h1
  have A2 := Lib.hid h2
  have A3 := Lib.hid h3
  clear h1 h2 h3
  have K0 := Blk.boxed w 23 #[.int .i64 l, .int .i64 m, .int .i64 a, .int .i64 s, .int .i64 x, .int .i64 y]
  have bel0 := bel_alloc (Below.refl w.heap.size w) (.cells #[.int .i64 l, .int .i64 m, .int .i64 a, .int .i64 s, .int .i64 x, .int .i64 y] 23)
  go_enter Try.func5, Try.ntmps5
  go_wp2_with (first
    | (go_at_call 16; refine (box_any l m a s x y _ (_ + x + y) 0 A1.out A2.out A3.out _).mono ?_; rintro e w1 ⟨rfl, hb1⟩; have K1 := K0.keep hb1; have R1 := K1.cell)
    | (go_at_call 18; refine (head_any _).mono ?_; rintro e w9 ⟨rfl, hb9⟩))
  all_goals
    go_ret
    exact ⟨rfl, (by (repeat (first | assumption | refine bel_trans ?_ (by assumption))))⟩
set_option maxHeartbeats 2000000 in
set_option maxRecDepth 100000 in
theorem boxes_b3 (l m a s x y v : Int) (h1 : boxI l m a s x y = v) (h2 : boxO l m a s x y = v + x + y) (h3 : boxE l m a s x y = 0) (hv : 0 ≤ v) (hv1 : v ≤ 1099511627776) (ha : 0 ≤ a) (ha1 : a ≤ 1099511627776) (hx : -1073741824 ≤ x) (hx1 : x ≤ 1073741824) (hy : -1073741824 ≤ y) (hy1 : y ≤ 1073741824)
    (q0 : y < 0) (q1 : l ≤ a - x - y) (q2 : v ≤ a - x - y) (w : World) : Calls Try.prog 5 #[.agg #[.int .i64 l, .int .i64 m, .int .i64 a, .int .i64 s, .int .i64 x, .int .i64 y]] w fun e w' => e = .returned (.bool true) ∧ Below w.heap.size w w' := by
  have A1 := Lib.hid h1
  have A2 := Lib.hid h2
  have A3 := Lib.hid h3
  clear h1 h2 h3
  have K0 := Blk.boxed w 23 #[.int .i64 l, .int .i64 m, .int .i64 a, .int .i64 s, .int .i64 x, .int .i64 y]
  have bel0 := bel_alloc (Below.refl w.heap.size w) (.cells #[.int .i64 l, .int .i64 m, .int .i64 a, .int .i64 s, .int .i64 x, .int .i64 y] 23)
  go_enter Try.func5, Try.ntmps5
  go_wp2_with (first
    | (go_at_call 16; refine (box_any l m a s x y _ (_ + x + y) 0 A1.out A2.out A3.out _).mono ?_; rintro e w1 ⟨rfl, hb1⟩; have K1 := K0.keep hb1; have R1 := K1.cell)
    | (go_at_call 18; refine (head_any _).mono ?_; rintro e w9 ⟨rfl, hb9⟩))
  all_goals
    go_ret
    exact ⟨rfl, (by (repeat (first | assumption | refine bel_trans ?_ (by assumption))))⟩
set_option maxHeartbeats 2000000 in
set_option maxRecDepth 100000 in
theorem boxes_c2 (l m a s x y v : Int) (h1 : boxI l m a s x y = v) (h2 : boxO l m a s x y = v + x + y) (h3 : boxE l m a s x y = 0) (hv : 0 ≤ v) (hv1 : v ≤ 1099511627776) (ha : 0 ≤ a) (ha1 : a ≤ 1099511627776) (hx : -1073741824 ≤ x) (hx1 : x ≤ 1073741824) (hy : -1073741824 ≤ y) (hy1 : y ≤ 1073741824)
    (q0 : v + x + y ≤ a) (q1 : a - x - y < l) (q2 : v ≤ l) (w : World) : Calls Try.prog 5 #[.agg #[.int .i64 l, .int .i64 m, .int .i64 a, .int .i64 s, .int .i64 x, .int .i64 y]] w fun e w' => e = .returned (.bool true) ∧ Below w.heap.size w w' := by
  have A1 := Lib.hid h1
  have A2 := Lib.hid h2
  have A3 := Lib.hid h3
  clear h1 h2 h3
  have K0 := Blk.boxed w 23 #[.int .i64 l, .int .i64 m, .int .i64 a, .int .i64 s, .int .i64 x, .int .i64 y]
  have bel0 := bel_alloc (Below.refl w.heap.size w) (.cells #[.int .i64 l, .int .i64 m, .int .i64 a, .int .i64 s, .int .i64 x, .int .i64 y] 23)
  go_enter Try.func5, Try.ntmps5
  go_wp2_with (first
    | (go_at_call 16; refine (box_any l m a s x y _ (_ + x + y) 0 A1.out A2.out A3.out _).mono ?_; rintro e w1 ⟨rfl, hb1⟩; have K1 := K0.keep hb1; have R1 := K1.cell)
    | (go_at_call 18; refine (head_any _).mono ?_; rintro e w9 ⟨rfl, hb9⟩))
  all_goals
    go_ret
    exact ⟨rfl, (by (repeat (first | assumption | refine bel_trans ?_ (by assumption))))⟩
set_option maxHeartbeats 2000000 in
set_option maxRecDepth 100000 in
theorem boxes_c3 (l m a s x y v : Int) (h1 : boxI l m a s x y = v) (h2 : boxO l m a s x y = v + x + y) (h3 : boxE l m a s x y = 0) (hv : 0 ≤ v) (hv1 : v ≤ 1099511627776) (ha : 0 ≤ a) (ha1 : a ≤ 1099511627776) (hx : -1073741824 ≤ x) (hx1 : x ≤ 1073741824) (hy : -1073741824 ≤ y) (hy1 : y ≤ 1073741824)
    (q0 : v + x + y ≤ a) (q1 : l ≤ a - x - y) (q2 : v ≤ a - x - y) (w : World) : Calls Try.prog 5 #[.agg #[.int .i64 l, .int .i64 m, .int .i64 a, .int .i64 s, .int .i64 x, .int .i64 y]] w fun e w' => e = .returned (.bool true) ∧ Below w.heap.size w w' := by
  have A1 := Lib.hid h1
  have A2 := Lib.hid h2
  have A3 := Lib.hid h3
  clear h1 h2 h3
  have K0 := Blk.boxed w 23 #[.int .i64 l, .int .i64 m, .int .i64 a, .int .i64 s, .int .i64 x, .int .i64 y]
  have bel0 := bel_alloc (Below.refl w.heap.size w) (.cells #[.int .i64 l, .int .i64 m, .int .i64 a, .int .i64 s, .int .i64 x, .int .i64 y] 23)
  go_enter Try.func5, Try.ntmps5
  go_wp2_with (first
    | (go_at_call 16; refine (box_any l m a s x y _ (_ + x + y) 0 A1.out A2.out A3.out _).mono ?_; rintro e w1 ⟨rfl, hb1⟩; have K1 := K0.keep hb1; have R1 := K1.cell)
    | (go_at_call 18; refine (head_any _).mono ?_; rintro e w9 ⟨rfl, hb9⟩))
  all_goals
    go_ret
    exact ⟨rfl, (by (repeat (first | assumption | refine bel_trans ?_ (by assumption))))⟩
set_option maxHeartbeats 2000000 in
set_option maxRecDepth 100000 in
theorem boxes_d1 (l m a s x y : Int) (h1 : boxI l m a s x y = l) (h2 : boxO l m a s x y = l + x + y) (h3 : boxE l m a s x y = 0) (hv : 0 ≤ l) (hv1 : l ≤ 1099511627776) (ha : 0 ≤ a) (ha1 : a ≤ 1099511627776) (hx : -1073741824 ≤ x) (hx1 : x ≤ 1073741824) (hy : -1073741824 ≤ y) (hy1 : y ≤ 1073741824)
    (q0 : a - x - y < 0) (w : World) : Calls Try.prog 5 #[.agg #[.int .i64 l, .int .i64 m, .int .i64 a, .int .i64 s, .int .i64 x, .int .i64 y]] w fun e w' => e = .returned (.bool true) ∧ Below w.heap.size w w' := by
  have A1 := Lib.hid h1
  have A2 := Lib.hid h2
  have A3 := Lib.hid h3
  clear h1 h2 h3
  have K0 := Blk.boxed w 23 #[.int .i64 l, .int .i64 m, .int .i64 a, .int .i64 s, .int .i64 x, .int .i64 y]
  have bel0 := bel_alloc (Below.refl w.heap.size w) (.cells #[.int .i64 l, .int .i64 m, .int .i64 a, .int .i64 s, .int .i64 x, .int .i64 y] 23)
  go_enter Try.func5, Try.ntmps5
  go_wp2_with (first
    | (go_at_call 16; refine (box_any l m a s x y _ (_ + x + y) 0 A1.out A2.out A3.out _).mono ?_; rintro e w1 ⟨rfl, hb1⟩; have K1 := K0.keep hb1; have R1 := K1.cell)
    | (go_at_call 18; refine (head_any _).mono ?_; rintro e w9 ⟨rfl, hb9⟩))
  all_goals
    go_ret
    exact ⟨rfl, (by (repeat (first | assumption | refine bel_trans ?_ (by assumption))))⟩
set_option maxHeartbeats 2000000 in
set_option maxRecDepth 100000 in
theorem boxes_d2 (l m a s x y : Int) (h1 : boxI l m a s x y = l) (h2 : boxO l m a s x y = l + x + y) (h3 : boxE l m a s x y = 0) (hv : 0 ≤ l) (hv1 : l ≤ 1099511627776) (ha : 0 ≤ a) (ha1 : a ≤ 1099511627776) (hx : -1073741824 ≤ x) (hx1 : x ≤ 1073741824) (hy : -1073741824 ≤ y) (hy1 : y ≤ 1073741824)
    (q0 : a - x - y < l) (q1 : l ≤ l) (w : World) : Calls Try.prog 5 #[.agg #[.int .i64 l, .int .i64 m, .int .i64 a, .int .i64 s, .int .i64 x, .int .i64 y]] w fun e w' => e = .returned (.bool true) ∧ Below w.heap.size w w' := by
  have A1 := Lib.hid h1
  have A2 := Lib.hid h2
  have A3 := Lib.hid h3
  clear h1 h2 h3
  have K0 := Blk.boxed w 23 #[.int .i64 l, .int .i64 m, .int .i64 a, .int .i64 s, .int .i64 x, .int .i64 y]
  have bel0 := bel_alloc (Below.refl w.heap.size w) (.cells #[.int .i64 l, .int .i64 m, .int .i64 a, .int .i64 s, .int .i64 x, .int .i64 y] 23)
  go_enter Try.func5, Try.ntmps5
  go_wp2_with (first
    | (go_at_call 16; refine (box_any l m a s x y _ (_ + x + y) 0 A1.out A2.out A3.out _).mono ?_; rintro e w1 ⟨rfl, hb1⟩; have K1 := K0.keep hb1; have R1 := K1.cell)
    | (go_at_call 18; refine (head_any _).mono ?_; rintro e w9 ⟨rfl, hb9⟩))
  all_goals
    go_ret
    exact ⟨rfl, (by (repeat (first | assumption | refine bel_trans ?_ (by assumption))))⟩
set_option maxHeartbeats 2000000 in
set_option maxRecDepth 100000 in
theorem boxes_d3 (l m a s x y : Int) (h1 : boxI l m a s x y = l) (h2 : boxO l m a s x y = l + x + y) (h3 : boxE l m a s x y = 0) (hv : 0 ≤ l) (hv1 : l ≤ 1099511627776) (ha : 0 ≤ a) (ha1 : a ≤ 1099511627776) (hx : -1073741824 ≤ x) (hx1 : x ≤ 1073741824) (hy : -1073741824 ≤ y) (hy1 : y ≤ 1073741824)
    (q0 : l ≤ a - x - y) (q1 : l ≤ a - x - y) (w : World) : Calls Try.prog 5 #[.agg #[.int .i64 l, .int .i64 m, .int .i64 a, .int .i64 s, .int .i64 x, .int .i64 y]] w fun e w' => e = .returned (.bool true) ∧ Below w.heap.size w w' := by
  have A1 := Lib.hid h1
  have A2 := Lib.hid h2
  have A3 := Lib.hid h3
  clear h1 h2 h3
  have K0 := Blk.boxed w 23 #[.int .i64 l, .int .i64 m, .int .i64 a, .int .i64 s, .int .i64 x, .int .i64 y]
  have bel0 := bel_alloc (Below.refl w.heap.size w) (.cells #[.int .i64 l, .int .i64 m, .int .i64 a, .int .i64 s, .int .i64 x, .int .i64 y] 23)
  go_enter Try.func5, Try.ntmps5
  go_wp2_with (first
    | (go_at_call 16; refine (box_any l m a s x y _ (_ + x + y) 0 A1.out A2.out A3.out _).mono ?_; rintro e w1 ⟨rfl, hb1⟩; have K1 := K0.keep hb1; have R1 := K1.cell)
    | (go_at_call 18; refine (head_any _).mono ?_; rintro e w9 ⟨rfl, hb9⟩))
  all_goals
    go_ret
    exact ⟨rfl, (by (repeat (first | assumption | refine bel_trans ?_ (by assumption))))⟩
theorem boxes_on (l m a s x y v : Int) (h1 : boxI l m a s x y = v) (h2 : boxO l m a s x y = v + x + y) (h3 : boxE l m a s x y = 0) (hv : 0 ≤ v) (hv1 : v ≤ 1099511627776) (ha : 0 ≤ a) (ha1 : a ≤ 1099511627776) (hx : -1073741824 ≤ x) (hx1 : x ≤ 1073741824) (hy : -1073741824 ≤ y) (hy1 : y ≤ 1073741824)
    (g1 : 0 ≤ s ∨ (x < 0 ∨ y < 0 ∨ v + x + y ≤ a ∨ l = v) ∧ (a - x - y < 0 ∨ a - x - y < l ∧ v ≤ l ∨ l ≤ a - x - y ∧ v ≤ a - x - y)) (w : World) : Calls Try.prog 5 #[.agg #[.int .i64 l, .int .i64 m, .int .i64 a, .int .i64 s, .int .i64 x, .int .i64 y]] w fun e w' => e = .returned (.bool true) ∧ Below w.heap.size w w' := by
  rcases g1 with g1 | ⟨g1 | g1 | g1 | rfl, g2 | ⟨g2, g3⟩ | ⟨g2, g3⟩⟩
  · exact boxes_s l m a s x y v h1 h2 h3 hv hv1 ha ha1 hx hx1 hy hy1 g1 w
  · exact boxes_a1 l m a s x y v h1 h2 h3 hv hv1 ha ha1 hx hx1 hy hy1 g1 g2 w
  · exact boxes_a2 l m a s x y v h1 h2 h3 hv hv1 ha ha1 hx hx1 hy hy1 g1 g2 g3 w
  · exact boxes_a3 l m a s x y v h1 h2 h3 hv hv1 ha ha1 hx hx1 hy hy1 g1 g2 g3 w
  · exact boxes_b1 l m a s x y v h1 h2 h3 hv hv1 ha ha1 hx hx1 hy hy1 g1 g2 w
  · exact boxes_b2 l m a s x y v h1 h2 h3 hv hv1 ha ha1 hx hx1 hy hy1 g1 g2 g3 w
  · exact boxes_b3 l m a s x y v h1 h2 h3 hv hv1 ha ha1 hx hx1 hy hy1 g1 g2 g3 w
  · omega
  · exact boxes_c2 l m a s x y v h1 h2 h3 hv hv1 ha ha1 hx hx1 hy hy1 g1 g2 g3 w
  · exact boxes_c3 l m a s x y v h1 h2 h3 hv hv1 ha ha1 hx hx1 hy hy1 g1 g2 g3 w
  · exact boxes_d1 l m a s x y h1 h2 h3 hv hv1 ha ha1 hx hx1 hy hy1 g2 w
  · exact boxes_d2 l m a s x y h1 h2 h3 hv hv1 ha ha1 hx hx1 hy hy1 g2 g3 w
  · exact boxes_d3 l m a s x y h1 h2 h3 hv hv1 ha ha1 hx hx1 hy hy1 g2 g3 w
theorem FitBoxes_any (l m a s x y : Int) (w : World) : Calls Try.prog 5 #[.agg #[.int .i64 l, .int .i64 m, .int .i64 a, .int .i64 s, .int .i64 x, .int .i64 y]] w fun e w' => e = .returned (.bool true) ∧ Below w.heap.size w w' := by
  cases h : okO a x y with
  | false => exact boxes_no l m a s x y (by simp [boxI, h]) (by simp [boxO, h]) (by simp [boxE, h]) w
  | true =>
    have hp := okO_parts h
    cases g : okF l m (mn (innV a x y) 1099511627776) s with
    | false => exact boxes_no l m a s x y (by simp [boxI, h, fitV, g]) (by simp [boxO, h, g]) (by simp [boxE, h, fitE, g]) w
    | true =>
      have hq := okF_parts g
      have hi : innV a x y = (if a < x + y then 0 else a - x - y) := by rw [innV, if_pos h]
      obtain ⟨v, hv⟩ : ∃ v, boxI l m a s x y = v := ⟨_, rfl⟩
      have hv2 : v = fitV l m (mn (innV a x y) 1099511627776) s := by rw [← hv, boxI, if_pos h]
      have hvr := fitV_rng l m (mn (innV a x y) 1099511627776) s
      rw [← hv2] at hvr
      have hv3 : v = (if 0 ≤ s then s else if mn (innV a x y) 1099511627776 < l then l else if m < mn (innV a x y) 1099511627776 then m else mn (innV a x y) 1099511627776) := by rw [hv2, fitV, if_pos g]
      have hmn : mn (innV a x y) 1099511627776 = (if 1099511627776 < innV a x y then 1099511627776 else innV a x y) := rfl
      refine boxes_on l m a s x y v hv (by rw [boxO, if_pos h, if_pos g, hv]) (by rw [boxE, if_pos h, fitE, if_pos g]) (by omega) (by omega) (by omega) (by omega) (by omega) (by omega) (by omega) (by omega) ?_ w
      rcases Int.lt_or_le s 0 with g0 | g0
      · refine .inr ?_
        clear hv hv2 g h
        generalize mn (innV a x y) 1099511627776 = z at *
        generalize innV a x y = u at *
        rw [if_neg (by omega)] at hv3
        constructor
        all_goals
          split at hi <;> split at hmn <;> split at hv3 <;> (try split at hv3) <;> omega
      · exact .inl g0

end Go.Proofs.Ytfpgmldgfgoboaa.Fit

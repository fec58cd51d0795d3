/- Chapter 8: the program's small functions on marks, walked. No condition but bounds. -/
import Derived.Test.YtmjacmjogckihaaWhiteS
namespace Go.Proofs.Ytmjacmjogckihaa.White
open Go.RowKit
set_option linter.unusedVariables false
set_option linter.unusedSimpArgs false

set_option maxHeartbeats 1000000 in
theorem text_any (m : Mk) (r : Int) (w : World) : Calls Try.prog 39 #[mkV m, .int .i32 r] w fun e w' => e = .returned (.bool (isT m.c r)) ∧ Below w.heap.size w w' := by
  obtain ⟨⟨r0, nd, p, n, k⟩, st, fo, en, so⟩ := m
  have HB := Lib.hid (bel_alloc (Below.refl w.heap.size w) (.cells #[.int .i32 r0, .int .i64 nd, .int .i64 p, .int .i64 n, .int .u8 k, .int .u8 st, .bool fo, .bool en, .bool so] 47))
  by_cases g1 : k = 0
  · subst g1
    by_cases g2 : r0 = r
    · have q2 : (r0 == r) = true := by simpa using g2
      have HE := Lib.hid (show isT ⟨r0, nd, p, n, 0⟩ r = true by unfold isT; rw [decide_eq_true g2]; rfl)
      clear g2
      go_enter Try.func39, Try.ntmps39
      go_wp2
      go_ret
      exact ⟨by rw [HE.out]; rfl, HB.out⟩
    · have q2 : (r0 == r) = false := by simpa using g2
      have HE := Lib.hid (show isT ⟨r0, nd, p, n, 0⟩ r = false by unfold isT; rw [decide_eq_false g2]; rfl)
      clear g2
      go_enter Try.func39, Try.ntmps39
      go_wp2
      go_ret
      exact ⟨by rw [HE.out]; rfl, HB.out⟩
  · have q1 : (k == 0) = false := by simpa using g1
    have HE := Lib.hid (show isT ⟨r0, nd, p, n, k⟩ r = false by unfold isT; rw [decide_eq_false g1]; rfl)
    clear g1
    go_enter Try.func39, Try.ntmps39
    go_wp2
    go_ret
    exact ⟨by rw [HE.out]; rfl, HB.out⟩
set_option maxHeartbeats 1000000 in
theorem white_any (m : Mk) (w : World) : Calls Try.prog 45 #[mkV m] w fun e w' => e = .returned (.bool (whM m)) ∧ Below w.heap.size w w' := by
  have H1 := Lib.hid (fun W => text_any m 32 W)
  have H2 := Lib.hid (fun W => text_any m 9 W)
  obtain ⟨a, ha⟩ : ∃ a, isT m.c 32 = a := ⟨_, rfl⟩
  obtain ⟨b, hb⟩ : ∃ b, isT m.c 9 = b := ⟨_, rfl⟩
  have HE := Lib.hid (show whM m = (m.fo && (a || b)) by unfold whM; rw [ha, hb])
  rw [ha] at H1
  rw [hb] at H2
  clear ha hb
  obtain ⟨⟨r0, nd, p, n, k⟩, st, fo, en, so⟩ := m
  have HB := Lib.hid (bel_alloc (Below.refl w.heap.size w) (.cells #[.int .i32 r0, .int .i64 nd, .int .i64 p, .int .i64 n, .int .u8 k, .int .u8 st, .bool fo, .bool en, .bool so] 47))
  have HK := Lib.hid (Blk.new w 47 #[.int .i32 r0, .int .i64 nd, .int .i64 p, .int .i64 n, .int .u8 k, .int .u8 st, .bool fo, .bool en, .bool so])
  cases fo <;> cases a <;> cases b
  all_goals
    go_enter Try.func45, Try.ntmps45
    go_wp2_with (first
      | (go_at_call 39; (with_reducible refine (H1.out _).mono ?_); rintro e w1 ⟨rfl, b1⟩; have K1 := HK.out.keep b1; have e0 := K1.cell 0; have e1 := K1.cell 1; have e2 := K1.cell 2; have e3 := K1.cell 3; have e4 := K1.cell 4; have e5 := K1.cell 5; have e6 := K1.cell 6; have e7 := K1.cell 7; have e8 := K1.cell 8; have B1 := Lib.hid (bel_trans HB.out b1); clear b1 K1)
      | (go_at_call 39; (with_reducible refine (H2.out _).mono ?_); rintro e w2 ⟨rfl, b2⟩; have B2 := Lib.hid (bel_trans B1.out b2); clear b2))
    go_ret
    exact ⟨by rw [HE.out]; rfl, by first | exact B2.out | exact B1.out | exact HB.out⟩
/-- A function of a mark. -/
def MarkFn (g : Nat) (f : Mk → Bool) : Prop := ∀ (m : Mk) (W : World), Calls Try.prog g #[mkV m] W fun e w' => e = .returned (.bool (f m)) ∧ Below W.heap.size W w'
theorem end_fn : MarkFn 35 Mk.en := by
  intro m w
  obtain ⟨⟨r0, nd, p, n, k⟩, st, fo, en, so⟩ := m
  have HB := Lib.hid (bel_alloc (Below.refl w.heap.size w) (.cells #[.int .i32 r0, .int .i64 nd, .int .i64 p, .int .i64 n, .int .u8 k, .int .u8 st, .bool fo, .bool en, .bool so] 47))
  go_enter Try.func35, Try.ntmps35
  go_wp2
  go_ret
  exact ⟨rfl, HB.out⟩
set_option maxHeartbeats 1000000 in
theorem wide_fn : MarkFn 36 wideM := by
  intro m w
  have H1 := Lib.hid (fun W => Class.wide_any m.c.r W)
  obtain ⟨a, ha⟩ : ∃ a, Class.wideB m.c.r = a := ⟨_, rfl⟩
  have HE := Lib.hid (show wideM m = (decide (m.c.kind = 0) && (!m.en && a)) by unfold wideM; rw [ha])
  rw [ha] at H1
  clear ha
  obtain ⟨⟨r0, nd, p, n, k⟩, st, fo, en, so⟩ := m
  have HB := Lib.hid (bel_alloc (Below.refl w.heap.size w) (.cells #[.int .i32 r0, .int .i64 nd, .int .i64 p, .int .i64 n, .int .u8 k, .int .u8 st, .bool fo, .bool en, .bool so] 47))
  simp only at H1
  by_cases g1 : k = 0
  · subst g1
    cases en
    all_goals
      go_enter Try.func36, Try.ntmps36
      go_wp2_with (go_at_call 37; (with_reducible refine (H1.out _).mono ?_); rintro e w1 ⟨rfl, b1⟩; have B1 := Lib.hid (bel_trans HB.out b1); clear b1)
      go_ret
      exact ⟨by rw [HE.out]; rfl, by first | exact B1.out | exact HB.out⟩
  · have q1 : (k == 0) = false := by simpa using g1
    rw [show decide (k = 0) = false from decide_eq_false g1] at HE
    clear g1
    go_enter Try.func36, Try.ntmps36
    go_wp2
    go_ret
    exact ⟨by rw [HE.out]; rfl, HB.out⟩
set_option maxHeartbeats 1000000 in
theorem zero_fn : MarkFn 38 (fun m => isT m.c 8203) := by
  intro m w
  have H1 := Lib.hid (fun W => text_any m 8203 W)
  obtain ⟨a, ha⟩ : ∃ a, isT m.c 8203 = a := ⟨_, rfl⟩
  have HE := Lib.hid ha
  rw [ha] at H1
  clear ha
  obtain ⟨⟨r0, nd, p, n, k⟩, st, fo, en, so⟩ := m
  have HB := Lib.hid (bel_alloc (Below.refl w.heap.size w) (.cells #[.int .i32 r0, .int .i64 nd, .int .i64 p, .int .i64 n, .int .u8 k, .int .u8 st, .bool fo, .bool en, .bool so] 47))
  go_enter Try.func38, Try.ntmps38
  go_wp2_with (go_at_call 39; (with_reducible refine (H1.out _).mono ?_); rintro e w1 ⟨rfl, b1⟩; have B1 := Lib.hid (bel_trans HB.out b1); clear b1)
  go_ret
  exact ⟨by rw [← HE.out]; rfl, B1.out⟩
set_option maxHeartbeats 1000000 in
theorem feed_fn : MarkFn 42 (fun m => isT m.c 10) := by
  intro m w
  have H1 := Lib.hid (fun W => text_any m 10 W)
  obtain ⟨a, ha⟩ : ∃ a, isT m.c 10 = a := ⟨_, rfl⟩
  have HE := Lib.hid ha
  rw [ha] at H1
  clear ha
  obtain ⟨⟨r0, nd, p, n, k⟩, st, fo, en, so⟩ := m
  have HB := Lib.hid (bel_alloc (Below.refl w.heap.size w) (.cells #[.int .i32 r0, .int .i64 nd, .int .i64 p, .int .i64 n, .int .u8 k, .int .u8 st, .bool fo, .bool en, .bool so] 47))
  go_enter Try.func42, Try.ntmps42
  go_wp2_with (go_at_call 39; (with_reducible refine (H1.out _).mono ?_); rintro e w1 ⟨rfl, b1⟩; have B1 := Lib.hid (bel_trans HB.out b1); clear b1)
  go_ret
  exact ⟨by rw [← HE.out]; rfl, B1.out⟩
theorem white_fn : MarkFn 45 whM := fun m w => white_any m w
end Go.Proofs.Ytmjacmjogckihaa.White

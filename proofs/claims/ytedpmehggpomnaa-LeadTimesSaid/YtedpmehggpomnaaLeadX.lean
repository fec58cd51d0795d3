/- Chapter 18: the head of the laws, walked. No condition. -/
import Derived.Test.YtedpmehggpomnaaLeadFText
import Derived.Test.YtedpmehggpomnaaLeadFStrut
import Derived.Test.YtedpmehggpomnaaLeadFHeight
import Derived.Test.YtedpmehggpomnaaLeadFAround
import Derived.Test.YtedpmehggpomnaaLeadR
namespace Go.Proofs.Ytedpmehggpomnaa.Lead
open Go.RowKit Go.Proofs.Ytedpmehggpomnaa.Unit Go.Proofs.Ytedpmehggpomnaa.Font
set_option linter.unusedVariables false

def smallB (n : Nat) : Bool := decide (n ≤ 300)
set_option maxHeartbeats 1000000 in
theorem small_any (a d g x o : Int) (A : Option Addr) (n c : Nat) (hc : (n : Int) ≤ 9223372036854775807) (w : World) : Calls Try.prog 7 #[fontV a d g x o A n c] w fun e w' => e = .returned (.bool (smallB n)) ∧ Below w.heap.size w w' := by
  rcases Nat.lt_or_ge 300 n with h | h
  · have HE := Lib.hid (show smallB n = false from decide_eq_false (by omega))
    go_enter Try.func7, Try.ntmps7
    go_wp2
    go_ret
    exact ⟨ret_bool (by rw [HE.out]; first | done | (simp; done) | (simp; omega)), bel_alloc (Below.refl _ _) _⟩
  · have HE := Lib.hid (show smallB n = true from decide_eq_true h)
    go_enter Try.func7, Try.ntmps7
    go_wp2
    go_ret
    exact ⟨ret_bool (by rw [HE.out]; first | done | (simp; done) | (simp; omega)), bel_alloc (Below.refl _ _) _⟩
theorem rngL_of (xs : List (List Int)) (h : ∀ x ∈ xs, wfR [.i32, .i32, .i64] x) : ∃ rs : List Rng, rs.length = xs.length ∧ (∀ y ∈ rs, wfA y) ∧ xs.flatMap (encR [.i32, .i32, .i64]) = rs.flatMap encA := by
  induction xs with
  | nil => exact ⟨[], rfl, by simp, rfl⟩
  | cons x xs ih =>
    obtain ⟨rs, h1, h2, h3⟩ := ih (fun y hy => h y (by simp [hy]))
    obtain ⟨hl, hw⟩ := h x (by simp)
    match x, hl with
    | [f, t, v], _ =>
      refine ⟨(f, t, v) :: rs, by simp [h1], fun y hy => ?_, ?_⟩
      · rcases List.mem_cons.1 hy with rfl | hy
        · exact ⟨hw 0 _ _ rfl rfl, hw 1 _ _ rfl rfl, hw 2 _ _ rfl rfl⟩
        · exact h2 y hy
      · rw [List.flatMap_cons, List.flatMap_cons, h3]
        rfl
theorem example_any (w : World) : Calls Try.prog 18 #[] w fun e w' => e = .returned (fontV 800 224 0 512 512 none 0 0) ∧ Below w.heap.size w w' := by
  go_enter Try.func18, Try.ntmps18
  go_wp2
  exact bodyPost_ret (v := fontV 800 224 0 512 512 none 0 0) (by simp [results, Try.results18, go_sem]) rfl ⟨rfl, bel_alloc (Below.refl _ _) _⟩
theorem ra_nil (W : World) : RA W none 0 [] := ⟨rfl, rfl, fun h => absurd h (by omega)⟩
abbrev cSt (sz hk ht u v e : Int) : Prop := ∀ W, Calls Try.prog 9 #[fontV 800 224 0 512 512 none 0 0, styV 0 0 0 0 0 0 sz hk ht] W fun x w' => x = .returned (.tuple #[boxV u v, .int .i64 e]) ∧ Below W.heap.size W w'
theorem st0 : cSt 1024 0 0 800 224 0 := fun W => by
  have := Strut_ok 800 224 0 512 512 none 0 0 0 0 0 0 0 0 1024 0 0 [] (by omega) W (ra_nil W) (fun y hy => by cases hy) (by decide) (by decide)
  rw [show strA 800 224 0 1024 0 0 = 800 by decide, show strB 800 224 0 1024 0 0 = 224 by decide] at this
  exact this
theorem st1 : cSt 1024 1 96 1056 480 0 := fun W => by
  have := Strut_ok 800 224 0 512 512 none 0 0 0 0 0 0 0 0 1024 1 96 [] (by omega) W (ra_nil W) (fun y hy => by cases hy) (by decide) (by decide)
  rw [show strA 800 224 0 1024 1 96 = 1056 by decide, show strB 800 224 0 1024 1 96 = 480 by decide] at this
  exact this
theorem st2 : cSt 1024 2 1023 799 224 0 := fun W => by
  have := Strut_ok 800 224 0 512 512 none 0 0 0 0 0 0 0 0 1024 2 1023 [] (by omega) W (ra_nil W) (fun y hy => by cases hy) (by decide) (by decide)
  rw [show strA 800 224 0 1024 2 1023 = 799 by decide, show strB 800 224 0 1024 2 1023 = 224 by decide] at this
  exact this
theorem st3 : cSt 1024 2 0 288 (-288) 0 := fun W => by
  have := Strut_ok 800 224 0 512 512 none 0 0 0 0 0 0 0 0 1024 2 0 [] (by omega) W (ra_nil W) (fun y hy => by cases hy) (by decide) (by decide)
  rw [show strA 800 224 0 1024 2 0 = 288 by decide, show strB 800 224 0 1024 2 0 = (-288) by decide] at this
  exact this
theorem st4 : cSt 0 3 0 0 0 60 := fun W =>
  Strut_bad 800 224 0 512 512 none 0 0 0 0 0 0 0 0 0 3 0 [] (by omega) W (ra_nil W) (fun y hy => by cases hy) 60 (.inr ⟨by decide, by decide, rfl⟩)
theorem ht5 (W : World) : Calls Try.prog 11 #[fontV 800 224 0 512 512 none 0 0, styV 0 0 0 0 0 0 1024 1 96] W fun x w' => x = .returned (.tuple #[.int .i64 1536, .int .i64 0]) ∧ Below W.heap.size W w' := by
  have := Height_ok 800 224 0 512 512 none 0 0 0 0 0 0 0 0 1024 1 96 [] (by omega) W (ra_nil W) (fun y hy => by cases hy) (by decide) (by decide)
  rw [show htV 800 224 0 1024 1 96 = 1536 by decide] at this
  exact this
set_option maxHeartbeats 8000000 in
set_option maxRecDepth 100000 in
theorem head_any (w : World) : Calls Try.prog 8 #[] w fun e w' => e = .returned (.bool true) ∧ Below w.heap.size w w' := by
  have S0 := Lib.hid st0
  have S1 := Lib.hid st1
  have S2 := Lib.hid st2
  have S3 := Lib.hid st3
  have S4 := Lib.hid st4
  have S5 := Lib.hid ht5
  go_enter Try.func8, Try.ntmps8
  go_wp2_with (first
    | (go_at_call 18; refine (example_any _).mono ?_; rintro e w1 ⟨rfl, b1⟩)
    | (go_at_call 9; ((with_reducible refine (S0.out _).mono ?_); rintro e w2 ⟨rfl, b2⟩; have K0_0 := Lib.hid ((Blk.new w1 24 (fontC 800 224 0 512 512 none 0 0)).keep b2); have p0_0 : (w2.alloc (.cells #[.int .i64 800, .int .i64 224] 30)).cell? ⟨w1.heap.size, 0, none⟩ = some (.int .i64 800) := (K0_0.out.alloc (.cells #[.int .i64 800, .int .i64 224] 30)).cell 0; have p0_1 : (w2.alloc (.cells #[.int .i64 800, .int .i64 224] 30)).cell? ⟨w1.heap.size, 1, none⟩ = some (.int .i64 224) := (K0_0.out.alloc (.cells #[.int .i64 800, .int .i64 224] 30)).cell 1; have p0_2 : (w2.alloc (.cells #[.int .i64 800, .int .i64 224] 30)).cell? ⟨w1.heap.size, 2, none⟩ = some (.int .i64 0) := (K0_0.out.alloc (.cells #[.int .i64 800, .int .i64 224] 30)).cell 2; have p0_3 : (w2.alloc (.cells #[.int .i64 800, .int .i64 224] 30)).cell? ⟨w1.heap.size, 3, none⟩ = some (.int .i64 512) := (K0_0.out.alloc (.cells #[.int .i64 800, .int .i64 224] 30)).cell 3; have p0_4 : (w2.alloc (.cells #[.int .i64 800, .int .i64 224] 30)).cell? ⟨w1.heap.size, 4, none⟩ = some (.int .i64 512) := (K0_0.out.alloc (.cells #[.int .i64 800, .int .i64 224] 30)).cell 4; have p0_5 : (w2.alloc (.cells #[.int .i64 800, .int .i64 224] 30)).cell? ⟨w1.heap.size, 5, none⟩ = some (.slice none 0 0) := (K0_0.out.alloc (.cells #[.int .i64 800, .int .i64 224] 30)).cell 5; have n0_0 : ¬ w1.heap.size = w2.heap.size := Nat.ne_of_lt K0_0.out.lt; have m0_0 : ¬ w2.heap.size = w1.heap.size := fun h => n0_0 h.symm))
    | (go_at_call 9; ((with_reducible refine (S1.out _).mono ?_); rintro e w3 ⟨rfl, b3⟩; have K1_0 := Lib.hid ((K0_0.out.alloc (.cells (boxC 800 224) 30)).keep b3); have K1_1 := Lib.hid ((Blk.new w2 30 (boxC 800 224)).keep b3); have p1_0 : (w3.alloc (.cells #[.int .i64 1056, .int .i64 480] 30)).cell? ⟨w1.heap.size, 0, none⟩ = some (.int .i64 800) := (K1_0.out.alloc (.cells #[.int .i64 1056, .int .i64 480] 30)).cell 0; have p1_1 : (w3.alloc (.cells #[.int .i64 1056, .int .i64 480] 30)).cell? ⟨w1.heap.size, 1, none⟩ = some (.int .i64 224) := (K1_0.out.alloc (.cells #[.int .i64 1056, .int .i64 480] 30)).cell 1; have p1_2 : (w3.alloc (.cells #[.int .i64 1056, .int .i64 480] 30)).cell? ⟨w1.heap.size, 2, none⟩ = some (.int .i64 0) := (K1_0.out.alloc (.cells #[.int .i64 1056, .int .i64 480] 30)).cell 2; have p1_3 : (w3.alloc (.cells #[.int .i64 1056, .int .i64 480] 30)).cell? ⟨w1.heap.size, 3, none⟩ = some (.int .i64 512) := (K1_0.out.alloc (.cells #[.int .i64 1056, .int .i64 480] 30)).cell 3; have p1_4 : (w3.alloc (.cells #[.int .i64 1056, .int .i64 480] 30)).cell? ⟨w1.heap.size, 4, none⟩ = some (.int .i64 512) := (K1_0.out.alloc (.cells #[.int .i64 1056, .int .i64 480] 30)).cell 4; have p1_5 : (w3.alloc (.cells #[.int .i64 1056, .int .i64 480] 30)).cell? ⟨w1.heap.size, 5, none⟩ = some (.slice none 0 0) := (K1_0.out.alloc (.cells #[.int .i64 1056, .int .i64 480] 30)).cell 5; have n1_0 : ¬ w1.heap.size = w3.heap.size := Nat.ne_of_lt K1_0.out.lt; have m1_0 : ¬ w3.heap.size = w1.heap.size := fun h => n1_0 h.symm; have n1_1 : ¬ w2.heap.size = w3.heap.size := Nat.ne_of_lt K1_1.out.lt; have m1_1 : ¬ w3.heap.size = w2.heap.size := fun h => n1_1 h.symm))
    | (go_at_call 9; ((with_reducible refine (S2.out _).mono ?_); rintro e w4 ⟨rfl, b4⟩; have K2_0 := Lib.hid ((K1_0.out.alloc (.cells (boxC 1056 480) 30)).keep b4); have K2_1 := Lib.hid ((K1_1.out.alloc (.cells (boxC 1056 480) 30)).keep b4); have K2_2 := Lib.hid ((Blk.new w3 30 (boxC 1056 480)).keep b4); have p2_0 : (w4.alloc (.cells #[.int .i64 799, .int .i64 224] 30)).cell? ⟨w1.heap.size, 0, none⟩ = some (.int .i64 800) := (K2_0.out.alloc (.cells #[.int .i64 799, .int .i64 224] 30)).cell 0; have p2_1 : (w4.alloc (.cells #[.int .i64 799, .int .i64 224] 30)).cell? ⟨w1.heap.size, 1, none⟩ = some (.int .i64 224) := (K2_0.out.alloc (.cells #[.int .i64 799, .int .i64 224] 30)).cell 1; have p2_2 : (w4.alloc (.cells #[.int .i64 799, .int .i64 224] 30)).cell? ⟨w1.heap.size, 2, none⟩ = some (.int .i64 0) := (K2_0.out.alloc (.cells #[.int .i64 799, .int .i64 224] 30)).cell 2; have p2_3 : (w4.alloc (.cells #[.int .i64 799, .int .i64 224] 30)).cell? ⟨w1.heap.size, 3, none⟩ = some (.int .i64 512) := (K2_0.out.alloc (.cells #[.int .i64 799, .int .i64 224] 30)).cell 3; have p2_4 : (w4.alloc (.cells #[.int .i64 799, .int .i64 224] 30)).cell? ⟨w1.heap.size, 4, none⟩ = some (.int .i64 512) := (K2_0.out.alloc (.cells #[.int .i64 799, .int .i64 224] 30)).cell 4; have p2_5 : (w4.alloc (.cells #[.int .i64 799, .int .i64 224] 30)).cell? ⟨w1.heap.size, 5, none⟩ = some (.slice none 0 0) := (K2_0.out.alloc (.cells #[.int .i64 799, .int .i64 224] 30)).cell 5; have n2_0 : ¬ w1.heap.size = w4.heap.size := Nat.ne_of_lt K2_0.out.lt; have m2_0 : ¬ w4.heap.size = w1.heap.size := fun h => n2_0 h.symm; have n2_1 : ¬ w2.heap.size = w4.heap.size := Nat.ne_of_lt K2_1.out.lt; have m2_1 : ¬ w4.heap.size = w2.heap.size := fun h => n2_1 h.symm; have n2_2 : ¬ w3.heap.size = w4.heap.size := Nat.ne_of_lt K2_2.out.lt; have m2_2 : ¬ w4.heap.size = w3.heap.size := fun h => n2_2 h.symm))
    | (go_at_call 9; ((with_reducible refine (S3.out _).mono ?_); rintro e w5 ⟨rfl, b5⟩; have K3_0 := Lib.hid ((K2_0.out.alloc (.cells (boxC 799 224) 30)).keep b5); have K3_1 := Lib.hid ((K2_1.out.alloc (.cells (boxC 799 224) 30)).keep b5); have K3_2 := Lib.hid ((K2_2.out.alloc (.cells (boxC 799 224) 30)).keep b5); have K3_3 := Lib.hid ((Blk.new w4 30 (boxC 799 224)).keep b5); have p3_0 : (w5.alloc (.cells #[.int .i64 288, .int .i64 (-288)] 30)).cell? ⟨w1.heap.size, 0, none⟩ = some (.int .i64 800) := (K3_0.out.alloc (.cells #[.int .i64 288, .int .i64 (-288)] 30)).cell 0; have p3_1 : (w5.alloc (.cells #[.int .i64 288, .int .i64 (-288)] 30)).cell? ⟨w1.heap.size, 1, none⟩ = some (.int .i64 224) := (K3_0.out.alloc (.cells #[.int .i64 288, .int .i64 (-288)] 30)).cell 1; have p3_2 : (w5.alloc (.cells #[.int .i64 288, .int .i64 (-288)] 30)).cell? ⟨w1.heap.size, 2, none⟩ = some (.int .i64 0) := (K3_0.out.alloc (.cells #[.int .i64 288, .int .i64 (-288)] 30)).cell 2; have p3_3 : (w5.alloc (.cells #[.int .i64 288, .int .i64 (-288)] 30)).cell? ⟨w1.heap.size, 3, none⟩ = some (.int .i64 512) := (K3_0.out.alloc (.cells #[.int .i64 288, .int .i64 (-288)] 30)).cell 3; have p3_4 : (w5.alloc (.cells #[.int .i64 288, .int .i64 (-288)] 30)).cell? ⟨w1.heap.size, 4, none⟩ = some (.int .i64 512) := (K3_0.out.alloc (.cells #[.int .i64 288, .int .i64 (-288)] 30)).cell 4; have p3_5 : (w5.alloc (.cells #[.int .i64 288, .int .i64 (-288)] 30)).cell? ⟨w1.heap.size, 5, none⟩ = some (.slice none 0 0) := (K3_0.out.alloc (.cells #[.int .i64 288, .int .i64 (-288)] 30)).cell 5; have n3_0 : ¬ w1.heap.size = w5.heap.size := Nat.ne_of_lt K3_0.out.lt; have m3_0 : ¬ w5.heap.size = w1.heap.size := fun h => n3_0 h.symm; have n3_1 : ¬ w2.heap.size = w5.heap.size := Nat.ne_of_lt K3_1.out.lt; have m3_1 : ¬ w5.heap.size = w2.heap.size := fun h => n3_1 h.symm; have n3_2 : ¬ w3.heap.size = w5.heap.size := Nat.ne_of_lt K3_2.out.lt; have m3_2 : ¬ w5.heap.size = w3.heap.size := fun h => n3_2 h.symm; have n3_3 : ¬ w4.heap.size = w5.heap.size := Nat.ne_of_lt K3_3.out.lt; have m3_3 : ¬ w5.heap.size = w4.heap.size := fun h => n3_3 h.symm))
    | (go_at_call 9; ((with_reducible refine (S4.out _).mono ?_); rintro e w6 ⟨rfl, b6⟩; have K4_0 := Lib.hid ((K3_0.out.alloc (.cells (boxC 288 (-288)) 30)).keep b6); have K4_1 := Lib.hid ((K3_1.out.alloc (.cells (boxC 288 (-288)) 30)).keep b6); have K4_2 := Lib.hid ((K3_2.out.alloc (.cells (boxC 288 (-288)) 30)).keep b6); have K4_3 := Lib.hid ((K3_3.out.alloc (.cells (boxC 288 (-288)) 30)).keep b6); have K4_4 := Lib.hid ((Blk.new w5 30 (boxC 288 (-288))).keep b6); have p4_0 : (w6.alloc (.cells #[.int .i64 0, .int .i64 0] 30)).cell? ⟨w1.heap.size, 0, none⟩ = some (.int .i64 800) := (K4_0.out.alloc (.cells #[.int .i64 0, .int .i64 0] 30)).cell 0; have p4_1 : (w6.alloc (.cells #[.int .i64 0, .int .i64 0] 30)).cell? ⟨w1.heap.size, 1, none⟩ = some (.int .i64 224) := (K4_0.out.alloc (.cells #[.int .i64 0, .int .i64 0] 30)).cell 1; have p4_2 : (w6.alloc (.cells #[.int .i64 0, .int .i64 0] 30)).cell? ⟨w1.heap.size, 2, none⟩ = some (.int .i64 0) := (K4_0.out.alloc (.cells #[.int .i64 0, .int .i64 0] 30)).cell 2; have p4_3 : (w6.alloc (.cells #[.int .i64 0, .int .i64 0] 30)).cell? ⟨w1.heap.size, 3, none⟩ = some (.int .i64 512) := (K4_0.out.alloc (.cells #[.int .i64 0, .int .i64 0] 30)).cell 3; have p4_4 : (w6.alloc (.cells #[.int .i64 0, .int .i64 0] 30)).cell? ⟨w1.heap.size, 4, none⟩ = some (.int .i64 512) := (K4_0.out.alloc (.cells #[.int .i64 0, .int .i64 0] 30)).cell 4; have p4_5 : (w6.alloc (.cells #[.int .i64 0, .int .i64 0] 30)).cell? ⟨w1.heap.size, 5, none⟩ = some (.slice none 0 0) := (K4_0.out.alloc (.cells #[.int .i64 0, .int .i64 0] 30)).cell 5; have n4_0 : ¬ w1.heap.size = w6.heap.size := Nat.ne_of_lt K4_0.out.lt; have m4_0 : ¬ w6.heap.size = w1.heap.size := fun h => n4_0 h.symm; have n4_1 : ¬ w2.heap.size = w6.heap.size := Nat.ne_of_lt K4_1.out.lt; have m4_1 : ¬ w6.heap.size = w2.heap.size := fun h => n4_1 h.symm; have n4_2 : ¬ w3.heap.size = w6.heap.size := Nat.ne_of_lt K4_2.out.lt; have m4_2 : ¬ w6.heap.size = w3.heap.size := fun h => n4_2 h.symm; have n4_3 : ¬ w4.heap.size = w6.heap.size := Nat.ne_of_lt K4_3.out.lt; have m4_3 : ¬ w6.heap.size = w4.heap.size := fun h => n4_3 h.symm; have n4_4 : ¬ w5.heap.size = w6.heap.size := Nat.ne_of_lt K4_4.out.lt; have m4_4 : ¬ w6.heap.size = w5.heap.size := fun h => n4_4 h.symm))
    | (go_at_call 11; ((with_reducible refine (S5.out _).mono ?_); rintro e w7 ⟨rfl, b7⟩; have K5_1 := (K4_1.out.alloc (.cells (boxC 0 0) 30)).keep b7; have K5_2 := (K4_2.out.alloc (.cells (boxC 0 0) 30)).keep b7; have K5_3 := (K4_3.out.alloc (.cells (boxC 0 0) 30)).keep b7; have K5_4 := (K4_4.out.alloc (.cells (boxC 0 0) 30)).keep b7; have q0_0 : w7.cell? ⟨w2.heap.size, 0, none⟩ = some (.int .i64 800) := K5_1.cell 0; have q0_1 : w7.cell? ⟨w2.heap.size, 1, none⟩ = some (.int .i64 224) := K5_1.cell 1; have q1_0 : w7.cell? ⟨w3.heap.size, 0, none⟩ = some (.int .i64 1056) := K5_2.cell 0; have q1_1 : w7.cell? ⟨w3.heap.size, 1, none⟩ = some (.int .i64 480) := K5_2.cell 1; have q2_0 : w7.cell? ⟨w4.heap.size, 0, none⟩ = some (.int .i64 799) := K5_3.cell 0; have q2_1 : w7.cell? ⟨w4.heap.size, 1, none⟩ = some (.int .i64 224) := K5_3.cell 1; have q3_0 : w7.cell? ⟨w5.heap.size, 0, none⟩ = some (.int .i64 288) := K5_4.cell 0; have q3_1 : w7.cell? ⟨w5.heap.size, 1, none⟩ = some (.int .i64 (-288)) := K5_4.cell 1)))
  go_ret
  exact ⟨rfl, bel_trans (bel_alloc (bel_trans (bel_alloc (bel_trans (bel_alloc (bel_trans (bel_alloc (bel_trans (bel_alloc (bel_trans (bel_alloc b1 _) b2) _) b3) _) b4) _) b5) _) b6) _) b7⟩
end Go.Proofs.Ytedpmehggpomnaa.Lead

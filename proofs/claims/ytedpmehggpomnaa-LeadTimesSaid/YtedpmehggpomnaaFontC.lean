/- Chapter 5: Check, Advance, Text, and the measures: the program's and the reference's, walked. No condition but bounds on how many. -/
import Derived.Test.YtedpmehggpomnaaFontB
import Derived.Deep.DrawnRows
namespace Go.Proofs.Ytedpmehggpomnaa.Font
open Go.RowKit Go.Proofs.Ytedpmehggpomnaa.Unit
attribute [local go_sem] max2_int min2_int max_two min_two
set_option linter.unusedVariables false

abbrev fontC (a d g x o : Int) (A : Option Addr) (n c : Nat) : Array Value := #[.int .i64 a, .int .i64 d, .int .i64 g, .int .i64 x, .int .i64 o, .slice A n c]
def chkV (a d g x o : Int) (rs : List Rng) : Int := if chkB a d g x o rs then 0 else 50
set_option maxHeartbeats 4000000 in
set_option maxRecDepth 100000 in
theorem check_any (a d g x o : Int) (A : Option Addr) (n c : Nat) (rs : List Rng) (hc : (n : Int) ≤ 9223372036854775807) (w : World) (hr : RA w A n rs) (hw : ∀ y ∈ rs, wfA y) :
    Calls Try.prog 35 #[fontV a d g x o A n c] w fun e w' => e = .returned (.int .i64 (chkV a d g x o rs)) ∧ Below w.heap.size w w' := by
  cases ha : allF [a, d, g, x, o] with
  | false =>
    have HE := Lib.hid (show chkV a d g x o rs = 50 by simp [chkV, chkB, ha])
    have HA := Lib.hid ha
    clear ha hr hw
    go_enter Try.func35, Try.ntmps35
    go_wp2_with (go_at_call 45; refine (may_any _ 5 5 [a, d, g, x, o] _ rfl ?_ (by omega)).mono ?_; exact reads_at _ _ _ _ _ _ rfl rfl (by simp); rintro e w2 ⟨rfl, ⟨m2, rfl⟩⟩; rw [HA.out])
    go_ret
    exact ⟨ret_int HE.out.symm, by repeat (first | exact Below.refl _ _ | refine bel_alloc ?_ _ | refine bel_drewN ?_ _)⟩
  | true =>
    rcases Nat.lt_or_ge 256 n with h | h
    · have HE := Lib.hid (show chkV a d g x o rs = 50 by rw [chkV, chkB, ha, hr.1, decide_eq_false (by omega)]; rfl)
      have HA := Lib.hid ha
      clear ha hr hw
      go_enter Try.func35, Try.ntmps35
      go_wp2_with (go_at_call 45; refine (may_any _ 5 5 [a, d, g, x, o] _ rfl ?_ (by omega)).mono ?_; exact reads_at _ _ _ _ _ _ rfl rfl (by simp); rintro e w2 ⟨rfl, ⟨m2, rfl⟩⟩; rw [HA.out])
      go_ret
      exact ⟨ret_int HE.out.symm, by repeat (first | exact Below.refl _ _ | refine bel_alloc ?_ _ | refine bel_drewN ?_ _)⟩
    · exact check_x a d g x o A n c rs h ha _ (by rw [chkV, chkB, ha, hr.1, decide_eq_true h]; rfl) w hr hw

abbrev cMay (n : Int) (p : Bool) : Prop := ∀ W, Calls Try.prog 34 #[.int .i64 n] W fun e w' => e = .returned (.bool p) ∧ W = w'
set_option maxHeartbeats 4000000 in
set_option maxRecDepth 100000 in
theorem rcheck_no (a d g x o : Int) (A : Option Addr) (n c : Nat) (p1 p2 p3 p4 p5 : Bool) (hn : (n : Int) ≤ 9223372036854775807) (h : p1 = false ∨ (p1 = true ∧ p2 = false) ∨ (p1 = true ∧ p2 = true ∧ p3 = false) ∨ (p1 = true ∧ p2 = true ∧ p3 = true ∧ p4 = false) ∨ (p1 = true ∧ p2 = true ∧ p3 = true ∧ p4 = true ∧ p5 = false) ∨ (p1 = true ∧ p2 = true ∧ p3 = true ∧ p4 = true ∧ p5 = true ∧ 256 < n))
    (H1 : Hid (cMay a p1)) (H2 : Hid (cMay d p2)) (H3 : Hid (cMay g p3)) (H4 : Hid (cMay x p4)) (H5 : Hid (cMay o p5)) (w : World) :
    Calls Try.prog 30 #[fontV a d g x o A n c] w fun e w' => e = .returned (.int .i64 50) ∧ Below w.heap.size w w' := by
  rcases h with rfl | ⟨rfl, rfl⟩ | ⟨rfl, rfl, rfl⟩ | ⟨rfl, rfl, rfl, rfl⟩ | ⟨rfl, rfl, rfl, rfl, rfl⟩ | ⟨rfl, rfl, rfl, rfl, rfl, h⟩
  all_goals
    go_enter Try.func30, Try.ntmps30
    go_wp2_with (go_at_call 34; first | ((with_reducible refine (H1.out _).mono ?_); rintro e w1 ⟨rfl, rfl⟩) | ((with_reducible refine (H2.out _).mono ?_); rintro e w1 ⟨rfl, rfl⟩) | ((with_reducible refine (H3.out _).mono ?_); rintro e w1 ⟨rfl, rfl⟩) | ((with_reducible refine (H4.out _).mono ?_); rintro e w1 ⟨rfl, rfl⟩) | ((with_reducible refine (H5.out _).mono ?_); rintro e w1 ⟨rfl, rfl⟩))
    go_ret
    exact ⟨rfl, bel_alloc (Below.refl _ _) _⟩
set_option maxHeartbeats 8000000 in
set_option maxRecDepth 100000 in
theorem rcheck_x (a d g x o : Int) (A : Option Addr) (n c : Nat) (rs : List Rng) (hn : n ≤ 256) (H1 : Hid (cMay a true)) (H2 : Hid (cMay d true)) (H3 : Hid (cMay g true)) (H4 : Hid (cMay x true)) (H5 : Hid (cMay o true)) (R : Int) (hR : (if chainB 0 rs then (0 : Int) else 50) = R) (w : World) (hr : RA w A n rs) :
    Calls Try.prog 30 #[fontV a d g x o A n c] w fun e w' => e = .returned (.int .i64 R) ∧ Below w.heap.size w w' := by
  have HR := Lib.hid hr
  have HE := Lib.hid (chk_end R hR)
  have KF := Lib.hid (Blk.new w 24 (fontC a d g x o A n c))
  clear hr hR
  go_enter Try.func30, Try.ntmps30
  go_wp2_with (go_at_call 34; first | ((with_reducible refine (H1.out _).mono ?_); rintro e w1 ⟨rfl, rfl⟩) | ((with_reducible refine (H2.out _).mono ?_); rintro e w1 ⟨rfl, rfl⟩) | ((with_reducible refine (H3.out _).mono ?_); rintro e w1 ⟨rfl, rfl⟩) | ((with_reducible refine (H4.out _).mono ?_); rintro e w1 ⟨rfl, rfl⟩) | ((with_reducible refine (H5.out _).mono ?_); rintro e w1 ⟨rfl, rfl⟩))
  go_loopw [3, 4] (fun bv iv wr => ∃ (b : Int) (k : Nat), bv = .int .i32 b ∧ iv = .int .i64 k ∧ k ≤ n ∧ -1 ≤ b ∧ b ≤ 1114111 ∧ Hid (chainB 0 rs = chainB (b + 1) (rs.drop k)) ∧ Below w.heap.size w wr ∧ Hid (Blk wr w.heap.size 24 (fontC a d g x o A n c))) (fun bv iv wr => n - (intOf iv).toNat)
  case atStart => exact ⟨-1, 0, rfl, rfl, by omega, by omega, by omega, Lib.hid rfl, bel_alloc (Below.refl _ _) _, KF⟩
  case round =>
    obtain ⟨b, k, rfl, rfl, hk, b0, b1, HC, hb, KB⟩ := hrel
    have hsl : wr.cell? ⟨w.heap.size, 5, none⟩ = some (.slice A n c) := KB.out.cell 5
    by_cases hlt : k < n
    · obtain ⟨ad, rfl, had, h0, h1, h2⟩ := (HR.out.keep hb).at_ hlt
      have CS := Lib.hid (chain_step (b + 1) rs k (by rw [HR.out.1]; exact hlt))
      generalize rs[k]?.getD dA = y at h0 h1 h2 CS
      obtain ⟨f, t, v⟩ := y
      have hM := fun W => refmay_any v W
      obtain ⟨wo, rfl⟩ : ∃ wo : World, wo = wr := ⟨_, rfl⟩
      rcases step_cases (b + 1) f t v with ⟨hs, s1, s2, s3, s4⟩ | ⟨hs, hcase⟩
      · have HCN : Hid (chainB 0 rs = chainB (t + 1) (rs.drop (k + 1))) := Lib.hid (by
          rw [HC.out, CS.out]
          show (stepB (b + 1) f t v && _) = _
          rw [hs, Bool.true_and])
        rw [s4] at hM
        have HM := Lib.hid hM
        have s5 : b < f := by omega
        clear hs s4 CS hM s1
        go_wp2_with (go_at_call 34; ((with_reducible refine (HM.out _).mono ?_); rintro e w1 ⟨rfl, rfl⟩))
        go_roundw
        case rel => exact ⟨t, k + 1, by go_num, by go_num, by omega, by omega, by omega, HCN, bel_alloc hb _, Lib.hid (KB.out.alloc _)⟩
        case measure => simp [intOf]; omega
      · have HF := Lib.hid (HE.out.2 (by
          rw [HC.out, CS.out]
          show (stepB (b + 1) f t v && _) = _
          rw [hs, Bool.false_and]))
        clear hs CS
        rcases hcase with hq | ⟨q1, hq⟩ | ⟨q1, q2, hq⟩ | ⟨q1, q2, q3, hq⟩
        · have q0 : f ≤ b := by omega
          clear hM hq
          go_wp2
          go_ret
          exact ⟨ret_int HF.out.symm, bel_alloc hb _⟩
        · have q0 : b < f := by omega
          clear hM q1
          go_wp2
          go_ret
          exact ⟨ret_int HF.out.symm, bel_alloc hb _⟩
        · have q0 : b < f := by omega
          clear hM q1
          go_wp2
          go_ret
          exact ⟨ret_int HF.out.symm, bel_alloc hb _⟩
        · have q0 : b < f := by omega
          rw [hq] at hM
          have HM := Lib.hid hM
          clear hM q1 hq
          go_wp2_with (go_at_call 34; ((with_reducible refine (HM.out _).mono ?_); rintro e w1 ⟨rfl, rfl⟩))
          go_ret
          exact ⟨ret_int HF.out.symm, bel_alloc hb _⟩
    · obtain rfl : k = n := by omega
      have HF := Lib.hid (HE.out.1 (by
        rw [HC.out, List.drop_of_length_le (by rw [HR.out.1]; omega)]
        rfl))
      go_wp2
      go_ret
      exact ⟨ret_int HF.out.symm, hb⟩
theorem rcheck_any (a d g x o : Int) (A : Option Addr) (n c : Nat) (rs : List Rng) (hc : (n : Int) ≤ 9223372036854775807) (w : World) (hr : RA w A n rs) :
    Calls Try.prog 30 #[fontV a d g x o A n c] w fun e w' => e = .returned (.int .i64 (chkV a d g x o rs)) ∧ Below w.heap.size w w' := by
  have M : ∀ n, cMay n (mayF n) := fun n W => refmay_any n W
  by_cases h : n ≤ 256 ∧ allF [a, d, g, x, o] = true
  · obtain ⟨h1, h2⟩ := h
    have h3 := h2
    simp only [allF, List.all_cons, List.all_nil, Bool.and_true, Bool.and_eq_true] at h3
    obtain ⟨e1, e2, e3, e4, e5⟩ := h3
    have M1 := M a
    have M2 := M d
    have M3 := M g
    have M4 := M x
    have M5 := M o
    rw [e1] at M1
    rw [e2] at M2
    rw [e3] at M3
    rw [e4] at M4
    rw [e5] at M5
    exact rcheck_x a d g x o A n c rs h1 (Lib.hid M1) (Lib.hid M2) (Lib.hid M3) (Lib.hid M4) (Lib.hid M5) _ (by rw [chkV, chkB, h2, hr.1, decide_eq_true h1]; rfl) w hr
  · have e : chkV a d g x o rs = 50 := by
      rw [chkV, chkB, hr.1]
      by_cases h1 : n ≤ 256
      · have : allF [a, d, g, x, o] = false := by simpa [h1] using h
        rw [this]; rfl
      · rw [decide_eq_false h1, Bool.and_false, Bool.false_and]; rfl
    rw [e]
    refine rcheck_no a d g x o A n c _ _ _ _ _ hc ?_ (Lib.hid (M a)) (Lib.hid (M d)) (Lib.hid (M g)) (Lib.hid (M x)) (Lib.hid (M o)) w
    simp only [allF, List.all_cons, List.all_nil, Bool.and_true] at h
    cases e1 : mayF a <;> cases e2 : mayF d <;> cases e3 : mayF g <;> cases e4 : mayF x <;> cases e5 : mayF o <;> simp_all
end Go.Proofs.Ytedpmehggpomnaa.Font

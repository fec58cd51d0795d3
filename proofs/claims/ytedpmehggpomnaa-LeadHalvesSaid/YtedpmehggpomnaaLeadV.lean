/- Chapter 18: LeadHalves, walked: it returns true, for every input. No condition. -/
import Derived.Test.YtedpmehggpomnaaLeadX
namespace Go.Proofs.Ytedpmehggpomnaa.Lead
open Go.RowKit Go.Proofs.Ytedpmehggpomnaa.Unit Go.Proofs.Ytedpmehggpomnaa.Font
set_option linter.unusedVariables false

theorem halves_out (a d g x o : Int) (A : Option Addr) (n c : Nat) (wh wo wr li tb fo sz hk ht : Int) (hc : (n : Int) ≤ 9223372036854775807) (hn : 300 < n) (w : World) :
    Calls Try.prog 4 #[fontV a d g x o A n c, styV wh wo wr li tb fo sz hk ht] w fun e w' => e = .returned (.bool true) ∧ Below w.heap.size w w' := by
  have HE := Lib.hid (show smallB n = false from decide_eq_false (by omega))
  go_enter Try.func4, Try.ntmps4
  go_wp2_with (first
    | (go_at_call 7; refine (small_any _ _ _ _ _ _ _ _ hc _).mono ?_; rintro e w1 ⟨rfl, hb1⟩; rw [HE.out])
    | (go_at_call 8; refine (head_any _).mono ?_; rintro e w2 ⟨rfl, hb2⟩))
  go_ret
  exact ⟨rfl, bel_trans (bel_trans (bel_alloc (bel_alloc (Below.refl _ _) _) _) hb1) hb2⟩
set_option maxHeartbeats 16000000 in
set_option maxRecDepth 100000 in
theorem halves_bad (a d g x o : Int) (A : Option Addr) (n c : Nat) (wh wo wr li tb fo sz hk ht : Int) (rs : List Rng) (hn : n ≤ 300) (w : World) (hr : RA w A n rs) (hw : ∀ y ∈ rs, wfA y) (e0 : Int) (he : erV (chkV a d g x o rs) sz hk ht = e0) (h0 : e0 = 50 ∨ e0 = 60) :
    Calls Try.prog 4 #[fontV a d g x o A n c, styV wh wo wr li tb fo sz hk ht] w fun e w' => e = .returned (.bool true) ∧ Below w.heap.size w w' := by
  have HE := Lib.hid (show smallB n = true from decide_eq_true hn)
  have M0 := Lib.hid (LS.new (w := w) (fc := (fontC a d g x o A n c)) (sc := (styC wh wo wr li tb fo sz hk ht)))
  have eb : ErrIs (chkV a d g x o rs) sz hk ht e0 := by
    have := er_bad (chk := chkV a d g x o rs) (sz := sz) (hk := hk) (ht := ht) (by omega)
    rwa [he] at this
  have H1 : Hid (∀ W, Below w.heap.size w W → Calls Try.prog 10 #[fontV a d g x o A n c, styV wh wo wr li tb fo sz hk ht] W fun e w' => e = .returned (.tuple #[boxV 0 0, .int .i64 e0]) ∧ Below W.heap.size W w') := fun W hb => Text_bad a d g x o A n c wh wo wr li tb fo sz hk ht rs (by omega) W (hr.keep hb) hw e0 eb
  have H2 : Hid (∀ W, Below w.heap.size w W → Calls Try.prog 11 #[fontV a d g x o A n c, styV wh wo wr li tb fo sz hk ht] W fun e w' => e = .returned (.tuple #[.int .i64 0, .int .i64 e0]) ∧ Below W.heap.size W w') := fun W hb => Height_bad a d g x o A n c wh wo wr li tb fo sz hk ht rs (by omega) W (hr.keep hb) hw e0 eb
  have H3 : Hid (∀ W, Below w.heap.size w W → Calls Try.prog 9 #[fontV a d g x o A n c, styV wh wo wr li tb fo sz hk ht] W fun e w' => e = .returned (.tuple #[boxV 0 0, .int .i64 e0]) ∧ Below W.heap.size W w') := fun W hb => Strut_bad a d g x o A n c wh wo wr li tb fo sz hk ht rs (by omega) W (hr.keep hb) hw e0 eb
  clear hr hw he eb
  rcases h0 with rfl | rfl
  all_goals
    go_enter Try.func4, Try.ntmps4
    go_wp2_with (first
      | (go_at_call 7; refine (small_any _ _ _ _ _ _ _ _ (by omega) _).mono ?_; rintro e w1 ⟨rfl, b1⟩; rw [HE.out]; have M1 := Lib.hid (M0.out.keep b1); obtain ⟨i0, i1, i2, i3, i4, i5, i6, i7, i8, i9, i10, i11, i12, i13, i14⟩ := M1.out.cells)
      | (go_at_call 10; refine (H1.out _ M1.out.bel).mono ?_; rintro e w2 ⟨rfl, b2⟩; have M2 := Lib.hid ((M1.out.keep b2).alloc (.cells #[.int .i64 0, .int .i64 0] 30)); obtain ⟨j0, j1, j2, j3, j4, j5, j6, j7, j8, j9, j10, j11, j12, j13, j14⟩ := M2.out.cells)
      | (go_at_call 11; refine (H2.out _ M2.out.bel).mono ?_; rintro e w3 ⟨rfl, b3⟩; have M3 := Lib.hid (M2.out.keep b3); have KA3 := Lib.hid ((Blk.new w2 30 #[.int .i64 0, .int .i64 0]).keep b3); obtain ⟨k0, k1, k2, k3, k4, k5, k6, k7, k8, k9, k10, k11, k12, k13, k14⟩ := M3.out.cells)
      | (go_at_call 9; refine (H3.out _ M3.out.bel).mono ?_; rintro e w4 ⟨rfl, b4⟩; have M4 := Lib.hid ((M3.out.keep b4).alloc (.cells #[.int .i64 0, .int .i64 0] 30)); have KA4 := Lib.hid ((KA3.out.keep b4).alloc (.cells #[.int .i64 0, .int .i64 0] 30)); have x0 : (w4.alloc (.cells #[.int .i64 0, .int .i64 0] 30)).cell? ⟨w2.heap.size, 0, none⟩ = some (.int .i64 0) := KA4.out.cell 0; have x1 : (w4.alloc (.cells #[.int .i64 0, .int .i64 0] 30)).cell? ⟨w2.heap.size, 1, none⟩ = some (.int .i64 0) := KA4.out.cell 1)
      | (go_at_call 8; refine (head_any _).mono ?_; rintro e w7 ⟨rfl, b7⟩))
    go_ret
    exact ⟨rfl, bel_trans M4.out.bel b7⟩
set_option maxHeartbeats 16000000 in
set_option maxRecDepth 100000 in
theorem halves_ok (a d g x o : Int) (A : Option Addr) (n c : Nat) (wh wo wr li tb fo sz hk ht : Int) (rs : List Rng) (hn : n ≤ 300) (w : World) (hr : RA w A n rs) (hw : ∀ y ∈ rs, wfA y) (he : erV (chkV a d g x o rs) sz hk ht = 0) :
    Calls Try.prog 4 #[fontV a d g x o A n c, styV wh wo wr li tb fo sz hk ht] w fun e w' => e = .returned (.bool true) ∧ Below w.heap.size w w' := by
  have HE := Lib.hid (show smallB n = true from decide_eq_true hn)
  have M0 := Lib.hid (LS.new (w := w) (fc := (fontC a d g x o A n c)) (sc := (styC wh wo wr li tb fo sz hk ht)))
  obtain ⟨ek, eo⟩ := er_ok he
  obtain ⟨_, _, _, b3, b4, b1, b2⟩ : okS sz hk ht = true ∧ allS [sz, ht] = true ∧ hk ≤ 2 ∧ 0 ≤ sz ∧ sz ≤ 1073741824 ∧ 0 ≤ ht ∧ ht ≤ 1073741824 := (okS_cases sz hk ht).resolve_right (fun h => by rw [h.1] at eo; exact absurd eo (by decide))
  have H1 : Hid (∀ W, Below w.heap.size w W → Calls Try.prog 10 #[fontV a d g x o A n c, styV wh wo wr li tb fo sz hk ht] W fun e w' => e = .returned (.tuple #[boxV (atV a sz) (atV d sz), .int .i64 0]) ∧ Below W.heap.size W w') := fun W hb => Text_ok a d g x o A n c wh wo wr li tb fo sz hk ht rs (by omega) W (hr.keep hb) hw ek eo
  have H2 : Hid (∀ W, Below w.heap.size w W → Calls Try.prog 11 #[fontV a d g x o A n c, styV wh wo wr li tb fo sz hk ht] W fun e w' => e = .returned (.tuple #[.int .i64 (htV a d g sz hk ht), .int .i64 0]) ∧ Below W.heap.size W w') := fun W hb => Height_ok a d g x o A n c wh wo wr li tb fo sz hk ht rs (by omega) W (hr.keep hb) hw ek eo
  have H3 : Hid (∀ W, Below w.heap.size w W → Calls Try.prog 9 #[fontV a d g x o A n c, styV wh wo wr li tb fo sz hk ht] W fun e w' => e = .returned (.tuple #[boxV (strA a d g sz hk ht) (strB a d g sz hk ht), .int .i64 0]) ∧ Below W.heap.size W w') := fun W hb => Strut_ok a d g x o A n c wh wo wr li tb fo sz hk ht rs (by omega) W (hr.keep hb) hw ek eo
  obtain ⟨u0, u1⟩ := atL_rng a sz
  obtain ⟨v0, v1⟩ := atL_rng d sz
  obtain ⟨z0, z1⟩ := htV_rng a d g sz hk ht b1 b2 b3 b4
  unfold strA strB lowV at H3
  clear hr hw he ek eo b1 b2 b3 b4
  generalize htV a d g sz hk ht = z at *
  generalize atV a sz = u at *
  generalize atV d sz = v at *
  by_cases hz : z = u + v
  · rw [show u + (z - u - v) / 2 = u by omega, show v + (z - u - v - (z - u - v) / 2) = v by omega] at H3
    obtain ⟨P, hP⟩ : ∃ P, u - v = P := ⟨_, rfl⟩
    have e1 : IntKind.i64.wrap (u - v) = P := by rw [hP, IntKind.wrap_i64]; omega
    have e3 : IntKind.i64.wrap (P - P) = 0 := by simp [IntKind.wrap_i64]
    have e5 : IntKind.i64.wrap (u + v) = z := by rw [← hz, IntKind.wrap_i64]; omega
    have q1 : (u == u) = true := by simp
    have q2 : (v == v) = true := by simp
    have q3 : (z == z) = true := by simp
    have q4 : (z != z) = false := by simp
    clear hP hz
    go_enter Try.func4, Try.ntmps4
    go_wp2_with (first
      | (go_at_call 7; refine (small_any _ _ _ _ _ _ _ _ (by omega) _).mono ?_; rintro e w1 ⟨rfl, b1⟩; rw [HE.out]; have M1 := Lib.hid (M0.out.keep b1); obtain ⟨i0, i1, i2, i3, i4, i5, i6, i7, i8, i9, i10, i11, i12, i13, i14⟩ := M1.out.cells)
      | (go_at_call 10; refine (H1.out _ M1.out.bel).mono ?_; rintro e w2 ⟨rfl, b2⟩; have M2 := Lib.hid ((M1.out.keep b2).alloc (.cells #[.int .i64 u, .int .i64 v] 30)); obtain ⟨j0, j1, j2, j3, j4, j5, j6, j7, j8, j9, j10, j11, j12, j13, j14⟩ := M2.out.cells)
      | (go_at_call 11; refine (H2.out _ M2.out.bel).mono ?_; rintro e w3 ⟨rfl, b3⟩; have M3 := Lib.hid (M2.out.keep b3); have KA3 := Lib.hid ((Blk.new w2 30 #[.int .i64 u, .int .i64 v]).keep b3); obtain ⟨k0, k1, k2, k3, k4, k5, k6, k7, k8, k9, k10, k11, k12, k13, k14⟩ := M3.out.cells)
      | (go_at_call 9; refine (H3.out _ M3.out.bel).mono ?_; rintro e w4 ⟨rfl, b4⟩; have M4 := Lib.hid ((M3.out.keep b4).alloc (.cells #[.int .i64 u, .int .i64 v] 30)); have KA4 := Lib.hid ((KA3.out.keep b4).alloc (.cells #[.int .i64 u, .int .i64 v] 30)); have x0 : (w4.alloc (.cells #[.int .i64 u, .int .i64 v] 30)).cell? ⟨w2.heap.size, 0, none⟩ = some (.int .i64 u) := KA4.out.cell 0; have x1 : (w4.alloc (.cells #[.int .i64 u, .int .i64 v] 30)).cell? ⟨w2.heap.size, 1, none⟩ = some (.int .i64 v) := KA4.out.cell 1)
      | (go_at_call 8; refine (head_any _).mono ?_; rintro e w7 ⟨rfl, b7⟩))
    go_ret
    exact ⟨rfl, bel_trans M4.out.bel b7⟩
  · obtain ⟨r1, h1⟩ : ∃ r, u + (z - u - v) / 2 = r := ⟨_, rfl⟩
    obtain ⟨r2, h2⟩ : ∃ r, v + (z - u - v - (z - u - v) / 2) = r := ⟨_, rfl⟩
    rw [h1, h2] at H3
    obtain ⟨P, hP⟩ : ∃ P, r1 - r2 = P := ⟨_, rfl⟩
    obtain ⟨Q, hQ⟩ : ∃ Q, u - v = Q := ⟨_, rfl⟩
    obtain ⟨T, hT⟩ : ∃ T, u + v = T := ⟨_, rfl⟩
    have e1 : IntKind.i64.wrap (r1 - r2) = P := by rw [hP, IntKind.wrap_i64]; omega
    have e2 : IntKind.i64.wrap (u - v) = Q := by rw [hQ, IntKind.wrap_i64]; omega
    have e4 : IntKind.i64.wrap (r1 + r2) = z := by rw [show r1 + r2 = z by omega, IntKind.wrap_i64]; omega
    have e5 : IntKind.i64.wrap (u + v) = T := by rw [hT, IntKind.wrap_i64]; omega
    have hzT : z ≠ T := by omega
    have q3 : (z == z) = true := by simp
    have q4 : (z != T) = true := by simpa using hzT
    have q5 : (z == T) = false := by simpa using hzT
    have q6 : decide (z = T) = false := decide_eq_false hzT
    rcases (show P - Q = 0 ∨ P - Q = -1 by omega) with hc | hc
    · have e3 : IntKind.i64.wrap (P - Q) = 0 := by rw [hc]; rfl
      clear hc hP hQ hT h1 h2 hz
      go_enter Try.func4, Try.ntmps4
      go_wp2_with (first
        | (go_at_call 7; refine (small_any _ _ _ _ _ _ _ _ (by omega) _).mono ?_; rintro e w1 ⟨rfl, b1⟩; rw [HE.out]; have M1 := Lib.hid (M0.out.keep b1); obtain ⟨i0, i1, i2, i3, i4, i5, i6, i7, i8, i9, i10, i11, i12, i13, i14⟩ := M1.out.cells)
        | (go_at_call 10; refine (H1.out _ M1.out.bel).mono ?_; rintro e w2 ⟨rfl, b2⟩; have M2 := Lib.hid ((M1.out.keep b2).alloc (.cells #[.int .i64 u, .int .i64 v] 30)); obtain ⟨j0, j1, j2, j3, j4, j5, j6, j7, j8, j9, j10, j11, j12, j13, j14⟩ := M2.out.cells)
        | (go_at_call 11; refine (H2.out _ M2.out.bel).mono ?_; rintro e w3 ⟨rfl, b3⟩; have M3 := Lib.hid (M2.out.keep b3); have KA3 := Lib.hid ((Blk.new w2 30 #[.int .i64 u, .int .i64 v]).keep b3); obtain ⟨k0, k1, k2, k3, k4, k5, k6, k7, k8, k9, k10, k11, k12, k13, k14⟩ := M3.out.cells)
        | (go_at_call 9; refine (H3.out _ M3.out.bel).mono ?_; rintro e w4 ⟨rfl, b4⟩; have M4 := Lib.hid ((M3.out.keep b4).alloc (.cells #[.int .i64 r1, .int .i64 r2] 30)); have KA4 := Lib.hid ((KA3.out.keep b4).alloc (.cells #[.int .i64 r1, .int .i64 r2] 30)); have x0 : (w4.alloc (.cells #[.int .i64 r1, .int .i64 r2] 30)).cell? ⟨w2.heap.size, 0, none⟩ = some (.int .i64 u) := KA4.out.cell 0; have x1 : (w4.alloc (.cells #[.int .i64 r1, .int .i64 r2] 30)).cell? ⟨w2.heap.size, 1, none⟩ = some (.int .i64 v) := KA4.out.cell 1)
        | (go_at_call 8; refine (head_any _).mono ?_; rintro e w7 ⟨rfl, b7⟩))
      go_ret
      exact ⟨rfl, bel_trans M4.out.bel b7⟩
    · have e3 : IntKind.i64.wrap (P - Q) = -1 := by rw [hc]; rfl
      clear hc hP hQ hT h1 h2 hz
      go_enter Try.func4, Try.ntmps4
      go_wp2_with (first
        | (go_at_call 7; refine (small_any _ _ _ _ _ _ _ _ (by omega) _).mono ?_; rintro e w1 ⟨rfl, b1⟩; rw [HE.out]; have M1 := Lib.hid (M0.out.keep b1); obtain ⟨i0, i1, i2, i3, i4, i5, i6, i7, i8, i9, i10, i11, i12, i13, i14⟩ := M1.out.cells)
        | (go_at_call 10; refine (H1.out _ M1.out.bel).mono ?_; rintro e w2 ⟨rfl, b2⟩; have M2 := Lib.hid ((M1.out.keep b2).alloc (.cells #[.int .i64 u, .int .i64 v] 30)); obtain ⟨j0, j1, j2, j3, j4, j5, j6, j7, j8, j9, j10, j11, j12, j13, j14⟩ := M2.out.cells)
        | (go_at_call 11; refine (H2.out _ M2.out.bel).mono ?_; rintro e w3 ⟨rfl, b3⟩; have M3 := Lib.hid (M2.out.keep b3); have KA3 := Lib.hid ((Blk.new w2 30 #[.int .i64 u, .int .i64 v]).keep b3); obtain ⟨k0, k1, k2, k3, k4, k5, k6, k7, k8, k9, k10, k11, k12, k13, k14⟩ := M3.out.cells)
        | (go_at_call 9; refine (H3.out _ M3.out.bel).mono ?_; rintro e w4 ⟨rfl, b4⟩; have M4 := Lib.hid ((M3.out.keep b4).alloc (.cells #[.int .i64 r1, .int .i64 r2] 30)); have KA4 := Lib.hid ((KA3.out.keep b4).alloc (.cells #[.int .i64 r1, .int .i64 r2] 30)); have x0 : (w4.alloc (.cells #[.int .i64 r1, .int .i64 r2] 30)).cell? ⟨w2.heap.size, 0, none⟩ = some (.int .i64 u) := KA4.out.cell 0; have x1 : (w4.alloc (.cells #[.int .i64 r1, .int .i64 r2] 30)).cell? ⟨w2.heap.size, 1, none⟩ = some (.int .i64 v) := KA4.out.cell 1)
        | (go_at_call 8; refine (head_any _).mono ?_; rintro e w7 ⟨rfl, b7⟩))
      go_ret
      exact ⟨rfl, bel_trans M4.out.bel b7⟩
theorem LeadHalves_any (a d g x o : Int) (A : Option Addr) (n c : Nat) (wh wo wr li tb fo sz hk ht : Int) (xs : List (List Int)) (hl : xs.length = n) (hc : n ≤ c) (hm : c ≤ maxLen) (hw : ∀ y ∈ xs, wfR [.i32, .i32, .i64] y) (w : World) (hr : Reads w w.heap.size 3 A n (xs.flatMap (encR [.i32, .i32, .i64]))) :
    Calls Try.prog 4 #[fontV a d g x o A n c, styV wh wo wr li tb fo sz hk ht] w fun e w' => e = .returned (.bool true) ∧ Below w.heap.size w w' := by
  obtain ⟨rs, r1, r2, r3⟩ := rngL_of xs hw
  rw [r3] at hr
  unfold maxLen at hm
  rcases Nat.lt_or_ge 300 n with h | h
  · exact halves_out a d g x o A n c wh wo wr li tb fo sz hk ht (by omega) h w
  · by_cases e : erV (chkV a d g x o rs) sz hk ht = 0
    · exact halves_ok a d g x o A n c wh wo wr li tb fo sz hk ht rs h w ⟨by omega, hr⟩ r2 e
    · exact halves_bad a d g x o A n c wh wo wr li tb fo sz hk ht rs h w ⟨by omega, hr⟩ r2 _ rfl (by
        have := er_bad e
        rcases this with ⟨_, h⟩ | ⟨_, _, h⟩ <;> omega)
end Go.Proofs.Ytedpmehggpomnaa.Lead

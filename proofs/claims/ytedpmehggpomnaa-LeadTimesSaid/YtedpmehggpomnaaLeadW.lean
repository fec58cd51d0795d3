/- Chapter 18: LeadGrows, walked: it returns true, for every input. No condition. -/
import Derived.Test.YtedpmehggpomnaaLeadX
namespace Go.Proofs.Ytedpmehggpomnaa.Lead
open Go.RowKit Go.Proofs.Ytedpmehggpomnaa.Unit Go.Proofs.Ytedpmehggpomnaa.Font
set_option linter.unusedVariables false

def mnL (x y : Int) : Int := if y < x then y else x
theorem min2_mnL (k k' : IntKind) (x y : Int) : Builtin.min2 (.int k x) (.int k' y) = pure (.int k (mnL x y)) := by rw [min2_int]; rfl
attribute [local go_sem] min2_mnL min_two
section
variable {w W : World} {F S : Nat} {fc : Array Value} {wh wo wr li tb fo sz hk ht : Int}
theorem LS.put7 (m : LS w F S fc (styC wh wo wr li tb fo sz hk ht) W) (hF : F ≠ S) (hw : w.heap.size ≤ S) (y : Int) : LS w F S fc (styC wh wo wr li tb fo sz y ht) (W.setCell ⟨S, 7, none⟩ (.int .u8 y)) :=
  ⟨m.f.far hF _, by have := m.s.set_ 7 (.int .u8 y); simpa using this, m.bel.setCell hw _⟩
theorem LS.put8 (m : LS w F S fc (styC wh wo wr li tb fo sz hk ht) W) (hF : F ≠ S) (hw : w.heap.size ≤ S) (y : Int) : LS w F S fc (styC wh wo wr li tb fo sz hk y) (W.setCell ⟨S, 8, none⟩ (.int .i64 y)) :=
  ⟨m.f.far hF _, by have := m.s.set_ 8 (.int .i64 y); simpa using this, m.bel.setCell hw _⟩
end
theorem grows_out (a d g x o : Int) (A : Option Addr) (n c : Nat) (wh wo wr li tb fo sz hk ht : Int) (more : Int) (hc : (n : Int) ≤ 9223372036854775807) (h : 300 < n ∨ (n ≤ 300 ∧ more < 0) ∨ (n ≤ 300 ∧ 0 ≤ more ∧ 1073741824 < more)) (w : World) :
    Calls Try.prog 3 #[fontV a d g x o A n c, styV wh wo wr li tb fo sz hk ht, .int .i64 more] w fun e w' => e = .returned (.bool true) ∧ Below w.heap.size w w' := by
  rcases h with hn | ⟨hn, hm⟩ | ⟨hn, hm, hm2⟩
  · have HE := Lib.hid (show smallB n = false from decide_eq_false (by omega))
    go_enter Try.func3, Try.ntmps3
    go_wp2_with (first
      | (go_at_call 7; refine (small_any _ _ _ _ _ _ _ _ hc _).mono ?_; rintro e w1 ⟨rfl, hb1⟩; rw [HE.out])
      | (go_at_call 8; refine (head_any _).mono ?_; rintro e w2 ⟨rfl, hb2⟩))
    go_ret
    exact ⟨rfl, bel_trans (bel_trans (bel_alloc (bel_alloc (Below.refl _ _) _) _) hb1) hb2⟩
  all_goals
    have HE := Lib.hid (show smallB n = true from decide_eq_true hn)
    go_enter Try.func3, Try.ntmps3
    go_wp2_with (first
      | (go_at_call 7; refine (small_any _ _ _ _ _ _ _ _ hc _).mono ?_; rintro e w1 ⟨rfl, hb1⟩; rw [HE.out])
      | (go_at_call 8; refine (head_any _).mono ?_; rintro e w2 ⟨rfl, hb2⟩))
    go_ret
    exact ⟨rfl, bel_trans (bel_trans (bel_alloc (bel_alloc (Below.refl _ _) _) _) hb1) hb2⟩
theorem strut_some (a d g x o : Int) (A : Option Addr) (n c : Nat) (wh wo wr li tb fo sz hk ht : Int) (rs : List Rng) (hn : (n : Int) ≤ 9223372036854775807) (w : World) (hr : RA w A n rs) (hw : ∀ y ∈ rs, wfA y) : ∃ y0 y1 e0 : Int, ∀ W, Below w.heap.size w W → Calls Try.prog 9 #[fontV a d g x o A n c, styV wh wo wr li tb fo sz hk ht] W fun e w' => e = .returned (.tuple #[boxV y0 y1, .int .i64 e0]) ∧ Below W.heap.size W w' := by
  by_cases e : erV (chkV a d g x o rs) sz hk ht = 0
  · obtain ⟨ek, eo⟩ := er_ok e
    exact ⟨_, _, _, fun W hb => Strut_ok a d g x o A n c wh wo wr li tb fo sz hk ht rs hn W (hr.keep hb) hw ek eo⟩
  · exact ⟨_, _, _, fun W hb => Strut_bad a d g x o A n c wh wo wr li tb fo sz hk ht rs hn W (hr.keep hb) hw _ (er_bad e)⟩
set_option maxHeartbeats 16000000 in
set_option maxRecDepth 100000 in
theorem grows_bad (a d g x o : Int) (A : Option Addr) (n c : Nat) (wh wo wr li tb fo sz hk ht : Int) (more : Int) (m0 : 0 ≤ more) (m1 : more ≤ 1073741824) (rs : List Rng) (hn : n ≤ 300) (w : World) (hr : RA w A n rs) (hw : ∀ y ∈ rs, wfA y) (w0 : -9223372036854775808 ≤ ht) (w1 : ht ≤ 9223372036854775807) (e0 : Int) (he : erV (chkV a d g x o rs) sz 2 ht = e0) (h0 : e0 = 50 ∨ e0 = 60) :
    Calls Try.prog 3 #[fontV a d g x o A n c, styV wh wo wr li tb fo sz hk ht, .int .i64 more] w fun e w' => e = .returned (.bool true) ∧ Below w.heap.size w w' := by
  have HE := Lib.hid (show smallB n = true from decide_eq_true hn)
  have M0 := Lib.hid (LS.new (w := w) (fc := (fontC a d g x o A n c)) (sc := (styC wh wo wr li tb fo sz hk ht)))
  have eb : ErrIs (chkV a d g x o rs) sz 2 ht e0 := by
    have := er_bad (chk := chkV a d g x o rs) (sz := sz) (hk := 2) (ht := ht) (by omega)
    rwa [he] at this
  obtain ⟨hh, hq⟩ : ∃ hh, ht.tdiv 2 = hh := ⟨_, rfl⟩
  have hab := Int.tmod_add_mul_tdiv ht 2
  have t1 := Int.lt_tmod_of_pos ht (show (0 : Int) < 2 by omega)
  have t2 := Int.tmod_lt_of_pos ht (show (0 : Int) < 2 by omega)
  rw [hq] at hab
  have hq2 : IntKind.i64.wrap hh = hh := by rw [IntKind.wrap_i64]; omega
  clear hab t1 t2
  have H1 : Hid (∀ W, Below w.heap.size w W → Calls Try.prog 9 #[fontV a d g x o A n c, styV wh wo wr li tb fo sz 2 ht] W fun e w' => e = .returned (.tuple #[boxV 0 0, .int .i64 e0]) ∧ Below W.heap.size W w') := fun W hb => Strut_bad a d g x o A n c wh wo wr li tb fo sz 2 ht rs (by omega) W (hr.keep hb) hw e0 eb
  obtain ⟨y0, y1, e2, hS⟩ := strut_some a d g x o A n c wh wo wr li tb fo sz 2 hh rs (by omega) w hr hw
  have H2 := Lib.hid hS
  clear hr hw he eb hS w0 w1
  rcases h0 with rfl | rfl
  all_goals
    go_enter Try.func3, Try.ntmps3
    go_wp2_with (first
    | (go_at_call 7; refine (small_any _ _ _ _ _ _ _ _ (by omega) _).mono ?_; rintro e w1 ⟨rfl, b1⟩; rw [HE.out]; have M1 := M0.out.keep b1; obtain ⟨i0, i1, i2, i3, i4, i5, i6, i7, i8, i9, i10, i11, i12, i13, i14⟩ := M1.cells; have f7 := M1.s.frozen 7; have M1s := Lib.hid (M1.put7 (by omega) (by omega) 2); clear M1)
    | (go_at_call 9; (with_reducible refine (H1.out _ M1s.out.bel).mono ?_); rintro e w2 ⟨rfl, b2⟩; have M2 := (M1s.out.keep b2).alloc (.cells #[.int .i64 0, .int .i64 0] 30); obtain ⟨j0, j1, j2, j3, j4, j5, j6, j7, j8, j9, j10, j11, j12, j13, j14⟩ := M2.cells; have f8 := M2.s.frozen 8; have l2 := (M1s.out.keep b2).s.lt; have M2s := Lib.hid (((M1s.out.keep b2).put8 (by omega) (by omega) hh).alloc (.cells #[.int .i64 0, .int .i64 0] 30)); clear M2; obtain ⟨k0, k1, k2, k3, k4, k5, k6, k7, k8, k9, k10, k11, k12, k13, k14⟩ := M2s.out.cells)
    | (go_at_call 9; (with_reducible refine (H2.out _ M2s.out.bel).mono ?_); rintro e w3 ⟨rfl, b3⟩; have M3 := Lib.hid ((M2s.out.keep b3).alloc (.cells #[.int .i64 y0, .int .i64 y1] 30)))
    | (go_at_call 8; refine (head_any _).mono ?_; rintro e w7 ⟨rfl, b7⟩))
    go_ret
    exact ⟨rfl, bel_trans M3.out.bel b7⟩
set_option maxHeartbeats 16000000 in
set_option maxRecDepth 100000 in
theorem grows_ok (a d g x o : Int) (A : Option Addr) (n c : Nat) (wh wo wr li tb fo sz hk ht : Int) (more : Int) (m0 : 0 ≤ more) (m1 : more ≤ 1073741824) (rs : List Rng) (hn : n ≤ 300) (w : World) (hr : RA w A n rs) (hw : ∀ y ∈ rs, wfA y) (he : erV (chkV a d g x o rs) sz 2 ht = 0) :
    Calls Try.prog 3 #[fontV a d g x o A n c, styV wh wo wr li tb fo sz hk ht, .int .i64 more] w fun e w' => e = .returned (.bool true) ∧ Below w.heap.size w w' := by
  have HE := Lib.hid (show smallB n = true from decide_eq_true hn)
  have M0 := Lib.hid (LS.new (w := w) (fc := (fontC a d g x o A n c)) (sc := (styC wh wo wr li tb fo sz hk ht)))
  obtain ⟨ek, eo⟩ := er_ok he
  obtain ⟨_, _, _, b3, b4, b1, b2⟩ : okS sz 2 ht = true ∧ allS [sz, ht] = true ∧ (2 : Int) ≤ 2 ∧ 0 ≤ sz ∧ sz ≤ 1073741824 ∧ 0 ≤ ht ∧ ht ≤ 1073741824 := (okS_cases sz 2 ht).resolve_right (fun h => by rw [h.1] at eo; exact absurd eo (by decide))
  obtain ⟨hh, hq⟩ : ∃ hh, ht.tdiv 2 = hh := ⟨_, rfl⟩
  have hd : hh = ht / 2 := by rw [← hq, Int.tdiv_eq_ediv_of_nonneg b1]
  obtain ⟨ho, hm⟩ : ∃ ho, mnL (hh + more) 1073741824 = ho := ⟨_, rfl⟩
  have hb : hh ≤ ho ∧ ho ≤ 1073741824 ∧ (ho = hh + more ∨ ho = 1073741824) := by
    rw [← hm]
    unfold mnL
    split <;> omega
  have hq2 : IntKind.i64.wrap hh = hh := by rw [IntKind.wrap_i64]; omega
  have hq3 : IntKind.i64.wrap (hh + more) = hh + more := by rw [IntKind.wrap_i64]; omega
  have ok8 : ∀ h : Int, 0 ≤ h → h ≤ 1073741824 → okS sz 2 h = true := fun h h0 h1 => by simp [okS, allS, mayS, b3, b4, h0, h1]
  have H1 : Hid (∀ W, Below w.heap.size w W → Calls Try.prog 9 #[fontV a d g x o A n c, styV wh wo wr li tb fo sz 2 ht] W fun e w' => e = .returned (.tuple #[boxV (strA a d g sz 2 ht) (strB a d g sz 2 ht), .int .i64 0]) ∧ Below W.heap.size W w') := fun W hb => Strut_ok a d g x o A n c wh wo wr li tb fo sz 2 ht rs (by omega) W (hr.keep hb) hw ek eo
  have H2 : Hid (∀ W, Below w.heap.size w W → Calls Try.prog 9 #[fontV a d g x o A n c, styV wh wo wr li tb fo sz 2 hh] W fun e w' => e = .returned (.tuple #[boxV (strA a d g sz 2 hh) (strB a d g sz 2 hh), .int .i64 0]) ∧ Below W.heap.size W w') := fun W hb => Strut_ok a d g x o A n c wh wo wr li tb fo sz 2 hh rs (by omega) W (hr.keep hb) hw ek (ok8 hh (by omega) (by omega))
  have H3 : Hid (∀ W, Below w.heap.size w W → Calls Try.prog 9 #[fontV a d g x o A n c, styV wh wo wr li tb fo sz 2 ho] W fun e w' => e = .returned (.tuple #[boxV (strA a d g sz 2 ho) (strB a d g sz 2 ho), .int .i64 0]) ∧ Below W.heap.size W w') := fun W hb => Strut_ok a d g x o A n c wh wo wr li tb fo sz 2 ho rs (by omega) W (hr.keep hb) hw ek (ok8 ho (by omega) (by omega))
  obtain ⟨u0, u1⟩ := atL_rng a sz
  obtain ⟨v0, v1⟩ := atL_rng d sz
  have hv : ∀ h : Int, htV a d g sz 2 h = h := fun h => by simp [htV]
  simp only [strA, strB, lowV, hv] at H1 H2 H3
  clear hr hw he ek eo ok8 hv
  generalize atV a sz = u at *
  generalize atV d sz = v at *
  obtain ⟨p1, hp1⟩ : ∃ p, u + (ht - u - v) / 2 = p := ⟨_, rfl⟩
  obtain ⟨p2, hp2⟩ : ∃ p, v + (ht - u - v - (ht - u - v) / 2) = p := ⟨_, rfl⟩
  obtain ⟨r1, hr1⟩ : ∃ p, u + (hh - u - v) / 2 = p := ⟨_, rfl⟩
  obtain ⟨r2, hr2⟩ : ∃ p, v + (hh - u - v - (hh - u - v) / 2) = p := ⟨_, rfl⟩
  obtain ⟨s1, hs1⟩ : ∃ p, u + (ho - u - v) / 2 = p := ⟨_, rfl⟩
  obtain ⟨s2, hs2⟩ : ∃ p, v + (ho - u - v - (ho - u - v) / 2) = p := ⟨_, rfl⟩
  rw [hp1, hp2] at H1
  rw [hr1, hr2] at H2
  rw [hs1, hs2] at H3
  obtain ⟨t1, ht1⟩ : ∃ p, ho - r1 = p := ⟨_, rfl⟩
  obtain ⟨t2, ht2⟩ : ∃ p, ho - hh = p := ⟨_, rfl⟩
  have g1 : decide (r1 ≤ p1) = true := decide_eq_true (by omega)
  have g2 : decide (r2 ≤ p2) = true := decide_eq_true (by omega)
  have g3 : decide (r1 ≤ s1) = true := decide_eq_true (by omega)
  have g4 : decide (r2 ≤ s2) = true := decide_eq_true (by omega)
  have e1 : IntKind.i64.wrap (s1 + s2) = ho := by rw [show s1 + s2 = ho by omega, IntKind.wrap_i64]; omega
  have e2 : IntKind.i64.wrap (ho - r1) = t1 := by rw [ht1, IntKind.wrap_i64]; omega
  have e3 : IntKind.i64.wrap (t1 - r2) = t2 := by rw [show t1 - r2 = t2 by omega, IntKind.wrap_i64]; omega
  have e4 : IntKind.i64.wrap (ho - hh) = t2 := by rw [ht2, IntKind.wrap_i64]; omega
  have q1 : (t2 == t2) = true := by simp
  clear hp1 hp2 hr1 hr2 hs1 hs2 ht1 ht2 hb hd u0 u1 v0 v1 b1 b2 b3 b4
  go_enter Try.func3, Try.ntmps3
  go_wp2_with (first
    | (go_at_call 7; refine (small_any _ _ _ _ _ _ _ _ (by omega) _).mono ?_; rintro e w1 ⟨rfl, b1⟩; rw [HE.out]; have M1 := M0.out.keep b1; obtain ⟨i0, i1, i2, i3, i4, i5, i6, i7, i8, i9, i10, i11, i12, i13, i14⟩ := M1.cells; have f7 := M1.s.frozen 7; have M1s := Lib.hid (M1.put7 (by omega) (by omega) 2); clear M1)
    | (go_at_call 9; (with_reducible refine (H1.out _ M1s.out.bel).mono ?_); rintro e w2 ⟨rfl, b2⟩; have M2 := (M1s.out.keep b2).alloc (.cells #[.int .i64 p1, .int .i64 p2] 30); obtain ⟨j0, j1, j2, j3, j4, j5, j6, j7, j8, j9, j10, j11, j12, j13, j14⟩ := M2.cells; have f8 := M2.s.frozen 8; have M2s := Lib.hid (((M1s.out.keep b2).alloc (.cells #[.int .i64 p1, .int .i64 p2] 30)).put8 (by omega) (by omega) hh); clear M2; have KA2 := Lib.hid ((Blk.new w2 30 #[.int .i64 p1, .int .i64 p2]).far (p := ⟨w.heap.size + 1, 8, none⟩) (by have := (M1s.out.keep b2).s.lt; simp; omega) (.int .i64 hh)); obtain ⟨k0, k1, k2, k3, k4, k5, k6, k7, k8, k9, k10, k11, k12, k13, k14⟩ := M2s.out.cells)
    | (go_at_call 9; (with_reducible refine (H2.out _ M2s.out.bel).mono ?_); rintro e w3 ⟨rfl, b3⟩; have M3 := Lib.hid ((M2s.out.keep b3).alloc (.cells #[.int .i64 r1, .int .i64 r2] 30)); have KA3 := Lib.hid ((KA2.out.keep b3).alloc (.cells #[.int .i64 r1, .int .i64 r2] 30)); have KB3 := Lib.hid (Blk.new w3 30 #[.int .i64 r1, .int .i64 r2]); obtain ⟨l0, l1, l2, l3, l4, l5, l6, l7, l8, l9, l10, l11, l12, l13, l14⟩ := M3.out.cells; have M4 := Lib.hid (M3.out.alloc (.cells #[.int .u8 wh, .int .u8 wo, .int .u8 wr, .int .u8 li, .int .i64 tb, .int .i64 fo, .int .i64 sz, .int .u8 2, .int .i64 hh] 26)); obtain ⟨m0, m1, m2, m3, m4, m5, m6, m7, m8, m9, m10, m11, m12, m13, m14⟩ := M4.out.cells; have M5 := Lib.hid (M3.out.alloc (.cells #[.int .u8 wh, .int .u8 wo, .int .u8 wr, .int .u8 li, .int .i64 tb, .int .i64 fo, .int .i64 sz, .int .u8 2, .int .i64 ho] 26)); obtain ⟨n0, n1, n2, n3, n4, n5, n6, n7, n8, n9, n10, n11, n12, n13, n14⟩ := M5.out.cells; have KO5 := Lib.hid (show Blk ((w3.alloc (.cells #[.int .i64 r1, .int .i64 r2] 30)).alloc (.cells #[.int .u8 wh, .int .u8 wo, .int .u8 wr, .int .u8 li, .int .i64 tb, .int .i64 fo, .int .i64 sz, .int .u8 2, .int .i64 ho] 26)) (w3.heap.size + 1) 26 #[.int .u8 wh, .int .u8 wo, .int .u8 wr, .int .u8 li, .int .i64 tb, .int .i64 fo, .int .i64 sz, .int .u8 2, .int .i64 ho] from by have := Blk.new (w3.alloc (.cells #[.int .i64 r1, .int .i64 r2] 30)) 26 #[.int .u8 wh, .int .u8 wo, .int .u8 wr, .int .u8 li, .int .i64 tb, .int .i64 fo, .int .i64 sz, .int .u8 2, .int .i64 ho]; rwa [World.size_alloc] at this))
    | (go_at_call 9; (with_reducible refine (H3.out _ M5.out.bel).mono ?_); rintro e w4 ⟨rfl, b4⟩; have M6 := Lib.hid ((M5.out.keep b4).alloc (.cells #[.int .i64 s1, .int .i64 s2] 30)); have KA6 := (((KA3.out.alloc (.cells #[.int .u8 wh, .int .u8 wo, .int .u8 wr, .int .u8 li, .int .i64 tb, .int .i64 fo, .int .i64 sz, .int .u8 2, .int .i64 ho] 26)).keep b4).alloc (.cells #[.int .i64 s1, .int .i64 s2] 30)); have KB6 := (((KB3.out.alloc (.cells #[.int .u8 wh, .int .u8 wo, .int .u8 wr, .int .u8 li, .int .i64 tb, .int .i64 fo, .int .i64 sz, .int .u8 2, .int .i64 ho] 26)).keep b4).alloc (.cells #[.int .i64 s1, .int .i64 s2] 30)); have KO6 := ((KO5.out.keep b4).alloc (.cells #[.int .i64 s1, .int .i64 s2] 30)); have x0 : (w4.alloc (.cells #[.int .i64 s1, .int .i64 s2] 30)).cell? ⟨w2.heap.size, 0, none⟩ = some (.int .i64 p1) := KA6.cell 0; have x1 : (w4.alloc (.cells #[.int .i64 s1, .int .i64 s2] 30)).cell? ⟨w2.heap.size, 1, none⟩ = some (.int .i64 p2) := KA6.cell 1; have x2 : (w4.alloc (.cells #[.int .i64 s1, .int .i64 s2] 30)).cell? ⟨w3.heap.size, 0, none⟩ = some (.int .i64 r1) := KB6.cell 0; have x3 : (w4.alloc (.cells #[.int .i64 s1, .int .i64 s2] 30)).cell? ⟨w3.heap.size, 1, none⟩ = some (.int .i64 r2) := KB6.cell 1; have x4 : (w4.alloc (.cells #[.int .i64 s1, .int .i64 s2] 30)).cell? ⟨w3.heap.size + 1, 8, none⟩ = some (.int .i64 ho) := KO6.cell 8; have x5 : (w4.alloc (.cells #[.int .i64 s1, .int .i64 s2] 30)).cell? ⟨w.heap.size + 1, 8, none⟩ = some (.int .i64 hh) := M6.out.s.cell 8)
    | (go_at_call 8; refine (head_any _).mono ?_; rintro e w7 ⟨rfl, b7⟩))
  go_ret
  exact ⟨rfl, bel_trans M6.out.bel b7⟩
theorem LeadGrows_any (a d g x o : Int) (A : Option Addr) (n c : Nat) (wh wo wr li tb fo sz hk ht : Int) (more : Int) (xs : List (List Int)) (hl : xs.length = n) (hc : n ≤ c) (hm : c ≤ maxLen) (hw : ∀ y ∈ xs, wfR [.i32, .i32, .i64] y) (w0 : -9223372036854775808 ≤ ht) (w1 : ht ≤ 9223372036854775807) (w : World) (hr : Reads w w.heap.size 3 A n (xs.flatMap (encR [.i32, .i32, .i64]))) :
    Calls Try.prog 3 #[fontV a d g x o A n c, styV wh wo wr li tb fo sz hk ht, .int .i64 more] w fun e w' => e = .returned (.bool true) ∧ Below w.heap.size w w' := by
  obtain ⟨rs, r1, r2, r3⟩ := rngL_of xs hw
  rw [r3] at hr
  unfold maxLen at hm
  rcases Nat.lt_or_ge 300 n with h | h
  · exact grows_out a d g x o A n c wh wo wr li tb fo sz hk ht more (by omega) (.inl h) w
  · by_cases m0 : more < 0
    · exact grows_out a d g x o A n c wh wo wr li tb fo sz hk ht more (by omega) (.inr (.inl ⟨h, m0⟩)) w
    · by_cases m1 : 1073741824 < more
      · exact grows_out a d g x o A n c wh wo wr li tb fo sz hk ht more (by omega) (.inr (.inr ⟨h, by omega, m1⟩)) w
      · by_cases e : erV (chkV a d g x o rs) sz 2 ht = 0
        · exact grows_ok a d g x o A n c wh wo wr li tb fo sz hk ht more (by omega) (by omega) rs h w ⟨by omega, hr⟩ r2 e
        · exact grows_bad a d g x o A n c wh wo wr li tb fo sz hk ht more (by omega) (by omega) rs h w ⟨by omega, hr⟩ r2 w0 w1 _ rfl (by
            have := er_bad e
            rcases this with ⟨_, h⟩ | ⟨_, _, h⟩ <;> omega)
end Go.Proofs.Ytedpmehggpomnaa.Lead

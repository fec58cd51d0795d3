/- Chapter 18: LeadTells, walked: it returns true, for every input. No condition. -/
import Derived.Test.YtedpmehggpomnaaLeadX
namespace Go.Proofs.Ytedpmehggpomnaa.Lead
open Go.RowKit Go.Proofs.Ytedpmehggpomnaa.Unit Go.Proofs.Ytedpmehggpomnaa.Font
set_option linter.unusedVariables false

theorem tells_out (a d g x o : Int) (A : Option Addr) (n c : Nat) (wh wo wr li tb fo sz hk ht : Int) (hc : (n : Int) ≤ 9223372036854775807) (hn : 300 < n) (w : World) :
    Calls Try.prog 5 #[fontV a d g x o A n c, styV wh wo wr li tb fo sz hk ht] w fun e w' => e = .returned (.bool true) ∧ Below w.heap.size w w' := by
  have HE := Lib.hid (show smallB n = false from decide_eq_false (by omega))
  go_enter Try.func5, Try.ntmps5
  go_wp2_with (first
    | (go_at_call 7; refine (small_any _ _ _ _ _ _ _ _ hc _).mono ?_; rintro e w1 ⟨rfl, hb1⟩; rw [HE.out])
    | (go_at_call 8; refine (head_any _).mono ?_; rintro e w2 ⟨rfl, hb2⟩))
  go_ret
  exact ⟨rfl, bel_trans (bel_trans (bel_alloc (bel_alloc (Below.refl _ _) _) _) hb1) hb2⟩
set_option maxHeartbeats 16000000 in
set_option maxRecDepth 100000 in
theorem tells_bad (a d g x o : Int) (A : Option Addr) (n c : Nat) (wh wo wr li tb fo sz hk ht : Int) (rs : List Rng) (hn : n ≤ 300) (w : World) (hr : RA w A n rs) (hw : ∀ y ∈ rs, wfA y) (e0 : Int) (he : erV (chkV a d g x o rs) sz hk ht = e0) (h0 : e0 = 50 ∨ e0 = 60) :
    Calls Try.prog 5 #[fontV a d g x o A n c, styV wh wo wr li tb fo sz hk ht] w fun e w' => e = .returned (.bool true) ∧ Below w.heap.size w w' := by
  have HE := Lib.hid (show smallB n = true from decide_eq_true hn)
  have M0 := Lib.hid (LS.new (w := w) (fc := (fontC a d g x o A n c)) (sc := (styC wh wo wr li tb fo sz hk ht)))
  have eb : ErrIs (chkV a d g x o rs) sz hk ht e0 := by
    have := er_bad (chk := chkV a d g x o rs) (sz := sz) (hk := hk) (ht := ht) (by omega)
    rwa [he] at this
  have H1 : Hid (∀ W, Below w.heap.size w W → Calls Try.prog 10 #[fontV a d g x o A n c, styV wh wo wr li tb fo sz hk ht] W fun e w' => e = .returned (.tuple #[boxV 0 0, .int .i64 e0]) ∧ Below W.heap.size W w') := fun W hb => Text_bad a d g x o A n c wh wo wr li tb fo sz hk ht rs (by omega) W (hr.keep hb) hw e0 eb
  have H2 : Hid (∀ W, Below w.heap.size w W → Calls Try.prog 11 #[fontV a d g x o A n c, styV wh wo wr li tb fo sz hk ht] W fun e w' => e = .returned (.tuple #[.int .i64 0, .int .i64 e0]) ∧ Below W.heap.size W w') := fun W hb => Height_bad a d g x o A n c wh wo wr li tb fo sz hk ht rs (by omega) W (hr.keep hb) hw e0 eb
  have H3 : Hid (∀ W, Below w.heap.size w W → Calls Try.prog 9 #[fontV a d g x o A n c, styV wh wo wr li tb fo sz hk ht] W fun e w' => e = .returned (.tuple #[boxV 0 0, .int .i64 e0]) ∧ Below W.heap.size W w') := fun W hb => Strut_bad a d g x o A n c wh wo wr li tb fo sz hk ht rs (by omega) W (hr.keep hb) hw e0 eb
  have H4 : Hid (∀ W, Below w.heap.size w W → Calls Try.prog 12 #[fontV a d g x o A n c, styV wh wo wr li tb fo sz hk ht] W fun e w' => e = .returned (.tuple #[arV 0 0 0 0 0, .int .i64 e0]) ∧ Below W.heap.size W w') := fun W hb => Around_bad a d g x o A n c wh wo wr li tb fo sz hk ht rs (by omega) W (hr.keep hb) hw e0 eb
  have H5 : Hid (∀ W, Below w.heap.size w W → Calls Try.prog 13 #[fontV a d g x o A n c, styV wh wo wr li tb fo sz hk ht] W fun e w' => e = .returned (.int .i64 e0) ∧ Below W.heap.size W w') := fun W hb => by
    have := rcheck18_any a d g x o A n c wh wo wr li tb fo sz hk ht rs (by omega) W (hr.keep hb)
    rwa [he] at this
  clear hr hw he eb
  rcases h0 with rfl | rfl
  all_goals
    go_enter Try.func5, Try.ntmps5
    go_wp2_with (first
      | (go_at_call 7; refine (small_any _ _ _ _ _ _ _ _ (by omega) _).mono ?_; rintro e w1 ⟨rfl, b1⟩; rw [HE.out]; have M1 := Lib.hid (M0.out.keep b1); obtain ⟨i0, i1, i2, i3, i4, i5, i6, i7, i8, i9, i10, i11, i12, i13, i14⟩ := M1.out.cells)
      | (go_at_call 10; refine (H1.out _ M1.out.bel).mono ?_; rintro e w2 ⟨rfl, b2⟩; have M2 := Lib.hid ((M1.out.keep b2).alloc (.cells #[.int .i64 0, .int .i64 0] 30)); obtain ⟨j0, j1, j2, j3, j4, j5, j6, j7, j8, j9, j10, j11, j12, j13, j14⟩ := M2.out.cells)
      | (go_at_call 11; refine (H2.out _ M2.out.bel).mono ?_; rintro e w3 ⟨rfl, b3⟩; have M3 := Lib.hid (M2.out.keep b3); have KA3 := Lib.hid ((Blk.new w2 30 #[.int .i64 0, .int .i64 0]).keep b3); obtain ⟨k0, k1, k2, k3, k4, k5, k6, k7, k8, k9, k10, k11, k12, k13, k14⟩ := M3.out.cells)
      | (go_at_call 9; refine (H3.out _ M3.out.bel).mono ?_; rintro e w4 ⟨rfl, b4⟩; have M4 := Lib.hid ((M3.out.keep b4).alloc (.cells #[.int .i64 0, .int .i64 0] 30)); have KA4 := Lib.hid ((KA3.out.keep b4).alloc (.cells #[.int .i64 0, .int .i64 0] 30)); obtain ⟨l0, l1, l2, l3, l4, l5, l6, l7, l8, l9, l10, l11, l12, l13, l14⟩ := M4.out.cells)
      | (go_at_call 12; refine (H4.out _ M4.out.bel).mono ?_; rintro e w5 ⟨rfl, b5⟩; have M5 := Lib.hid ((M4.out.keep b5).alloc (.cells #[.int .i64 0, .int .i64 0, .int .i64 0, .int .i64 0, .int .i64 0] 39)); have KA5 := Lib.hid ((KA4.out.keep b5).alloc (.cells #[.int .i64 0, .int .i64 0, .int .i64 0, .int .i64 0, .int .i64 0] 39)); have KB5 := Lib.hid (((Blk.new w4 30 #[.int .i64 0, .int .i64 0]).keep b5).alloc (.cells #[.int .i64 0, .int .i64 0, .int .i64 0, .int .i64 0, .int .i64 0] 39)); obtain ⟨m0, m1, m2, m3, m4, m5, m6, m7, m8, m9, m10, m11, m12, m13, m14⟩ := M5.out.cells)
      | (go_at_call 13; refine (H5.out _ M5.out.bel).mono ?_; rintro e w6 ⟨rfl, b6⟩; have M6 := Lib.hid (M5.out.keep b6); have KA6 := Lib.hid (KA5.out.keep b6); have KB6 := Lib.hid (KB5.out.keep b6); have KC6 := Lib.hid ((Blk.new w5 39 #[.int .i64 0, .int .i64 0, .int .i64 0, .int .i64 0, .int .i64 0]).keep b6); obtain ⟨n0, n1, n2, n3, n4, n5, n6, n7, n8, n9, n10, n11, n12, n13, n14⟩ := M6.out.cells; have x0 : w6.cell? ⟨w2.heap.size, 0, none⟩ = some (.int .i64 0) := KA6.out.cell 0; have y0 : w6.cell? ⟨w4.heap.size, 0, none⟩ = some (.int .i64 0) := KB6.out.cell 0; have x1 : w6.cell? ⟨w2.heap.size, 1, none⟩ = some (.int .i64 0) := KA6.out.cell 1; have y1 : w6.cell? ⟨w4.heap.size, 1, none⟩ = some (.int .i64 0) := KB6.out.cell 1; have z0 : w6.cell? ⟨w5.heap.size, 0, none⟩ = some (.int .i64 0) := KC6.out.cell 0; have z1 : w6.cell? ⟨w5.heap.size, 1, none⟩ = some (.int .i64 0) := KC6.out.cell 1; have z2 : w6.cell? ⟨w5.heap.size, 2, none⟩ = some (.int .i64 0) := KC6.out.cell 2; have z3 : w6.cell? ⟨w5.heap.size, 3, none⟩ = some (.int .i64 0) := KC6.out.cell 3; have z4 : w6.cell? ⟨w5.heap.size, 4, none⟩ = some (.int .i64 0) := KC6.out.cell 4)
      | (go_at_call 8; refine (head_any _).mono ?_; rintro e w7 ⟨rfl, b7⟩))
    go_ret
    exact ⟨rfl, bel_trans M6.out.bel b7⟩
/-- What lies in memory while the last question is asked. -/
structure LQ (w : World) (F S : Nat) (fc sc : Array Value) (P Q C T : Nat) (pc qc cc tc : Array Value) (W : World) : Prop where
  m : LS w F S fc sc W
  p : Blk W P 30 pc
  q : Blk W Q 30 qc
  c : Blk W C 39 cc
  t : Blk W T 30 tc
section
variable {w W W' : World} {F S P Q C T : Nat} {fc sc pc qc cc tc : Array Value} {a d g x o : Int} {A : Option Addr} {n c : Nat} {wh wo wr li tb fo sz hk ht u v r1 r2 z q : Int}
theorem LQ.keep (h : LQ w F S fc sc P Q C T pc qc cc tc W) (hb : Below W.heap.size W W') : LQ w F S fc sc P Q C T pc qc cc tc W' := ⟨h.m.keep hb, h.p.keep hb, h.q.keep hb, h.c.keep hb, h.t.keep hb⟩
theorem LQ.drew (h : LQ w F S fc sc P Q C T pc qc cc tc W) : LQ w F S fc sc P Q C T pc qc cc tc W.drew := ⟨h.m.drew, h.p.drew, h.q.drew, h.c.drew, h.t.drew⟩
abbrev LQC (P Q C T : Nat) (u v r1 r2 q s z : Int) (W : World) : Prop := (W.cell? ⟨P, 0, none⟩ = some (.int .i64 u) ∧ W.cell? ⟨P, 1, none⟩ = some (.int .i64 v) ∧ W.cell? ⟨Q, 0, none⟩ = some (.int .i64 r1) ∧ W.cell? ⟨Q, 1, none⟩ = some (.int .i64 r2) ∧ W.cell? ⟨C, 0, none⟩ = some (.int .i64 u) ∧ W.cell? ⟨C, 1, none⟩ = some (.int .i64 v) ∧ W.cell? ⟨C, 2, none⟩ = some (.int .i64 q) ∧ W.cell? ⟨C, 3, none⟩ = some (.int .i64 s) ∧ W.cell? ⟨C, 4, none⟩ = some (.int .i64 z) ∧ W.cell? ⟨T, 0, none⟩ = some (.int .i64 u) ∧ W.cell? ⟨T, 1, none⟩ = some (.int .i64 v))
theorem LQ.cells (h : LQ w F S (fontC a d g x o A n c) (styC wh wo wr li tb fo sz hk ht) P Q C T (boxC u v) (boxC r1 r2) (arC u v q sz z) (boxC u v) W) : FS F S a d g x o A n c wh wo wr li tb fo sz hk ht W ∧ LQC P Q C T u v r1 r2 q sz z W ∧ LQ w F S (fontC a d g x o A n c) (styC wh wo wr li tb fo sz hk ht) P Q C T (boxC u v) (boxC r1 r2) (arC u v q sz z) (boxC u v) W :=
  ⟨h.m.cells, ⟨h.p.cell 0, h.p.cell 1, h.q.cell 0, h.q.cell 1, h.c.cell 0, h.c.cell 1, h.c.cell 2, h.c.cell 3, h.c.cell 4, h.t.cell 0, h.t.cell 1⟩, h⟩
theorem lq_of {p0 p1 : Prop} (h : p0 ∧ p1 ∧ LQ w F S fc sc P Q C T pc qc cc tc W) : LQ w F S fc sc P Q C T pc qc cc tc W := h.2.2
theorem lq_keep {p0 p1 : Prop} (hb : Below W.heap.size W W') (h : p0 ∧ p1 ∧ LQ w F S (fontC a d g x o A n c) (styC wh wo wr li tb fo sz hk ht) P Q C T (boxC u v) (boxC r1 r2) (arC u v q sz z) (boxC u v) W) : FS F S a d g x o A n c wh wo wr li tb fo sz hk ht W' ∧ LQC P Q C T u v r1 r2 q sz z W' ∧ LQ w F S (fontC a d g x o A n c) (styC wh wo wr li tb fo sz hk ht) P Q C T (boxC u v) (boxC r1 r2) (arC u v q sz z) (boxC u v) W' := ((lq_of h).keep hb).cells
end
set_option maxHeartbeats 16000000 in
set_option maxRecDepth 100000 in
theorem tells_ok (a d g x o : Int) (A : Option Addr) (n c : Nat) (wh wo wr li tb fo sz hk ht : Int) (rs : List Rng) (hn : n ≤ 300) (w : World) (hr : RA w A n rs) (hw : ∀ y ∈ rs, wfA y) (he : erV (chkV a d g x o rs) sz hk ht = 0) :
    Calls Try.prog 5 #[fontV a d g x o A n c, styV wh wo wr li tb fo sz hk ht] w fun e w' => e = .returned (.bool true) ∧ Below w.heap.size w w' := by
  have HE := Lib.hid (show smallB n = true from decide_eq_true hn)
  have M0 := Lib.hid (LS.new (w := w) (fc := (fontC a d g x o A n c)) (sc := (styC wh wo wr li tb fo sz hk ht)))
  obtain ⟨ek, eo⟩ := er_ok he
  obtain ⟨_, _, _, b3, b4, b1, b2⟩ : okS sz hk ht = true ∧ allS [sz, ht] = true ∧ hk ≤ 2 ∧ 0 ≤ sz ∧ sz ≤ 1073741824 ∧ 0 ≤ ht ∧ ht ≤ 1073741824 := (okS_cases sz hk ht).resolve_right (fun h => by rw [h.1] at eo; exact absurd eo (by decide))
  have H1 : Hid (∀ W, Below w.heap.size w W → Calls Try.prog 10 #[fontV a d g x o A n c, styV wh wo wr li tb fo sz hk ht] W fun e w' => e = .returned (.tuple #[boxV (atV a sz) (atV d sz), .int .i64 0]) ∧ Below W.heap.size W w') := fun W hb => Text_ok a d g x o A n c wh wo wr li tb fo sz hk ht rs (by omega) W (hr.keep hb) hw ek eo
  have H2 : Hid (∀ W, Below w.heap.size w W → Calls Try.prog 11 #[fontV a d g x o A n c, styV wh wo wr li tb fo sz hk ht] W fun e w' => e = .returned (.tuple #[.int .i64 (htV a d g sz hk ht), .int .i64 0]) ∧ Below W.heap.size W w') := fun W hb => Height_ok a d g x o A n c wh wo wr li tb fo sz hk ht rs (by omega) W (hr.keep hb) hw ek eo
  have H3 : Hid (∀ W, Below w.heap.size w W → Calls Try.prog 9 #[fontV a d g x o A n c, styV wh wo wr li tb fo sz hk ht] W fun e w' => e = .returned (.tuple #[boxV (strA a d g sz hk ht) (strB a d g sz hk ht), .int .i64 0]) ∧ Below W.heap.size W w') := fun W hb => Strut_ok a d g x o A n c wh wo wr li tb fo sz hk ht rs (by omega) W (hr.keep hb) hw ek eo
  have H4 : Hid (∀ W, Below w.heap.size w W → Calls Try.prog 12 #[fontV a d g x o A n c, styV wh wo wr li tb fo sz hk ht] W fun e w' => e = .returned (.tuple #[arV (atV a sz) (atV d sz) (atV x sz) sz (htV a d g sz hk ht), .int .i64 0]) ∧ Below W.heap.size W w') := fun W hb => Around_ok a d g x o A n c wh wo wr li tb fo sz hk ht rs (by omega) W (hr.keep hb) hw ek eo
  have H5 : Hid (∀ W, Below w.heap.size w W → Calls Try.prog 13 #[fontV a d g x o A n c, styV wh wo wr li tb fo sz hk ht] W fun e w' => e = .returned (.int .i64 0) ∧ Below W.heap.size W w') := fun W hb => by
    have := rcheck18_any a d g x o A n c wh wo wr li tb fo sz hk ht rs (by omega) W (hr.keep hb)
    rwa [he] at this
  have H6 := Lib.hid (fun W => rtext_any a d g x o A n c wh wo wr li tb fo sz hk ht W)
  have H7 := Lib.hid (fun W => rheight_any a d g x o A n c wh wo wr li tb fo sz hk ht W b1 b2 b3 b4)
  have H8 := Lib.hid (fun W => rstrut_any a d g x o A n c wh wo wr li tb fo sz hk ht W b1 b2 b3 b4)
  have H9 := Lib.hid (fun W => refAt_any x sz W)
  clear hr hw he ek eo b1 b2 b3 b4
  generalize strA a d g sz hk ht = r1 at *
  generalize strB a d g sz hk ht = r2 at *
  generalize htV a d g sz hk ht = z at *
  generalize atV a sz = u at *
  generalize atV d sz = v at *
  generalize atV x sz = q at *
  have q1 : (u == u) = true := by simp
  have q2 : (v == v) = true := by simp
  have q3 : (z == z) = true := by simp
  have q4 : (r1 == r1) = true := by simp
  have q5 : (r2 == r2) = true := by simp
  have q6 : (q == q) = true := by simp
  have q7 : (sz == sz) = true := by simp
  go_enter Try.func5, Try.ntmps5
  go_wp2_with (first
    | (go_at_call 7; refine (small_any _ _ _ _ _ _ _ _ (by omega) _).mono ?_; rintro e w1 ⟨rfl, b1⟩; rw [HE.out]; have M1 := Lib.hid (M0.out.keep b1); obtain ⟨i0, i1, i2, i3, i4, i5, i6, i7, i8, i9, i10, i11, i12, i13, i14⟩ := M1.out.cells)
    | (go_at_call 10; refine (H1.out _ M1.out.bel).mono ?_; rintro e w2 ⟨rfl, b2⟩; have M2 := Lib.hid ((M1.out.keep b2).alloc (.cells #[.int .i64 u, .int .i64 v] 30)); obtain ⟨j0, j1, j2, j3, j4, j5, j6, j7, j8, j9, j10, j11, j12, j13, j14⟩ := M2.out.cells)
    | (go_at_call 11; refine (H2.out _ M2.out.bel).mono ?_; rintro e w3 ⟨rfl, b3⟩; have M3 := Lib.hid (M2.out.keep b3); have KA3 := Lib.hid ((Blk.new w2 30 #[.int .i64 u, .int .i64 v]).keep b3); obtain ⟨k0, k1, k2, k3, k4, k5, k6, k7, k8, k9, k10, k11, k12, k13, k14⟩ := M3.out.cells)
    | (go_at_call 9; refine (H3.out _ M3.out.bel).mono ?_; rintro e w4 ⟨rfl, b4⟩; have M4 := Lib.hid ((M3.out.keep b4).alloc (.cells #[.int .i64 r1, .int .i64 r2] 30)); have KA4 := Lib.hid ((KA3.out.keep b4).alloc (.cells #[.int .i64 r1, .int .i64 r2] 30)); obtain ⟨l0, l1, l2, l3, l4, l5, l6, l7, l8, l9, l10, l11, l12, l13, l14⟩ := M4.out.cells)
    | (go_at_call 12; refine (H4.out _ M4.out.bel).mono ?_; rintro e w5 ⟨rfl, b5⟩; have M5 := Lib.hid ((M4.out.keep b5).alloc (.cells #[.int .i64 u, .int .i64 v, .int .i64 q, .int .i64 sz, .int .i64 z] 39)); have KA5 := Lib.hid ((KA4.out.keep b5).alloc (.cells #[.int .i64 u, .int .i64 v, .int .i64 q, .int .i64 sz, .int .i64 z] 39)); have KB5 := Lib.hid (((Blk.new w4 30 #[.int .i64 r1, .int .i64 r2]).keep b5).alloc (.cells #[.int .i64 u, .int .i64 v, .int .i64 q, .int .i64 sz, .int .i64 z] 39)); obtain ⟨m0, m1, m2, m3, m4, m5, m6, m7, m8, m9, m10, m11, m12, m13, m14⟩ := M5.out.cells)
    | (go_at_call 13; refine (H5.out _ M5.out.bel).mono ?_; rintro e w6 ⟨rfl, b6⟩; have M6 := Lib.hid (M5.out.keep b6); have KA6 := Lib.hid (KA5.out.keep b6); have KB6 := Lib.hid (KB5.out.keep b6); have KC6 := Lib.hid ((Blk.new w5 39 #[.int .i64 u, .int .i64 v, .int .i64 q, .int .i64 sz, .int .i64 z]).keep b6); obtain ⟨n0, n1, n2, n3, n4, n5, n6, n7, n8, n9, n10, n11, n12, n13, n14⟩ := M6.out.cells)
    | (go_at_call 14; refine (H6.out _).mono ?_; rintro e w7 ⟨rfl, b7⟩))
  have C0 := (show LQ w w.heap.size (w.heap.size + 1) (fontC a d g x o A n c) (styC wh wo wr li tb fo sz hk ht) w2.heap.size w4.heap.size w5.heap.size w7.heap.size (boxC u v) (boxC r1 r2) (arC u v q sz z) (boxC u v) (w7.alloc (.cells (boxC u v) 30)) from ⟨(M6.out.keep b7).alloc _, (KA6.out.keep b7).alloc _, (KB6.out.keep b7).alloc _, (KC6.out.keep b7).alloc _, Blk.new _ _ _⟩).drew.cells
  clear i0 i1 i2 i3 i4 i5 i6 i7 i8 i9 i10 i11 i12 i13 i14 j0 j1 j2 j3 j4 j5 j6 j7 j8 j9 j10 j11 j12 j13 j14 k0 k1 k2 k3 k4 k5 k6 k7 k8 k9 k10 k11 k12 k13 k14 l0 l1 l2 l3 l4 l5 l6 l7 l8 l9 l10 l11 l12 l13 l14 m0 m1 m2 m3 m4 m5 m6 m7 m8 m9 m10 m11 m12 m13 m14 n0 n1 n2 n3 n4 n5 n6 n7 n8 n9 n10 n11 n12 n13 n14
  go_region_held3 (fun w' => (w'.cell? ⟨w.heap.size, 0, none⟩ = some (.int .i64 a) ∧ w'.cell? ⟨w.heap.size, 1, none⟩ = some (.int .i64 d) ∧ w'.cell? ⟨w.heap.size, 2, none⟩ = some (.int .i64 g) ∧ w'.cell? ⟨w.heap.size, 3, none⟩ = some (.int .i64 x) ∧ w'.cell? ⟨w.heap.size, 4, none⟩ = some (.int .i64 o) ∧ w'.cell? ⟨w.heap.size, 5, none⟩ = some (.slice A n c) ∧ w'.cell? ⟨w.heap.size + 1, 0, none⟩ = some (.int .u8 wh) ∧ w'.cell? ⟨w.heap.size + 1, 1, none⟩ = some (.int .u8 wo) ∧ w'.cell? ⟨w.heap.size + 1, 2, none⟩ = some (.int .u8 wr) ∧ w'.cell? ⟨w.heap.size + 1, 3, none⟩ = some (.int .u8 li) ∧ w'.cell? ⟨w.heap.size + 1, 4, none⟩ = some (.int .i64 tb) ∧ w'.cell? ⟨w.heap.size + 1, 5, none⟩ = some (.int .i64 fo) ∧ w'.cell? ⟨w.heap.size + 1, 6, none⟩ = some (.int .i64 sz) ∧ w'.cell? ⟨w.heap.size + 1, 7, none⟩ = some (.int .u8 hk) ∧ w'.cell? ⟨w.heap.size + 1, 8, none⟩ = some (.int .i64 ht)) ∧ (w'.cell? ⟨w2.heap.size, 0, none⟩ = some (.int .i64 u) ∧ w'.cell? ⟨w2.heap.size, 1, none⟩ = some (.int .i64 v) ∧ w'.cell? ⟨w4.heap.size, 0, none⟩ = some (.int .i64 r1) ∧ w'.cell? ⟨w4.heap.size, 1, none⟩ = some (.int .i64 r2) ∧ w'.cell? ⟨w5.heap.size, 0, none⟩ = some (.int .i64 u) ∧ w'.cell? ⟨w5.heap.size, 1, none⟩ = some (.int .i64 v) ∧ w'.cell? ⟨w5.heap.size, 2, none⟩ = some (.int .i64 q) ∧ w'.cell? ⟨w5.heap.size, 3, none⟩ = some (.int .i64 sz) ∧ w'.cell? ⟨w5.heap.size, 4, none⟩ = some (.int .i64 z) ∧ w'.cell? ⟨w7.heap.size, 0, none⟩ = some (.int .i64 u) ∧ w'.cell? ⟨w7.heap.size, 1, none⟩ = some (.int .i64 v)) ∧ LQ w w.heap.size (w.heap.size + 1) (fontC a d g x o A n c) (styC wh wo wr li tb fo sz hk ht) w2.heap.size w4.heap.size w5.heap.size w7.heap.size (boxC u v) (boxC r1 r2) (arC u v q sz z) (boxC u v) w')
    (first | with_reducible exact C0 | with_reducible exact lq_keep (by assumption) (by assumption) | go_keep)
    (first
    | (go_at_call 15; refine (H7.out _).mono ?_; rintro e v1 ⟨rfl, hb2⟩)
    | (go_at_call 16; refine (H8.out _).mono ?_; rintro e v1 ⟨rfl, hb2⟩)
    | (go_at_call 17; refine (H9.out _).mono ?_; rintro e v1 ⟨rfl, hb2⟩)
    | (go_at_call 8; refine (head_any _).mono ?_; rintro e v1 ⟨rfl, hb2⟩))
  go_wp2
  go_ret
  exact ⟨rfl, (lq_of (by assumption)).m.bel⟩
theorem LeadTells_any (a d g x o : Int) (A : Option Addr) (n c : Nat) (wh wo wr li tb fo sz hk ht : Int) (xs : List (List Int)) (hl : xs.length = n) (hc : n ≤ c) (hm : c ≤ maxLen) (hw : ∀ y ∈ xs, wfR [.i32, .i32, .i64] y) (w : World) (hr : Reads w w.heap.size 3 A n (xs.flatMap (encR [.i32, .i32, .i64]))) :
    Calls Try.prog 5 #[fontV a d g x o A n c, styV wh wo wr li tb fo sz hk ht] w fun e w' => e = .returned (.bool true) ∧ Below w.heap.size w w' := by
  obtain ⟨rs, r1, r2, r3⟩ := rngL_of xs hw
  rw [r3] at hr
  unfold maxLen at hm
  rcases Nat.lt_or_ge 300 n with h | h
  · exact tells_out a d g x o A n c wh wo wr li tb fo sz hk ht (by omega) h w
  · by_cases e : erV (chkV a d g x o rs) sz hk ht = 0
    · exact tells_ok a d g x o A n c wh wo wr li tb fo sz hk ht rs h w ⟨by omega, hr⟩ r2 e
    · exact tells_bad a d g x o A n c wh wo wr li tb fo sz hk ht rs h w ⟨by omega, hr⟩ r2 _ rfl (by
        have := er_bad e
        rcases this with ⟨_, h⟩ | ⟨_, _, h⟩ <;> omega)
end Go.Proofs.Ytedpmehggpomnaa.Lead

/- Chapter 18: what is told of a style's line, the four closures, walked. No condition but bounds. -/
import Derived.Test.YtedpmehggpomnaaLeadH
namespace Go.Proofs.Ytedpmehggpomnaa.Lead
open Go.RowKit Go.Proofs.Ytedpmehggpomnaa.Unit Go.Proofs.Ytedpmehggpomnaa.Font
set_option linter.unusedVariables false

abbrev arV (u v z s h : Int) : Value := .agg #[.int .i64 u, .int .i64 v, .int .i64 z, .int .i64 s, .int .i64 h]
abbrev arC (u v z s h : Int) : Array Value := #[.int .i64 u, .int .i64 v, .int .i64 z, .int .i64 s, .int .i64 h]
def lowV (a d g sz hk ht : Int) : Int := (htV a d g sz hk ht - atV a sz - atV d sz) / 2
def strA (a d g sz hk ht : Int) : Int := atV a sz + lowV a d g sz hk ht
def strB (a d g sz hk ht : Int) : Int := atV d sz + (htV a d g sz hk ht - atV a sz - atV d sz - lowV a d g sz hk ht)
/-- A font, a style, a box, and a block of five cells. -/
structure LA (w : World) (F S : Nat) (fc sc : Array Value) (B : Nat) (u v : Int) (R : Nat) (W : World) : Prop where
  m : LS w F S fc sc W
  b : Blk W B 30 (boxC u v)
  h : Has W R 39 5
section
variable {w W W' : World} {F S B R : Nat} {fc sc : Array Value} {a d g x o : Int} {A : Option Addr} {n c : Nat} {wh wo wr li tb fo sz hk ht u v : Int} {y0 y1 y2 y3 y4 : Value}
theorem LA.keep (m : LA w F S fc sc B u v R W) (hb : Below W.heap.size W W') : LA w F S fc sc B u v R W' := ⟨m.m.keep hb, m.b.keep hb, m.h.keep hb⟩
theorem LA.drew (m : LA w F S fc sc B u v R W) : LA w F S fc sc B u v R W.drew := ⟨m.m.drew, m.b.drew, m.h.drew⟩
theorem LA.cells (m : LA w F S (fontC a d g x o A n c) (styC wh wo wr li tb fo sz hk ht) B u v R W) : FS F S a d g x o A n c wh wo wr li tb fo sz hk ht W ∧ W.cell? ⟨B, 0, none⟩ = some (.int .i64 u) ∧ W.cell? ⟨B, 1, none⟩ = some (.int .i64 v) ∧ W.cell? ⟨R, 0, none⟩ = some (wit W ⟨R, 0, none⟩) ∧ W.cell? ⟨R, 1, none⟩ = some (wit W ⟨R, 1, none⟩) ∧ W.cell? ⟨R, 2, none⟩ = some (wit W ⟨R, 2, none⟩) ∧ W.cell? ⟨R, 3, none⟩ = some (wit W ⟨R, 3, none⟩) ∧ W.cell? ⟨R, 4, none⟩ = some (wit W ⟨R, 4, none⟩) ∧ W.frozen? ⟨R, 0, none⟩ = false ∧ W.frozen? ⟨R, 1, none⟩ = false ∧ W.frozen? ⟨R, 2, none⟩ = false ∧ W.frozen? ⟨R, 3, none⟩ = false ∧ W.frozen? ⟨R, 4, none⟩ = false ∧ LA w F S (fontC a d g x o A n c) (styC wh wo wr li tb fo sz hk ht) B u v R W :=
  ⟨m.m.cells, m.b.cell 0, m.b.cell 1, (m.h.wit 0 (by omega)).1, (m.h.wit 1 (by omega)).1, (m.h.wit 2 (by omega)).1, (m.h.wit 3 (by omega)).1, (m.h.wit 4 (by omega)).1, (m.h.wit 0 (by omega)).2, (m.h.wit 1 (by omega)).2, (m.h.wit 2 (by omega)).2, (m.h.wit 3 (by omega)).2, (m.h.wit 4 (by omega)).2, m⟩
theorem la_of {p0 p1 p2 p3 p4 p5 p6 p7 p8 p9 p10 p11 p12 : Prop} (h : p0 ∧ p1 ∧ p2 ∧ p3 ∧ p4 ∧ p5 ∧ p6 ∧ p7 ∧ p8 ∧ p9 ∧ p10 ∧ p11 ∧ p12 ∧ LA w F S fc sc B u v R W) : LA w F S fc sc B u v R W := h.2.2.2.2.2.2.2.2.2.2.2.2.2
theorem la_keep {p0 p1 p2 p3 p4 p5 p6 p7 p8 p9 p10 p11 p12 : Prop} (hb : Below W.heap.size W W') (h : p0 ∧ p1 ∧ p2 ∧ p3 ∧ p4 ∧ p5 ∧ p6 ∧ p7 ∧ p8 ∧ p9 ∧ p10 ∧ p11 ∧ p12 ∧ LA w F S (fontC a d g x o A n c) (styC wh wo wr li tb fo sz hk ht) B u v R W) : FS F S a d g x o A n c wh wo wr li tb fo sz hk ht W' ∧ W'.cell? ⟨B, 0, none⟩ = some (.int .i64 u) ∧ W'.cell? ⟨B, 1, none⟩ = some (.int .i64 v) ∧ W'.cell? ⟨R, 0, none⟩ = some (wit W' ⟨R, 0, none⟩) ∧ W'.cell? ⟨R, 1, none⟩ = some (wit W' ⟨R, 1, none⟩) ∧ W'.cell? ⟨R, 2, none⟩ = some (wit W' ⟨R, 2, none⟩) ∧ W'.cell? ⟨R, 3, none⟩ = some (wit W' ⟨R, 3, none⟩) ∧ W'.cell? ⟨R, 4, none⟩ = some (wit W' ⟨R, 4, none⟩) ∧ W'.frozen? ⟨R, 0, none⟩ = false ∧ W'.frozen? ⟨R, 1, none⟩ = false ∧ W'.frozen? ⟨R, 2, none⟩ = false ∧ W'.frozen? ⟨R, 3, none⟩ = false ∧ W'.frozen? ⟨R, 4, none⟩ = false ∧ LA w F S (fontC a d g x o A n c) (styC wh wo wr li tb fo sz hk ht) B u v R W' := ((la_of h).keep hb).cells
theorem LA.set5 (m : LA w F S fc sc B u v R W) (h1 : F ≠ R) (h2 : S ≠ R) (h3 : w.heap.size ≤ R) (h4 : B ≠ R) {V : World} (hV : V = (((((W.setCell ⟨R, 0, none⟩ y0).setCell ⟨R, 1, none⟩ y1).setCell ⟨R, 2, none⟩ y2).setCell ⟨R, 3, none⟩ y3).setCell ⟨R, 4, none⟩ y4)) : LA w F S fc sc B u v R V := by
  subst hV
  refine ⟨((((m.m.set_ (p := ⟨R, 0, none⟩) h1 h2 h3 y0).set_ (p := ⟨R, 1, none⟩) h1 h2 h3 y1).set_ (p := ⟨R, 2, none⟩) h1 h2 h3 y2).set_ (p := ⟨R, 3, none⟩) h1 h2 h3 y3).set_ (p := ⟨R, 4, none⟩) h1 h2 h3 y4, ?_, ((((m.h.set_ 0 y0).set_ 1 y1).set_ 2 y2).set_ 3 y3).set_ 4 y4⟩
  exact ((((m.b.far (p := ⟨R, 0, none⟩) h4 y0).far (p := ⟨R, 1, none⟩) h4 y1).far (p := ⟨R, 2, none⟩) h4 y2).far (p := ⟨R, 3, none⟩) h4 y3).far (p := ⟨R, 4, none⟩) h4 y4
theorem la_set {p0 p1 p2 p3 p4 p5 p6 p7 p8 p9 p10 p11 p12 : Prop} {V : World} (h : p0 ∧ p1 ∧ p2 ∧ p3 ∧ p4 ∧ p5 ∧ p6 ∧ p7 ∧ p8 ∧ p9 ∧ p10 ∧ p11 ∧ p12 ∧ LA w F S (fontC a d g x o A n c) (styC wh wo wr li tb fo sz hk ht) B u v R W) (h1 : F ≠ R) (h2 : S ≠ R) (h3 : w.heap.size ≤ R) (h4 : B ≠ R) (hV : V = (((((W.setCell ⟨R, 0, none⟩ y0).setCell ⟨R, 1, none⟩ y1).setCell ⟨R, 2, none⟩ y2).setCell ⟨R, 3, none⟩ y3).setCell ⟨R, 4, none⟩ y4)) : FS F S a d g x o A n c wh wo wr li tb fo sz hk ht V ∧ V.cell? ⟨B, 0, none⟩ = some (.int .i64 u) ∧ V.cell? ⟨B, 1, none⟩ = some (.int .i64 v) ∧ V.cell? ⟨R, 0, none⟩ = some (wit V ⟨R, 0, none⟩) ∧ V.cell? ⟨R, 1, none⟩ = some (wit V ⟨R, 1, none⟩) ∧ V.cell? ⟨R, 2, none⟩ = some (wit V ⟨R, 2, none⟩) ∧ V.cell? ⟨R, 3, none⟩ = some (wit V ⟨R, 3, none⟩) ∧ V.cell? ⟨R, 4, none⟩ = some (wit V ⟨R, 4, none⟩) ∧ V.frozen? ⟨R, 0, none⟩ = false ∧ V.frozen? ⟨R, 1, none⟩ = false ∧ V.frozen? ⟨R, 2, none⟩ = false ∧ V.frozen? ⟨R, 3, none⟩ = false ∧ V.frozen? ⟨R, 4, none⟩ = false ∧ LA w F S (fontC a d g x o A n c) (styC wh wo wr li tb fo sz hk ht) B u v R V := ((la_of h).set5 h1 h2 h3 h4 hV).cells
end

set_option maxHeartbeats 4000000 in
set_option maxRecDepth 100000 in
theorem clText (a d g x o : Int) (A : Option Addr) (n c : Nat) (wh wo wr li tb fo sz hk ht : Int) (w : World) (F S : Nat) (hf : Blk w F 24 (fontC a d g x o A n c)) (hs : Blk w S 26 (styC wh wo wr li tb fo sz hk ht)) :
    Calls Try.prog 24 #[.pointer (some ⟨F, 0, none⟩), .pointer (some ⟨S, 0, none⟩)] w fun e w' => e = .returned (boxV (atV a sz) (atV d sz)) ∧ Below w.heap.size w w' := by
  have lf := hf.lt
  have ls := hs.lt
  have M := Lib.hid (show LT w F S (fontC a d g x o A n c) (styC wh wo wr li tb fo sz hk ht) w.heap.size 30 2 (w.alloc (.cells #[.int .i64 0, .int .i64 0] 30)) from ⟨(⟨hf, hs, Below.refl _ _⟩ : LS w F S (fontC a d g x o A n c) (styC wh wo wr li tb fo sz hk ht) w).alloc _, Blk.has (Blk.new w 30 #[.int .i64 0, .int .i64 0])⟩)
  have H1 := Lib.hid (fun W => text_any a d g x o A n c wh wo wr li tb fo sz hk ht W)
  obtain ⟨⟨p0, p1, p2, p3, p4, p5, p6, p7, p8, p9, p10, p11, p12, p13, p14⟩, _⟩ := M.out.cells2
  generalize atV a sz = u at *
  generalize atV d sz = v at *
  clear hf hs
  go_enter Try.func24, Try.ntmps24
  go_wp2_with (go_at_call 21; refine (H1.out _).mono ?_; rintro e w1 ⟨rfl, hb1⟩; have T2 := M.out.keep hb1; obtain ⟨_, r0, r1, f0, f1, _⟩ := T2.cells2)
  obtain ⟨s0, s1⟩ := T2.h.two (.int .i64 u) (.int .i64 v)
  have bel := (((T2.m.set_ (p := ⟨w.heap.size, 0, none⟩) (by simp; omega) (by simp; omega) (by simp) (.int .i64 u)).set_ (p := ⟨w.heap.size, 1, none⟩) (by simp; omega) (by simp; omega) (by simp) (.int .i64 v))).bel
  exact bodyPost_ret (v := boxV u v) (by simp [results, Try.results24, go_sem, s0, s1]) rfl ⟨rfl, bel⟩
set_option maxHeartbeats 4000000 in
set_option maxRecDepth 100000 in
theorem clHeight (a d g x o : Int) (A : Option Addr) (n c : Nat) (wh wo wr li tb fo sz hk ht : Int) (w : World) (F S : Nat) (hf : Blk w F 24 (fontC a d g x o A n c)) (hs : Blk w S 26 (styC wh wo wr li tb fo sz hk ht)) (h0 : 0 ≤ ht) (h1 : ht ≤ 1073741824) (s0 : 0 ≤ sz) (s1 : sz ≤ 1073741824) :
    Calls Try.prog 26 #[.pointer (some ⟨F, 0, none⟩), .pointer (some ⟨S, 0, none⟩)] w fun e w' => e = .returned (.int .i64 (htV a d g sz hk ht)) ∧ Below w.heap.size w w' := by
  have M := Lib.hid (⟨hf, hs, Below.refl _ _⟩ : LS w F S (fontC a d g x o A n c) (styC wh wo wr li tb fo sz hk ht) w)
  have H1 := Lib.hid (fun W => height_any a d g x o A n c wh wo wr li tb fo sz hk ht W h0 h1 s0 s1)
  obtain ⟨p0, p1, p2, p3, p4, p5, p6, p7, p8, p9, p10, p11, p12, p13, p14⟩ := M.out.cells
  generalize htV a d g sz hk ht = z at *
  clear hf hs
  go_enter Try.func26, Try.ntmps26
  go_wp2_with (go_at_call 23; refine (H1.out _).mono ?_; rintro e w1 ⟨rfl, hb1⟩)
  go_ret
  exact ⟨rfl, hb1⟩
set_option maxHeartbeats 8000000 in
set_option maxRecDepth 100000 in
theorem clStrut (a d g x o : Int) (A : Option Addr) (n c : Nat) (wh wo wr li tb fo sz hk ht : Int) (w : World) (F S : Nat) (hf : Blk w F 24 (fontC a d g x o A n c)) (hs : Blk w S 26 (styC wh wo wr li tb fo sz hk ht)) (h0 : 0 ≤ ht) (h1 : ht ≤ 1073741824) (s0 : 0 ≤ sz) (s1 : sz ≤ 1073741824) :
    Calls Try.prog 20 #[.pointer (some ⟨F, 0, none⟩), .pointer (some ⟨S, 0, none⟩)] w fun e w' => e = .returned (boxV (strA a d g sz hk ht) (strB a d g sz hk ht)) ∧ Below w.heap.size w w' := by
  have lf := hf.lt
  have ls := hs.lt
  have M := Lib.hid (show LS w F S (fontC a d g x o A n c) (styC wh wo wr li tb fo sz hk ht) (w.alloc (.cells #[.int .i64 0, .int .i64 0] 30)) from (⟨hf, hs, Below.refl _ _⟩ : LS w F S (fontC a d g x o A n c) (styC wh wo wr li tb fo sz hk ht) w).alloc _)
  have RB := Lib.hid (Blk.new w 30 #[.int .i64 0, .int .i64 0])
  have H1 := Lib.hid (fun W => text_any a d g x o A n c wh wo wr li tb fo sz hk ht W)
  have H2 := Lib.hid (fun W => height_any a d g x o A n c wh wo wr li tb fo sz hk ht W h0 h1 s0 s1)
  obtain ⟨p0, p1, p2, p3, p4, p5, p6, p7, p8, p9, p10, p11, p12, p13, p14⟩ := M.out.cells
  obtain ⟨u0, u1⟩ := atL_rng a sz
  obtain ⟨v0, v1⟩ := atL_rng d sz
  obtain ⟨z0, z1⟩ := htV_rng a d g sz hk ht h0 h1 s0 s1
  unfold strA strB lowV
  generalize htV a d g sz hk ht = z at *
  generalize atV a sz = u at *
  generalize atV d sz = v at *
  obtain ⟨D, hD⟩ : ∃ D, z - u - v = D := ⟨_, rfl⟩
  obtain ⟨lo, hlo⟩ : ∃ lo, D / 2 = lo := ⟨_, rfl⟩
  obtain ⟨hi, hhi⟩ : ∃ hi, D - lo = hi := ⟨_, rfl⟩
  rw [hD, hlo, hhi]
  have C : Hid (∀ W, Calls Try.prog 22 #[.int .i64 D] W fun e w' => e = .returned (.tuple #[.int .i64 lo, .int .i64 hi]) ∧ Drawn W w') := fun W => by
    have := halves_any D (by omega) (by omega) W
    rwa [hlo, hhi] at this
  have e1 : IntKind.i64.wrap (z - u) = z - u := by rw [IntKind.wrap_i64]; omega
  have e2 : IntKind.i64.wrap (z - u - v) = D := by rw [hD, IntKind.wrap_i64]; omega
  have e3 : IntKind.i64.wrap (u + lo) = u + lo := by rw [IntKind.wrap_i64]; omega
  have e4 : IntKind.i64.wrap (v + hi) = v + hi := by rw [IntKind.wrap_i64]; omega
  clear hf hs hD hlo hhi
  go_enter Try.func20, Try.ntmps20
  go_wp2_with (go_at_call 21; refine (H1.out _).mono ?_; rintro e w1 ⟨rfl, hb1⟩)
  have C0 := (show LB w F S (fontC a d g x o A n c) (styC wh wo wr li tb fo sz hk ht) w1.heap.size 30 (boxC u v) w.heap.size 30 #[.int .i64 0, .int .i64 0] (w1.alloc (.cells (boxC u v) 30)) from ⟨(M.out.keep hb1).alloc _, Blk.new _ _ _, (RB.out.keep hb1).alloc _⟩).drew.cells
  go_region_held3 (fun w' => (w'.cell? ⟨F, 0, none⟩ = some (.int .i64 a) ∧ w'.cell? ⟨F, 1, none⟩ = some (.int .i64 d) ∧ w'.cell? ⟨F, 2, none⟩ = some (.int .i64 g) ∧ w'.cell? ⟨F, 3, none⟩ = some (.int .i64 x) ∧ w'.cell? ⟨F, 4, none⟩ = some (.int .i64 o) ∧ w'.cell? ⟨F, 5, none⟩ = some (.slice A n c) ∧ w'.cell? ⟨S, 0, none⟩ = some (.int .u8 wh) ∧ w'.cell? ⟨S, 1, none⟩ = some (.int .u8 wo) ∧ w'.cell? ⟨S, 2, none⟩ = some (.int .u8 wr) ∧ w'.cell? ⟨S, 3, none⟩ = some (.int .u8 li) ∧ w'.cell? ⟨S, 4, none⟩ = some (.int .i64 tb) ∧ w'.cell? ⟨S, 5, none⟩ = some (.int .i64 fo) ∧ w'.cell? ⟨S, 6, none⟩ = some (.int .i64 sz) ∧ w'.cell? ⟨S, 7, none⟩ = some (.int .u8 hk) ∧ w'.cell? ⟨S, 8, none⟩ = some (.int .i64 ht)) ∧ w'.cell? ⟨w1.heap.size, 0, none⟩ = some (.int .i64 u) ∧ w'.cell? ⟨w1.heap.size, 1, none⟩ = some (.int .i64 v) ∧ LB w F S (fontC a d g x o A n c) (styC wh wo wr li tb fo sz hk ht) w1.heap.size 30 (boxC u v) w.heap.size 30 #[.int .i64 0, .int .i64 0] w')
    (first | with_reducible exact C0 | with_reducible exact lb_keep (by assumption) (by assumption) | with_reducible exact lb_keep (bel_drewN (Below.refl _ _) _) (by assumption) | go_keep)
    (first
    | (go_at_call 23; refine (H2.out _).mono ?_; rintro e w2 ⟨rfl, hb2⟩)
    | (go_at_call 22; ((with_reducible refine (C.out _).mono ?_); rintro e w3 ⟨rfl, ⟨m3, rfl⟩⟩)))
  have X : LB w F S (fontC a d g x o A n c) (styC wh wo wr li tb fo sz hk ht) w1.heap.size 30 (boxC u v) w.heap.size 30 #[.int .i64 0, .int .i64 0] (w2.drewN m3) := lb_of (by assumption)
  clear C0 p0 p1 p2 p3 p4 p5 p6 p7 p8 p9 p10 p11 p12 p13 p14
  obtain ⟨_, b0, b1, _⟩ := X.cells
  have r0 : (w2.drewN m3).cell? ⟨w.heap.size, 0, none⟩ = some (.int .i64 0) := X.r.cell 0
  have r1 : (w2.drewN m3).cell? ⟨w.heap.size, 1, none⟩ = some (.int .i64 0) := X.r.cell 1
  have f0 := X.r.frozen 0
  have f1 := X.r.frozen 1
  obtain ⟨t0, t1⟩ := (show Has (w2.drewN m3) w.heap.size 30 2 from Blk.has X.r).two (.int .i64 (u + lo)) (.int .i64 (v + hi))
  have bel := (((X.m.set_ (p := ⟨w.heap.size, 0, none⟩) (by simp; omega) (by simp; omega) (by simp) (.int .i64 (u + lo))).set_ (p := ⟨w.heap.size, 1, none⟩) (by simp; omega) (by simp; omega) (by simp) (.int .i64 (v + hi)))).bel
  go_wp2
  exact bodyPost_ret (v := boxV (u + lo) (v + hi)) (by simp [results, Try.results20, go_sem, t0, t1]) rfl ⟨rfl, bel⟩
end Go.Proofs.Ytedpmehggpomnaa.Lead

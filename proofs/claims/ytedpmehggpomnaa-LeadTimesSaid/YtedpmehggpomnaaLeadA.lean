/- Chapter 18: what others stand by, the closure, walked. No condition but bounds. -/
import Derived.Test.YtedpmehggpomnaaLeadC
namespace Go.Proofs.Ytedpmehggpomnaa.Lead
open Go.RowKit Go.Proofs.Ytedpmehggpomnaa.Unit Go.Proofs.Ytedpmehggpomnaa.Font
set_option linter.unusedVariables false

set_option maxHeartbeats 8000000 in
set_option maxRecDepth 100000 in
theorem clAround (a d g x o : Int) (A : Option Addr) (n c : Nat) (wh wo wr li tb fo sz hk ht : Int) (w : World) (F S : Nat) (hf : Blk w F 24 (fontC a d g x o A n c)) (hs : Blk w S 26 (styC wh wo wr li tb fo sz hk ht)) (h0 : 0 ≤ ht) (h1 : ht ≤ 1073741824) (s0 : 0 ≤ sz) (s1 : sz ≤ 1073741824) :
    Calls Try.prog 28 #[.pointer (some ⟨F, 0, none⟩), .pointer (some ⟨S, 0, none⟩)] w fun e w' => e = .returned (arV (atV a sz) (atV d sz) (atV x sz) sz (htV a d g sz hk ht)) ∧ Below w.heap.size w w' := by
  have lf := hf.lt
  have ls := hs.lt
  have M := Lib.hid (show LS w F S (fontC a d g x o A n c) (styC wh wo wr li tb fo sz hk ht) (w.alloc (.cells (arC 0 0 0 0 0) 39)) from (⟨hf, hs, Below.refl _ _⟩ : LS w F S (fontC a d g x o A n c) (styC wh wo wr li tb fo sz hk ht) w).alloc _)
  have RB := Lib.hid (Blk.new w 39 (arC 0 0 0 0 0))
  have H1 := Lib.hid (fun W => text_any a d g x o A n c wh wo wr li tb fo sz hk ht W)
  have H2 := Lib.hid (fun W => height_any a d g x o A n c wh wo wr li tb fo sz hk ht W h0 h1 s0 s1)
  have H3 := Lib.hid (fun W => x_any a d g x o A n c sz W)
  obtain ⟨p0, p1, p2, p3, p4, p5, p6, p7, p8, p9, p10, p11, p12, p13, p14⟩ := M.out.cells
  generalize htV a d g sz hk ht = z at *
  generalize atV a sz = u at *
  generalize atV d sz = v at *
  generalize atV x sz = q at *
  clear hf hs
  go_enter Try.func28, Try.ntmps28
  go_wp2_with (go_at_call 21; refine (H1.out _).mono ?_; rintro e w1 ⟨rfl, hb1⟩)
  have l1 := hb1.size
  rw [World.size_alloc] at l1
  have C0 := (show LA w F S (fontC a d g x o A n c) (styC wh wo wr li tb fo sz hk ht) w1.heap.size u v w.heap.size (w1.alloc (.cells (boxC u v) 30)) from ⟨(M.out.keep hb1).alloc _, Blk.new _ _ _, Blk.has ((RB.out.keep hb1).alloc _)⟩).drew.cells
  clear p0 p1 p2 p3 p4 p5 p6 p7 p8 p9 p10 p11 p12 p13 p14
  go_region_held3 (fun w' => (w'.cell? ⟨F, 0, none⟩ = some (.int .i64 a) ∧ w'.cell? ⟨F, 1, none⟩ = some (.int .i64 d) ∧ w'.cell? ⟨F, 2, none⟩ = some (.int .i64 g) ∧ w'.cell? ⟨F, 3, none⟩ = some (.int .i64 x) ∧ w'.cell? ⟨F, 4, none⟩ = some (.int .i64 o) ∧ w'.cell? ⟨F, 5, none⟩ = some (.slice A n c) ∧ w'.cell? ⟨S, 0, none⟩ = some (.int .u8 wh) ∧ w'.cell? ⟨S, 1, none⟩ = some (.int .u8 wo) ∧ w'.cell? ⟨S, 2, none⟩ = some (.int .u8 wr) ∧ w'.cell? ⟨S, 3, none⟩ = some (.int .u8 li) ∧ w'.cell? ⟨S, 4, none⟩ = some (.int .i64 tb) ∧ w'.cell? ⟨S, 5, none⟩ = some (.int .i64 fo) ∧ w'.cell? ⟨S, 6, none⟩ = some (.int .i64 sz) ∧ w'.cell? ⟨S, 7, none⟩ = some (.int .u8 hk) ∧ w'.cell? ⟨S, 8, none⟩ = some (.int .i64 ht)) ∧ w'.cell? ⟨w1.heap.size, 0, none⟩ = some (.int .i64 u) ∧ w'.cell? ⟨w1.heap.size, 1, none⟩ = some (.int .i64 v) ∧ w'.cell? ⟨w.heap.size, 0, none⟩ = some (wit w' ⟨w.heap.size, 0, none⟩) ∧ w'.cell? ⟨w.heap.size, 1, none⟩ = some (wit w' ⟨w.heap.size, 1, none⟩) ∧ w'.cell? ⟨w.heap.size, 2, none⟩ = some (wit w' ⟨w.heap.size, 2, none⟩) ∧ w'.cell? ⟨w.heap.size, 3, none⟩ = some (wit w' ⟨w.heap.size, 3, none⟩) ∧ w'.cell? ⟨w.heap.size, 4, none⟩ = some (wit w' ⟨w.heap.size, 4, none⟩) ∧ w'.frozen? ⟨w.heap.size, 0, none⟩ = false ∧ w'.frozen? ⟨w.heap.size, 1, none⟩ = false ∧ w'.frozen? ⟨w.heap.size, 2, none⟩ = false ∧ w'.frozen? ⟨w.heap.size, 3, none⟩ = false ∧ w'.frozen? ⟨w.heap.size, 4, none⟩ = false ∧ LA w F S (fontC a d g x o A n c) (styC wh wo wr li tb fo sz hk ht) w1.heap.size u v w.heap.size w')
    (first | with_reducible exact C0 | with_reducible exact la_keep (by assumption) (by assumption) | with_reducible exact la_set (by assumption) (by omega) (by omega) (by omega) (by omega) rfl | go_keep)
    (first
    | (go_at_call 23; refine (H2.out _).mono ?_; rintro e w2 ⟨rfl, hb2⟩; have T2 : LA w F S (fontC a d g x o A n c) (styC wh wo wr li tb fo sz hk ht) w1.heap.size u v w.heap.size w2 := (la_of (by assumption)).keep hb2)
    | (go_at_call 29; refine (H3.out _).mono ?_; rintro e w3 ⟨rfl, hb3⟩))
  obtain ⟨r0, r1, r2, r3, r4⟩ := T2.h.five (.int .i64 u) (.int .i64 v) (.int .i64 q) (.int .i64 sz) (.int .i64 z) rfl
  have bel := (T2.set5 (y0 := .int .i64 u) (y1 := .int .i64 v) (y2 := .int .i64 q) (y3 := .int .i64 sz) (y4 := .int .i64 z) (by omega) (by omega) (by omega) (by omega) rfl).m.bel
  go_wp2
  exact bodyPost_ret (v := arV u v q sz z) (by simp [results, Try.results28, go_sem, r0, r1, r2, r3, r4]) rfl ⟨rfl, bel⟩
end Go.Proofs.Ytedpmehggpomnaa.Lead

/- Chapter 18: the text's box: the program's and the reference's, walked. No condition. -/
import Derived.Test.YtedpmehggpomnaaLead
namespace Go.Proofs.Ytedpmehggpomnaa.Lead
open Go.RowKit Go.Proofs.Ytedpmehggpomnaa.Unit Go.Proofs.Ytedpmehggpomnaa.Font
set_option linter.unusedVariables false

/-- A font and a style lie in boxes, and a block for what is told. -/
structure LT (w : World) (F S : Nat) (fc sc : Array Value) (R : Nat) (t : TypeId) (k : Nat) (W : World) : Prop where
  m : LS w F S fc sc W
  h : Has W R t k
section
variable {w W W' : World} {F S : Nat} {fc sc : Array Value} {R k : Nat} {t : TypeId} {a d g x o : Int} {A : Option Addr} {n c : Nat} {wh wo wr li tb fo sz hk ht : Int}
theorem LT.keep (m : LT w F S fc sc R t k W) (hb : Below W.heap.size W W') : LT w F S fc sc R t k W' := ⟨m.m.keep hb, m.h.keep hb⟩
theorem LT.drew (m : LT w F S fc sc R t k W) : LT w F S fc sc R t k W.drew := ⟨m.m.drew, m.h.drew⟩
theorem LT.cells2 (m : LT w F S (fontC a d g x o A n c) (styC wh wo wr li tb fo sz hk ht) R t 2 W) : FS F S a d g x o A n c wh wo wr li tb fo sz hk ht W ∧ W.cell? ⟨R, 0, none⟩ = some (wit W ⟨R, 0, none⟩) ∧ W.cell? ⟨R, 1, none⟩ = some (wit W ⟨R, 1, none⟩) ∧ W.frozen? ⟨R, 0, none⟩ = false ∧ W.frozen? ⟨R, 1, none⟩ = false ∧ LT w F S (fontC a d g x o A n c) (styC wh wo wr li tb fo sz hk ht) R t 2 W :=
  ⟨m.m.cells, (m.h.wit 0 (by omega)).1, (m.h.wit 1 (by omega)).1, (m.h.wit 0 (by omega)).2, (m.h.wit 1 (by omega)).2, m⟩
theorem lt2_of {p0 p1 p2 p3 p4 : Prop} (h : p0 ∧ p1 ∧ p2 ∧ p3 ∧ p4 ∧ LT w F S (fontC a d g x o A n c) (styC wh wo wr li tb fo sz hk ht) R t 2 W) : LT w F S (fontC a d g x o A n c) (styC wh wo wr li tb fo sz hk ht) R t 2 W := h.2.2.2.2.2
theorem lt2_keep {p0 p1 p2 p3 p4 : Prop} (hb : Below W.heap.size W W') (h : p0 ∧ p1 ∧ p2 ∧ p3 ∧ p4 ∧ LT w F S (fontC a d g x o A n c) (styC wh wo wr li tb fo sz hk ht) R t 2 W) : FS F S a d g x o A n c wh wo wr li tb fo sz hk ht W' ∧ W'.cell? ⟨R, 0, none⟩ = some (wit W' ⟨R, 0, none⟩) ∧ W'.cell? ⟨R, 1, none⟩ = some (wit W' ⟨R, 1, none⟩) ∧ W'.frozen? ⟨R, 0, none⟩ = false ∧ W'.frozen? ⟨R, 1, none⟩ = false ∧ LT w F S (fontC a d g x o A n c) (styC wh wo wr li tb fo sz hk ht) R t 2 W' :=
  ((lt2_of h).keep hb).cells2
theorem lt2_set {p0 p1 p2 p3 p4 : Prop} {u v : Value} (h : p0 ∧ p1 ∧ p2 ∧ p3 ∧ p4 ∧ LT w F S (fontC a d g x o A n c) (styC wh wo wr li tb fo sz hk ht) R t 2 W) (h1 : F ≠ R) (h2 : S ≠ R) (h3 : w.heap.size ≤ R) :
    FS F S a d g x o A n c wh wo wr li tb fo sz hk ht ((W.setCell ⟨R, 0, none⟩ u).setCell ⟨R, 1, none⟩ v) ∧ ((W.setCell ⟨R, 0, none⟩ u).setCell ⟨R, 1, none⟩ v).cell? ⟨R, 0, none⟩ = some (wit ((W.setCell ⟨R, 0, none⟩ u).setCell ⟨R, 1, none⟩ v) ⟨R, 0, none⟩) ∧ ((W.setCell ⟨R, 0, none⟩ u).setCell ⟨R, 1, none⟩ v).cell? ⟨R, 1, none⟩ = some (wit ((W.setCell ⟨R, 0, none⟩ u).setCell ⟨R, 1, none⟩ v) ⟨R, 1, none⟩) ∧ ((W.setCell ⟨R, 0, none⟩ u).setCell ⟨R, 1, none⟩ v).frozen? ⟨R, 0, none⟩ = false ∧ ((W.setCell ⟨R, 0, none⟩ u).setCell ⟨R, 1, none⟩ v).frozen? ⟨R, 1, none⟩ = false ∧ LT w F S (fontC a d g x o A n c) (styC wh wo wr li tb fo sz hk ht) R t 2 ((W.setCell ⟨R, 0, none⟩ u).setCell ⟨R, 1, none⟩ v) :=
  LT.cells2 ⟨((lt2_of h).m.set_ (p := ⟨R, 0, none⟩) h1 h2 h3 u).set_ (p := ⟨R, 1, none⟩) h1 h2 h3 v, ((lt2_of h).h.set_ 0 u).set_ 1 v⟩
end
section
variable (a d g x o : Int) (A : Option Addr) (n c : Nat) (wh wo wr li tb fo sz hk ht : Int) (w : World)
set_option maxHeartbeats 4000000 in
set_option maxRecDepth 100000 in
theorem text_any : Calls Try.prog 21 #[fontV a d g x o A n c, styV wh wo wr li tb fo sz hk ht] w fun e w' => e = .returned (boxV (atV a sz) (atV d sz)) ∧ Below w.heap.size w w' := by
  have M := Lib.hid (show LT w w.heap.size (w.heap.size + 1) (fontC a d g x o A n c) (styC wh wo wr li tb fo sz hk ht) (w.heap.size + 1 + 1) 30 2 _ from ⟨(LS.new (w := w) (fc := fontC a d g x o A n c) (sc := styC wh wo wr li tb fo sz hk ht)).alloc (.cells (boxC 0 0) 30), Blk.has (new_res (w := w) (fontC a d g x o A n c) (styC wh wo wr li tb fo sz hk ht) (boxC 0 0) 30)⟩)
  have H1 := Lib.hid (fun W => up_any a d g x o A n c sz W)
  have H2 := Lib.hid (fun W => down_any a d g x o A n c sz W)
  generalize atV a sz = u at H1 ⊢
  generalize atV d sz = v at H2 ⊢
  go_enter Try.func21, Try.ntmps21
  go_wp2
  have C0 := M.out.drew.cells2
  go_region_held3 (fun w' => (w'.cell? ⟨w.heap.size, 0, none⟩ = some (.int .i64 a) ∧ w'.cell? ⟨w.heap.size, 1, none⟩ = some (.int .i64 d) ∧ w'.cell? ⟨w.heap.size, 2, none⟩ = some (.int .i64 g) ∧ w'.cell? ⟨w.heap.size, 3, none⟩ = some (.int .i64 x) ∧ w'.cell? ⟨w.heap.size, 4, none⟩ = some (.int .i64 o) ∧ w'.cell? ⟨w.heap.size, 5, none⟩ = some (.slice A n c) ∧ w'.cell? ⟨w.heap.size + 1, 0, none⟩ = some (.int .u8 wh) ∧ w'.cell? ⟨w.heap.size + 1, 1, none⟩ = some (.int .u8 wo) ∧ w'.cell? ⟨w.heap.size + 1, 2, none⟩ = some (.int .u8 wr) ∧ w'.cell? ⟨w.heap.size + 1, 3, none⟩ = some (.int .u8 li) ∧ w'.cell? ⟨w.heap.size + 1, 4, none⟩ = some (.int .i64 tb) ∧ w'.cell? ⟨w.heap.size + 1, 5, none⟩ = some (.int .i64 fo) ∧ w'.cell? ⟨w.heap.size + 1, 6, none⟩ = some (.int .i64 sz) ∧ w'.cell? ⟨w.heap.size + 1, 7, none⟩ = some (.int .u8 hk) ∧ w'.cell? ⟨w.heap.size + 1, 8, none⟩ = some (.int .i64 ht)) ∧ w'.cell? ⟨w.heap.size + 1 + 1, 0, none⟩ = some (wit w' ⟨w.heap.size + 1 + 1, 0, none⟩) ∧ w'.cell? ⟨w.heap.size + 1 + 1, 1, none⟩ = some (wit w' ⟨w.heap.size + 1 + 1, 1, none⟩) ∧ w'.frozen? ⟨w.heap.size + 1 + 1, 0, none⟩ = false ∧ w'.frozen? ⟨w.heap.size + 1 + 1, 1, none⟩ = false ∧ LT w w.heap.size (w.heap.size + 1) (fontC a d g x o A n c) (styC wh wo wr li tb fo sz hk ht) (w.heap.size + 1 + 1) 30 2 w')
    (first | exact C0 | exact lt2_keep (by assumption) (by assumption) | exact lt2_set (by assumption) (by omega) (by omega) (by omega) | go_keep)
    (first
    | (go_at_call 37; refine (H1.out _).mono ?_; rintro e w1 ⟨rfl, hb1⟩)
    | (go_at_call 38; refine (H2.out _).mono ?_; rintro e w2 ⟨rfl, hb2⟩; have T2 := (lt2_of (by assumption)).keep hb2))
  obtain ⟨r0, r1⟩ := T2.h.two (.int .i64 u) (.int .i64 v)
  have bel := (((T2.m.set_ (p := ⟨w.heap.size + 1 + 1, 0, none⟩) (by simp; omega) (by simp) (by simp; try omega) (.int .i64 u)).set_ (p := ⟨w.heap.size + 1 + 1, 1, none⟩) (by simp; omega) (by simp) (by simp; try omega) (.int .i64 v))).bel
  go_wp2
  exact bodyPost_ret (v := boxV u v) (by simp [results, Try.results21, go_sem, r0, r1]) rfl ⟨rfl, bel⟩
set_option maxHeartbeats 4000000 in
set_option maxRecDepth 100000 in
theorem rtext_any : Calls Try.prog 14 #[fontV a d g x o A n c, styV wh wo wr li tb fo sz hk ht] w fun e w' => e = .returned (boxV (atV a sz) (atV d sz)) ∧ Below w.heap.size w w' := by
  have M := Lib.hid (show LT w w.heap.size (w.heap.size + 1) (fontC a d g x o A n c) (styC wh wo wr li tb fo sz hk ht) (w.heap.size + 1 + 1) 30 2 _ from ⟨(LS.new (w := w) (fc := fontC a d g x o A n c) (sc := styC wh wo wr li tb fo sz hk ht)).alloc (.cells (boxC 0 0) 30), Blk.has (new_res (w := w) (fontC a d g x o A n c) (styC wh wo wr li tb fo sz hk ht) (boxC 0 0) 30)⟩)
  have H1 := Lib.hid (fun W => refAt_any a sz W)
  have H2 := Lib.hid (fun W => refAt_any d sz W)
  generalize atV a sz = u at H1 ⊢
  generalize atV d sz = v at H2 ⊢
  go_enter Try.func14, Try.ntmps14
  go_wp2
  have C0 := M.out.drew.cells2
  go_region_held3 (fun w' => (w'.cell? ⟨w.heap.size, 0, none⟩ = some (.int .i64 a) ∧ w'.cell? ⟨w.heap.size, 1, none⟩ = some (.int .i64 d) ∧ w'.cell? ⟨w.heap.size, 2, none⟩ = some (.int .i64 g) ∧ w'.cell? ⟨w.heap.size, 3, none⟩ = some (.int .i64 x) ∧ w'.cell? ⟨w.heap.size, 4, none⟩ = some (.int .i64 o) ∧ w'.cell? ⟨w.heap.size, 5, none⟩ = some (.slice A n c) ∧ w'.cell? ⟨w.heap.size + 1, 0, none⟩ = some (.int .u8 wh) ∧ w'.cell? ⟨w.heap.size + 1, 1, none⟩ = some (.int .u8 wo) ∧ w'.cell? ⟨w.heap.size + 1, 2, none⟩ = some (.int .u8 wr) ∧ w'.cell? ⟨w.heap.size + 1, 3, none⟩ = some (.int .u8 li) ∧ w'.cell? ⟨w.heap.size + 1, 4, none⟩ = some (.int .i64 tb) ∧ w'.cell? ⟨w.heap.size + 1, 5, none⟩ = some (.int .i64 fo) ∧ w'.cell? ⟨w.heap.size + 1, 6, none⟩ = some (.int .i64 sz) ∧ w'.cell? ⟨w.heap.size + 1, 7, none⟩ = some (.int .u8 hk) ∧ w'.cell? ⟨w.heap.size + 1, 8, none⟩ = some (.int .i64 ht)) ∧ w'.cell? ⟨w.heap.size + 1 + 1, 0, none⟩ = some (wit w' ⟨w.heap.size + 1 + 1, 0, none⟩) ∧ w'.cell? ⟨w.heap.size + 1 + 1, 1, none⟩ = some (wit w' ⟨w.heap.size + 1 + 1, 1, none⟩) ∧ w'.frozen? ⟨w.heap.size + 1 + 1, 0, none⟩ = false ∧ w'.frozen? ⟨w.heap.size + 1 + 1, 1, none⟩ = false ∧ LT w w.heap.size (w.heap.size + 1) (fontC a d g x o A n c) (styC wh wo wr li tb fo sz hk ht) (w.heap.size + 1 + 1) 30 2 w')
    (first | exact C0 | exact lt2_keep (by assumption) (by assumption) | exact lt2_set (by assumption) (by omega) (by omega) (by omega) | go_keep)
    (first
    | (go_at_call 17; ((with_reducible refine (H1.out _).mono ?_); rintro e w1 ⟨rfl, hb1⟩))
    | (go_at_call 17; ((with_reducible refine (H2.out _).mono ?_); rintro e w2 ⟨rfl, hb2⟩; have T2 := (lt2_of (by assumption)).keep hb2)))
  obtain ⟨r0, r1⟩ := T2.h.two (.int .i64 u) (.int .i64 v)
  have bel := (((T2.m.set_ (p := ⟨w.heap.size + 1 + 1, 0, none⟩) (by simp; omega) (by simp) (by simp; try omega) (.int .i64 u)).set_ (p := ⟨w.heap.size + 1 + 1, 1, none⟩) (by simp; omega) (by simp) (by simp; try omega) (.int .i64 v))).bel
  go_wp2
  exact bodyPost_ret (v := boxV u v) (by simp [results, Try.results14, go_sem, r0, r1]) rfl ⟨rfl, bel⟩
end
end Go.Proofs.Ytedpmehggpomnaa.Lead

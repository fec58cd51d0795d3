/- Chapter 18: Strut, walked. No condition but bounds. -/
import Derived.Test.YtedpmehggpomnaaLeadDBoxBad
import Derived.Test.YtedpmehggpomnaaLeadDStrutOk
namespace Go.Proofs.Ytedpmehggpomnaa.Lead
open Go.RowKit Go.Proofs.Ytedpmehggpomnaa.Unit Go.Proofs.Ytedpmehggpomnaa.Font
set_option linter.unusedVariables false

set_option maxHeartbeats 4000000 in
set_option maxRecDepth 100000 in
theorem Strut_bad (a d g x o : Int) (A : Option Addr) (n c : Nat) (wh wo wr li tb fo sz hk ht : Int) (rs : List Rng) (hn : (n : Int) ≤ 9223372036854775807) (w : World) (hr : RA w A n rs) (hw : ∀ y ∈ rs, wfA y) (e0 : Int) (he : ErrIs (chkV a d g x o rs) sz hk ht e0) :
    Calls Try.prog 9 #[fontV a d g x o A n c, styV wh wo wr li tb fo sz hk ht] w fun e w' => e = .returned (.tuple #[.agg #[.int .i64 0, .int .i64 0], .int .i64 e0]) ∧ Below w.heap.size w w' := by
  have M := Lib.hid (show LS w w.heap.size (w.heap.size + 1) (fontC a d g x o A n c) (styC wh wo wr li tb fo sz hk ht) (((w.alloc (.cells (fontC a d g x o A n c) 24)).alloc (.cells (styC wh wo wr li tb fo sz hk ht) 26)).alloc (.cells #[.int .i64 0, .int .i64 0] 30)) from LS.new.alloc _)
  have RB := Lib.hid (new_res (w := w) (fontC a d g x o A n c) (styC wh wo wr li tb fo sz hk ht) #[.int .i64 0, .int .i64 0] 30)
  have HT : Hid (∀ W clo, Below w.heap.size w W → Calls Try.prog 19 #[fontV a d g x o A n c, styV wh wo wr li tb fo sz hk ht, clo] W fun e w' => e = .returned (.tuple #[.agg #[.int .i64 0, .int .i64 0], .int .i64 e0]) ∧ Below W.heap.size W w') := fun W clo hb => told_box_bad a d g x o A n c wh wo wr li tb fo sz hk ht rs hn W (hr.keep hb) hw clo e0 he
  clear hr hw he
  go_enter Try.func9, Try.ntmps9
  go_wp2_with (go_at_call 19; refine (HT.out _ _ M.out.bel).mono ?_; rintro e w1 ⟨rfl, hb1⟩; have R1 := Lib.hid (RB.out.keep hb1); have M1 := Lib.hid (M.out.keep hb1); have r0 : w1.cell? ⟨w.heap.size + 1 + 1, 0, none⟩ = some (.int .i64 0) := R1.out.cell 0; have f0 := R1.out.frozen 0; have r1 : w1.cell? ⟨w.heap.size + 1 + 1, 1, none⟩ = some (.int .i64 0) := R1.out.cell 1; have f1 := R1.out.frozen 1)
  obtain ⟨t0, t1⟩ := (show Has _ _ _ 2 from Blk.has R1.out).two (.int .i64 0) (.int .i64 0)
  have bel := (((M1.out).set_ (p := ⟨w.heap.size + 1 + 1, 0, none⟩) (by first | omega | (simp; done) | (simp; omega)) (by first | omega | (simp; done) | (simp; omega)) (by first | omega | (simp; done) | (simp; omega)) (.int .i64 0)).set_ (p := ⟨w.heap.size + 1 + 1, 1, none⟩) (by first | omega | (simp; done) | (simp; omega)) (by first | omega | (simp; done) | (simp; omega)) (by first | omega | (simp; done) | (simp; omega)) (.int .i64 0)).bel
  exact bodyPost_ret (v := .tuple #[.agg #[.int .i64 0, .int .i64 0], .int .i64 e0]) (by simp [results, Try.results9, go_sem, t0, t1]) rfl ⟨rfl, bel⟩
set_option maxHeartbeats 4000000 in
set_option maxRecDepth 100000 in
theorem Strut_ok (a d g x o : Int) (A : Option Addr) (n c : Nat) (wh wo wr li tb fo sz hk ht : Int) (rs : List Rng) (hn : (n : Int) ≤ 9223372036854775807) (w : World) (hr : RA w A n rs) (hw : ∀ y ∈ rs, wfA y) (h : chkV a d g x o rs = 0) (gk : okS sz hk ht = true) :
    Calls Try.prog 9 #[fontV a d g x o A n c, styV wh wo wr li tb fo sz hk ht] w fun e w' => e = .returned (.tuple #[.agg #[.int .i64 (strA a d g sz hk ht), .int .i64 (strB a d g sz hk ht)], .int .i64 0]) ∧ Below w.heap.size w w' := by
  rcases okS_cases sz hk ht with ⟨_, _, _, b3, b4, b1, b2⟩ | ⟨q, _⟩
  · skip
    have M := Lib.hid (show LS w w.heap.size (w.heap.size + 1) (fontC a d g x o A n c) (styC wh wo wr li tb fo sz hk ht) (((w.alloc (.cells (fontC a d g x o A n c) 24)).alloc (.cells (styC wh wo wr li tb fo sz hk ht) 26)).alloc (.cells #[.int .i64 0, .int .i64 0] 30)) from LS.new.alloc _)
    have RB := Lib.hid (new_res (w := w) (fontC a d g x o A n c) (styC wh wo wr li tb fo sz hk ht) #[.int .i64 0, .int .i64 0] 30)
    have HT : Hid (Calls Try.prog 19 #[fontV a d g x o A n c, styV wh wo wr li tb fo sz hk ht, .func (.func 20) #[] #[.pointer (some ⟨w.heap.size, 0, none⟩), .pointer (some ⟨w.heap.size + 1, 0, none⟩)]] (((w.alloc (.cells (fontC a d g x o A n c) 24)).alloc (.cells (styC wh wo wr li tb fo sz hk ht) 26)).alloc (.cells #[.int .i64 0, .int .i64 0] 30)) fun e w' => e = .returned (.tuple #[.agg #[.int .i64 (strA a d g sz hk ht), .int .i64 (strB a d g sz hk ht)], .int .i64 0]) ∧ Below (((w.alloc (.cells (fontC a d g x o A n c) 24)).alloc (.cells (styC wh wo wr li tb fo sz hk ht) 26)).alloc (.cells #[.int .i64 0, .int .i64 0] 30)).heap.size (((w.alloc (.cells (fontC a d g x o A n c) 24)).alloc (.cells (styC wh wo wr li tb fo sz hk ht) 26)).alloc (.cells #[.int .i64 0, .int .i64 0] 30)) w') :=
      told_Strut_ok a d g x o A n c wh wo wr li tb fo sz hk ht rs hn _ (hr.keep M.out.bel) hw w.heap.size (w.heap.size + 1) (strA a d g sz hk ht) (strB a d g sz hk ht) h gk (fun W' hb => clStrut a d g x o A n c wh wo wr li tb fo sz hk ht W' _ _ (M.out.f.keep hb) (M.out.s.keep hb) b1 b2 b3 b4)
    generalize strB a d g sz hk ht = y1 at HT ⊢
    generalize strA a d g sz hk ht = y0 at HT ⊢
    clear hr hw h gk
    go_enter Try.func9, Try.ntmps9
    go_wp2_with (go_at_call 19; refine HT.out.mono ?_; rintro e w1 ⟨rfl, hb1⟩; have R1 := Lib.hid (RB.out.keep hb1); have M1 := Lib.hid (M.out.keep hb1); have r0 : w1.cell? ⟨w.heap.size + 1 + 1, 0, none⟩ = some (.int .i64 0) := R1.out.cell 0; have f0 := R1.out.frozen 0; have r1 : w1.cell? ⟨w.heap.size + 1 + 1, 1, none⟩ = some (.int .i64 0) := R1.out.cell 1; have f1 := R1.out.frozen 1)
    obtain ⟨t0, t1⟩ := (show Has _ _ _ 2 from Blk.has R1.out).two (.int .i64 y0) (.int .i64 y1)
    have bel := (((M1.out).set_ (p := ⟨w.heap.size + 1 + 1, 0, none⟩) (by first | omega | (simp; done) | (simp; omega)) (by first | omega | (simp; done) | (simp; omega)) (by first | omega | (simp; done) | (simp; omega)) (.int .i64 y0)).set_ (p := ⟨w.heap.size + 1 + 1, 1, none⟩) (by first | omega | (simp; done) | (simp; omega)) (by first | omega | (simp; done) | (simp; omega)) (by first | omega | (simp; done) | (simp; omega)) (.int .i64 y1)).bel
    exact bodyPost_ret (v := .tuple #[.agg #[.int .i64 y0, .int .i64 y1], .int .i64 0]) (by simp [results, Try.results9, go_sem, t0, t1]) rfl ⟨rfl, bel⟩
  · rw [q] at gk; exact absurd gk (by decide)
end Go.Proofs.Ytedpmehggpomnaa.Lead

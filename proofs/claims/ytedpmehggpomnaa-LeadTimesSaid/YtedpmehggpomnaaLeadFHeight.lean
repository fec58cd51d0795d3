/- Chapter 18: Height, walked. No condition but bounds. -/
import Derived.Test.YtedpmehggpomnaaLeadDIntBad
import Derived.Test.YtedpmehggpomnaaLeadDHeightOk
namespace Go.Proofs.Ytedpmehggpomnaa.Lead
open Go.RowKit Go.Proofs.Ytedpmehggpomnaa.Unit Go.Proofs.Ytedpmehggpomnaa.Font
set_option linter.unusedVariables false

set_option maxHeartbeats 4000000 in
set_option maxRecDepth 100000 in
theorem Height_bad (a d g x o : Int) (A : Option Addr) (n c : Nat) (wh wo wr li tb fo sz hk ht : Int) (rs : List Rng) (hn : (n : Int) ≤ 9223372036854775807) (w : World) (hr : RA w A n rs) (hw : ∀ y ∈ rs, wfA y) (e0 : Int) (he : ErrIs (chkV a d g x o rs) sz hk ht e0) :
    Calls Try.prog 11 #[fontV a d g x o A n c, styV wh wo wr li tb fo sz hk ht] w fun e w' => e = .returned (.tuple #[.int .i64 0, .int .i64 e0]) ∧ Below w.heap.size w w' := by
  have M := Lib.hid (show LS w w.heap.size (w.heap.size + 1) (fontC a d g x o A n c) (styC wh wo wr li tb fo sz hk ht) ((w.alloc (.cells (fontC a d g x o A n c) 24)).alloc (.cells (styC wh wo wr li tb fo sz hk ht) 26)) from LS.new)
  have HT : Hid (∀ W clo, Below w.heap.size w W → Calls Try.prog 25 #[fontV a d g x o A n c, styV wh wo wr li tb fo sz hk ht, clo] W fun e w' => e = .returned (.tuple #[.int .i64 0, .int .i64 e0]) ∧ Below W.heap.size W w') := fun W clo hb => told_int_bad a d g x o A n c wh wo wr li tb fo sz hk ht rs hn W (hr.keep hb) hw clo e0 he
  clear hr hw he
  go_enter Try.func11, Try.ntmps11
  go_wp2_with (go_at_call 25; refine (HT.out _ _ M.out.bel).mono ?_; rintro e w1 ⟨rfl, hb1⟩; have M1 := Lib.hid (M.out.keep hb1))
  go_ret2
  exact ⟨rfl, M1.out.bel⟩
set_option maxHeartbeats 4000000 in
set_option maxRecDepth 100000 in
theorem Height_ok (a d g x o : Int) (A : Option Addr) (n c : Nat) (wh wo wr li tb fo sz hk ht : Int) (rs : List Rng) (hn : (n : Int) ≤ 9223372036854775807) (w : World) (hr : RA w A n rs) (hw : ∀ y ∈ rs, wfA y) (h : chkV a d g x o rs = 0) (gk : okS sz hk ht = true) :
    Calls Try.prog 11 #[fontV a d g x o A n c, styV wh wo wr li tb fo sz hk ht] w fun e w' => e = .returned (.tuple #[.int .i64 (htV a d g sz hk ht), .int .i64 0]) ∧ Below w.heap.size w w' := by
  rcases okS_cases sz hk ht with ⟨_, _, _, b3, b4, b1, b2⟩ | ⟨q, _⟩
  · skip
    have M := Lib.hid (show LS w w.heap.size (w.heap.size + 1) (fontC a d g x o A n c) (styC wh wo wr li tb fo sz hk ht) ((w.alloc (.cells (fontC a d g x o A n c) 24)).alloc (.cells (styC wh wo wr li tb fo sz hk ht) 26)) from LS.new)
    have HT : Hid (Calls Try.prog 25 #[fontV a d g x o A n c, styV wh wo wr li tb fo sz hk ht, .func (.func 26) #[] #[.pointer (some ⟨w.heap.size, 0, none⟩), .pointer (some ⟨w.heap.size + 1, 0, none⟩)]] ((w.alloc (.cells (fontC a d g x o A n c) 24)).alloc (.cells (styC wh wo wr li tb fo sz hk ht) 26)) fun e w' => e = .returned (.tuple #[.int .i64 (htV a d g sz hk ht), .int .i64 0]) ∧ Below ((w.alloc (.cells (fontC a d g x o A n c) 24)).alloc (.cells (styC wh wo wr li tb fo sz hk ht) 26)).heap.size ((w.alloc (.cells (fontC a d g x o A n c) 24)).alloc (.cells (styC wh wo wr li tb fo sz hk ht) 26)) w') :=
      told_Height_ok a d g x o A n c wh wo wr li tb fo sz hk ht rs hn _ (hr.keep M.out.bel) hw w.heap.size (w.heap.size + 1) (htV a d g sz hk ht) h gk (fun W' hb => clHeight a d g x o A n c wh wo wr li tb fo sz hk ht W' _ _ (M.out.f.keep hb) (M.out.s.keep hb) b1 b2 b3 b4)
    generalize htV a d g sz hk ht = y0 at HT ⊢
    clear hr hw h gk
    go_enter Try.func11, Try.ntmps11
    go_wp2_with (go_at_call 25; refine HT.out.mono ?_; rintro e w1 ⟨rfl, hb1⟩; have M1 := Lib.hid (M.out.keep hb1))
    go_ret2
    exact ⟨rfl, M1.out.bel⟩
  · rw [q] at gk; exact absurd gk (by decide)
end Go.Proofs.Ytedpmehggpomnaa.Lead

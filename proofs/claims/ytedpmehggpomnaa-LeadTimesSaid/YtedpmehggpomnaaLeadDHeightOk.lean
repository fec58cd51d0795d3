/- Chapter 18: what is told of a style's line: Text, Height, Strut, Around, walked. No condition but bounds. -/
import Derived.Test.YtedpmehggpomnaaLeadD
namespace Go.Proofs.Ytedpmehggpomnaa.Lead
open Go.RowKit Go.Proofs.Ytedpmehggpomnaa.Unit Go.Proofs.Ytedpmehggpomnaa.Font
set_option linter.unusedVariables false

set_option maxHeartbeats 4000000 in
set_option maxRecDepth 100000 in
theorem told_Height_ok (a d g x o : Int) (A : Option Addr) (n c : Nat) (wh wo wr li tb fo sz hk ht : Int) (rs : List Rng) (hn : (n : Int) ≤ 9223372036854775807) (w : World) (hr : RA w A n rs) (hw : ∀ y ∈ rs, wfA y) (F0 S0 : Nat) (y0 : Int) (h : chkV a d g x o rs = 0) (gk : okS sz hk ht = true) (HC : Hid (∀ W, Below w.heap.size w W → Calls Try.prog 26 #[.pointer (some ⟨F0, 0, none⟩), .pointer (some ⟨S0, 0, none⟩)] W fun e w' => e = .returned (.int .i64 y0) ∧ Below W.heap.size W w')) :
    Calls Try.prog 25 #[fontV a d g x o A n c, styV wh wo wr li tb fo sz hk ht, .func (.func 26) #[] #[.pointer (some ⟨F0, 0, none⟩), .pointer (some ⟨S0, 0, none⟩)]] w fun e w' => e = .returned (.tuple #[.int .i64 y0, .int .i64 0]) ∧ Below w.heap.size w w' := by
  have M := Lib.hid (LS.new (w := w) (fc := (fontC a d g x o A n c)) (sc := (styC wh wo wr li tb fo sz hk ht)))
  have HK : Hid (∀ W, Below w.heap.size w W → Calls Try.prog 35 #[fontV a d g x o A n c] W fun e w' => e = .returned (.int .i64 0) ∧ Below W.heap.size W w') := fun W hb => by
    have := check_any a d g x o A n c rs hn W (hr.keep hb) hw
    rwa [h] at this
  rcases okS_cases sz hk ht with ⟨_, ha, hg, _⟩ | ⟨q, _⟩
  · have HA := Lib.hid ha
    clear hr hw h gk ha
    go_enter Try.func25, Try.ntmps25
    go_wp2_with (first
        | (go_at_call 35; refine (HK.out _ M.out.bel).mono ?_; rintro e w1 ⟨rfl, hb1⟩; have M1 := Lib.hid (M.out.keep hb1); obtain ⟨p0, p1, p2, p3, p4, p5, p6, p7, p8, p9, p10, p11, p12, p13, p14⟩ := M1.out.cells)
        | (go_at_call 36; refine (lmay_any _ 2 2 [sz, ht] _ rfl ?_ (by omega)).mono ?_; exact reads_at _ _ _ _ _ _ rfl rfl (by simp); rintro e w3 ⟨rfl, rfl⟩; rw [HA.out]; have M2 := Lib.hid (M1.out.alloc (.cells #[.int .i64 sz, .int .i64 ht] 2)); obtain ⟨s0, s1, s2, s3, s4, s5, s6, s7, s8, s9, s10, s11, s12, s13, s14⟩ := M2.out.cells)
        | (go_at_call 26; refine (HC.out _ M2.out.bel).mono ?_; rintro e w4 ⟨rfl, hb4⟩; have M4 := Lib.hid (M2.out.keep hb4)))
    go_ret2
    exact ⟨rfl, M4.out.bel⟩
  · rw [q] at gk; exact absurd gk (by decide)
end Go.Proofs.Ytedpmehggpomnaa.Lead

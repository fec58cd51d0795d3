/- Chapter 18: what is told of a style's line: Text, Height, Strut, Around, walked. No condition but bounds. -/
import Derived.Test.YtedpmehggpomnaaLeadD
namespace Go.Proofs.Ytedpmehggpomnaa.Lead
open Go.RowKit Go.Proofs.Ytedpmehggpomnaa.Unit Go.Proofs.Ytedpmehggpomnaa.Font
set_option linter.unusedVariables false

set_option maxHeartbeats 4000000 in
set_option maxRecDepth 100000 in
theorem told_box_bad (a d g x o : Int) (A : Option Addr) (n c : Nat) (wh wo wr li tb fo sz hk ht : Int) (rs : List Rng) (hn : (n : Int) ≤ 9223372036854775807) (w : World) (hr : RA w A n rs) (hw : ∀ y ∈ rs, wfA y) (clo : Value) (e0 : Int) (he : ErrIs (chkV a d g x o rs) sz hk ht e0) :
    Calls Try.prog 19 #[fontV a d g x o A n c, styV wh wo wr li tb fo sz hk ht, clo] w fun e w' => e = .returned (.tuple #[.agg #[.int .i64 0, .int .i64 0], .int .i64 e0]) ∧ Below w.heap.size w w' := by
  have M := Lib.hid ((LS.new (w := w) (fc := (fontC a d g x o A n c)) (sc := (styC wh wo wr li tb fo sz hk ht))).alloc (.cells #[.int .i64 0, .int .i64 0] 30))
  have RB := Lib.hid (new_res (w := w) (fontC a d g x o A n c) (styC wh wo wr li tb fo sz hk ht) #[.int .i64 0, .int .i64 0] 30)
  rcases he with ⟨h, rfl⟩ | ⟨h, gk, rfl⟩
  · have h50 : chkV a d g x o rs = 50 := (chk_two a d g x o rs).resolve_left h
    have HK : Hid (∀ W, Below w.heap.size w W → Calls Try.prog 35 #[fontV a d g x o A n c] W fun e w' => e = .returned (.int .i64 50) ∧ Below W.heap.size W w') := fun W hb => by
      have := check_any a d g x o A n c rs hn W (hr.keep hb) hw
      rwa [h50] at this
    clear hr hw h h50
    go_enter Try.func19, Try.ntmps19
    go_wp2_with (first
        | (go_at_call 35; refine (HK.out _ M.out.bel).mono ?_; rintro e w1 ⟨rfl, hb1⟩; have M1 := Lib.hid (M.out.keep hb1); obtain ⟨p0, p1, p2, p3, p4, p5, p6, p7, p8, p9, p10, p11, p12, p13, p14⟩ := M1.out.cells; have R1 := Lib.hid (RB.out.keep hb1); have r0 : w1.cell? ⟨w.heap.size + 1 + 1, 0, none⟩ = some (.int .i64 0) := (R1.out).cell 0; have f0 := (R1.out).frozen 0; have r1 : w1.cell? ⟨w.heap.size + 1 + 1, 1, none⟩ = some (.int .i64 0) := (R1.out).cell 1; have f1 := (R1.out).frozen 1))
    obtain ⟨t0, t1⟩ := (show Has _ _ _ 2 from Blk.has R1.out).two (.int .i64 0) (.int .i64 0)
    have bel := (((M1.out).set_ (p := ⟨w.heap.size + 1 + 1, 0, none⟩) (by first | omega | (simp; done) | (simp; omega)) (by first | omega | (simp; done) | (simp; omega)) (by first | omega | (simp; done) | (simp; omega)) (.int .i64 0)).set_ (p := ⟨w.heap.size + 1 + 1, 1, none⟩) (by first | omega | (simp; done) | (simp; omega)) (by first | omega | (simp; done) | (simp; omega)) (by first | omega | (simp; done) | (simp; omega)) (.int .i64 0)).bel
    exact bodyPost_ret (v := .tuple #[.agg #[.int .i64 0, .int .i64 0], .int .i64 50]) (by simp [results, Try.results19, go_sem, t0, t1]) rfl ⟨rfl, bel⟩
  · have HK : Hid (∀ W, Below w.heap.size w W → Calls Try.prog 35 #[fontV a d g x o A n c] W fun e w' => e = .returned (.int .i64 0) ∧ Below W.heap.size W w') := fun W hb => by
      have := check_any a d g x o A n c rs hn W (hr.keep hb) hw
      rwa [h] at this
    rcases okS_cases sz hk ht with ⟨q, _⟩ | ⟨_, ha | ⟨ha, hg⟩⟩
    · rw [q] at gk; exact absurd gk (by decide)
    all_goals
      have HA := Lib.hid ha
      clear hr hw h gk ha
      go_enter Try.func19, Try.ntmps19
      go_wp2_with (first
          | (go_at_call 35; refine (HK.out _ M.out.bel).mono ?_; rintro e w1 ⟨rfl, hb1⟩; have M1 := Lib.hid (M.out.keep hb1); obtain ⟨p0, p1, p2, p3, p4, p5, p6, p7, p8, p9, p10, p11, p12, p13, p14⟩ := M1.out.cells; have R1 := Lib.hid (RB.out.keep hb1); have r0 : w1.cell? ⟨w.heap.size + 1 + 1, 0, none⟩ = some (.int .i64 0) := (R1.out).cell 0; have f0 := (R1.out).frozen 0; have r1 : w1.cell? ⟨w.heap.size + 1 + 1, 1, none⟩ = some (.int .i64 0) := (R1.out).cell 1; have f1 := (R1.out).frozen 1)
          | (go_at_call 36; refine (lmay_any _ 2 2 [sz, ht] _ rfl ?_ (by omega)).mono ?_; exact reads_at _ _ _ _ _ _ rfl rfl (by simp); rintro e w3 ⟨rfl, rfl⟩; rw [HA.out]; have M2 := Lib.hid (M1.out.alloc (.cells #[.int .i64 sz, .int .i64 ht] 2)); obtain ⟨s0, s1, s2, s3, s4, s5, s6, s7, s8, s9, s10, s11, s12, s13, s14⟩ := M2.out.cells; have R2 := Lib.hid (R1.out.alloc (.cells #[.int .i64 sz, .int .i64 ht] 2)); have rr0 : (w1.alloc (.cells #[.int .i64 sz, .int .i64 ht] 2)).cell? ⟨w.heap.size + 1 + 1, 0, none⟩ = some (.int .i64 0) := (R2.out).cell 0; have ff0 := (R2.out).frozen 0; have rr1 : (w1.alloc (.cells #[.int .i64 sz, .int .i64 ht] 2)).cell? ⟨w.heap.size + 1 + 1, 1, none⟩ = some (.int .i64 0) := (R2.out).cell 1; have ff1 := (R2.out).frozen 1))
      obtain ⟨t0, t1⟩ := (show Has _ _ _ 2 from Blk.has R2.out).two (.int .i64 0) (.int .i64 0)
      have bel := (((M2.out).set_ (p := ⟨w.heap.size + 1 + 1, 0, none⟩) (by first | omega | (simp; done) | (simp; omega)) (by first | omega | (simp; done) | (simp; omega)) (by first | omega | (simp; done) | (simp; omega)) (.int .i64 0)).set_ (p := ⟨w.heap.size + 1 + 1, 1, none⟩) (by first | omega | (simp; done) | (simp; omega)) (by first | omega | (simp; done) | (simp; omega)) (by first | omega | (simp; done) | (simp; omega)) (.int .i64 0)).bel
      exact bodyPost_ret (v := .tuple #[.agg #[.int .i64 0, .int .i64 0], .int .i64 60]) (by simp [results, Try.results19, go_sem, t0, t1]) rfl ⟨rfl, bel⟩
end Go.Proofs.Ytedpmehggpomnaa.Lead

/- Chapter 18: the reference's Check and Strut, walked. No condition but bounds. -/
import Derived.Test.YtedpmehggpomnaaLeadD
namespace Go.Proofs.Ytedpmehggpomnaa.Lead
open Go.RowKit Go.Proofs.Ytedpmehggpomnaa.Unit Go.Proofs.Ytedpmehggpomnaa.Font
set_option linter.unusedVariables false

def erV (chk sz hk ht : Int) : Int := if chk = 0 then (if okS sz hk ht then 0 else 60) else 50
theorem er_bad {chk sz hk ht : Int} (h : erV chk sz hk ht ≠ 0) : ErrIs chk sz hk ht (erV chk sz hk ht) := by
  unfold erV at *
  by_cases g : chk = 0
  · cases e : okS sz hk ht with
    | true => simp [g, e] at h
    | false => exact .inr ⟨g, e, by simp [g]⟩
  · exact .inl ⟨g, by simp [g]⟩
theorem er_ok {chk sz hk ht : Int} (h : erV chk sz hk ht = 0) : chk = 0 ∧ okS sz hk ht = true := by
  unfold erV at *
  by_cases g : chk = 0
  · cases e : okS sz hk ht with
    | true => exact ⟨g, rfl⟩
    | false => simp [g, e] at h
  · simp [g] at h
abbrev cSM (n : Int) (b : Bool) : Prop := ∀ W, Calls Try.prog 31 #[.int .i64 n] W fun e w' => e = .returned (.bool b) ∧ W = w'
set_option maxHeartbeats 4000000 in
set_option maxRecDepth 100000 in
theorem rcheck18_any (a d g x o : Int) (A : Option Addr) (n c : Nat) (wh wo wr li tb fo sz hk ht : Int) (rs : List Rng) (hn : (n : Int) ≤ 9223372036854775807) (w : World) (hr : RA w A n rs) :
    Calls Try.prog 13 #[fontV a d g x o A n c, styV wh wo wr li tb fo sz hk ht] w fun e w' => e = .returned (.int .i64 (erV (chkV a d g x o rs) sz hk ht)) ∧ Below w.heap.size w w' := by
  have M := Lib.hid (LS.new (w := w) (fc := (fontC a d g x o A n c)) (sc := (styC wh wo wr li tb fo sz hk ht)))
  have HK : Hid (∀ W, Below w.heap.size w W → Calls Try.prog 30 #[fontV a d g x o A n c] W fun e w' => e = .returned (.int .i64 (chkV a d g x o rs)) ∧ Below W.heap.size W w') := fun W hb => rcheck_any a d g x o A n c rs hn W (hr.keep hb)
  have A1 : cSM sz (mayS sz) := fun W => rmay_any sz W
  have A2 : cSM ht (mayS ht) := fun W => rmay_any ht W
  have OK : okS sz hk ht = (mayS sz && mayS ht && decide (hk ≤ 2)) := by simp [okS, allS]
  clear hr
  rcases chk_two a d g x o rs with h | h
  · rw [h] at HK ⊢
    cases h1 : mayS sz with
    | false =>
      rw [h1] at A1
      have HA1 := Lib.hid A1
      have HE := Lib.hid (show erV 0 sz hk ht = 60 by simp [erV, OK, h1])
      clear A1 A2 OK h h1
      go_enter Try.func13, Try.ntmps13
      go_wp2_with (first
        | (go_at_call 30; refine (HK.out _ M.out.bel).mono ?_; rintro e w1 ⟨rfl, hb1⟩; have M1 := Lib.hid (M.out.keep hb1); obtain ⟨p0, p1, p2, p3, p4, p5, p6, p7, p8, p9, p10, p11, p12, p13, p14⟩ := M1.out.cells)
        | (go_at_call 31; first | ((with_reducible refine (HA1.out _).mono ?_); rintro e w2 ⟨rfl, rfl⟩)))
      go_ret
      exact ⟨ret_int HE.out.symm, M1.out.bel⟩
    | true =>
      cases h2 : mayS ht with
      | false =>
        rw [h1] at A1
        rw [h2] at A2
        have HA1 := Lib.hid A1
        have HA2 := Lib.hid A2
        have HE := Lib.hid (show erV 0 sz hk ht = 60 by simp [erV, OK, h2])
        clear A1 A2 OK h h1 h2
        go_enter Try.func13, Try.ntmps13
        go_wp2_with (first
          | (go_at_call 30; refine (HK.out _ M.out.bel).mono ?_; rintro e w1 ⟨rfl, hb1⟩; have M1 := Lib.hid (M.out.keep hb1); obtain ⟨p0, p1, p2, p3, p4, p5, p6, p7, p8, p9, p10, p11, p12, p13, p14⟩ := M1.out.cells)
          | (go_at_call 31; first | ((with_reducible refine (HA1.out _).mono ?_); rintro e w2 ⟨rfl, rfl⟩) | ((with_reducible refine (HA2.out _).mono ?_); rintro e w2 ⟨rfl, rfl⟩)))
        go_ret
        exact ⟨ret_int HE.out.symm, M1.out.bel⟩
      | true =>
        rw [h1] at A1
        rw [h2] at A2
        have HA1 := Lib.hid A1
        have HA2 := Lib.hid A2
        rcases Int.lt_or_le 2 hk with g2 | g2
        · have HE := Lib.hid (show erV 0 sz hk ht = 60 by simp [erV, OK, show ¬ hk ≤ 2 by omega])
          clear A1 A2 OK h h1 h2
          go_enter Try.func13, Try.ntmps13
          go_wp2_with (first
            | (go_at_call 30; refine (HK.out _ M.out.bel).mono ?_; rintro e w1 ⟨rfl, hb1⟩; have M1 := Lib.hid (M.out.keep hb1); obtain ⟨p0, p1, p2, p3, p4, p5, p6, p7, p8, p9, p10, p11, p12, p13, p14⟩ := M1.out.cells)
            | (go_at_call 31; first | ((with_reducible refine (HA1.out _).mono ?_); rintro e w2 ⟨rfl, rfl⟩) | ((with_reducible refine (HA2.out _).mono ?_); rintro e w2 ⟨rfl, rfl⟩)))
          go_ret
          exact ⟨ret_int HE.out.symm, M1.out.bel⟩
        · have HE := Lib.hid (show erV 0 sz hk ht = 0 by simp [erV, OK, h1, h2, g2])
          clear A1 A2 OK h h1 h2
          go_enter Try.func13, Try.ntmps13
          go_wp2_with (first
            | (go_at_call 30; refine (HK.out _ M.out.bel).mono ?_; rintro e w1 ⟨rfl, hb1⟩; have M1 := Lib.hid (M.out.keep hb1); obtain ⟨p0, p1, p2, p3, p4, p5, p6, p7, p8, p9, p10, p11, p12, p13, p14⟩ := M1.out.cells)
            | (go_at_call 31; first | ((with_reducible refine (HA1.out _).mono ?_); rintro e w2 ⟨rfl, rfl⟩) | ((with_reducible refine (HA2.out _).mono ?_); rintro e w2 ⟨rfl, rfl⟩)))
          go_ret
          exact ⟨ret_int HE.out.symm, M1.out.bel⟩
  · rw [h] at HK ⊢
    have HE := Lib.hid (show erV 50 sz hk ht = 50 by simp [erV])
    clear A1 A2 OK h
    go_enter Try.func13, Try.ntmps13
    go_wp2_with (first
      | (go_at_call 30; refine (HK.out _ M.out.bel).mono ?_; rintro e w1 ⟨rfl, hb1⟩; have M1 := Lib.hid (M.out.keep hb1); obtain ⟨p0, p1, p2, p3, p4, p5, p6, p7, p8, p9, p10, p11, p12, p13, p14⟩ := M1.out.cells))
    go_ret
    exact ⟨ret_int HE.out.symm, M1.out.bel⟩
set_option maxHeartbeats 8000000 in
set_option maxRecDepth 100000 in
theorem rstrut_any (a d g x o : Int) (A : Option Addr) (n c : Nat) (wh wo wr li tb fo sz hk ht : Int) (w : World) (h0 : 0 ≤ ht) (h1 : ht ≤ 1073741824) (s0 : 0 ≤ sz) (s1 : sz ≤ 1073741824) :
    Calls Try.prog 16 #[fontV a d g x o A n c, styV wh wo wr li tb fo sz hk ht] w fun e w' => e = .returned (boxV (strA a d g sz hk ht) (strB a d g sz hk ht)) ∧ Below w.heap.size w w' := by
  have M := Lib.hid ((LS.new (w := w) (fc := (fontC a d g x o A n c)) (sc := (styC wh wo wr li tb fo sz hk ht))).alloc (.cells #[.int .i64 0, .int .i64 0] 30))
  have RB := Lib.hid (new_res (w := w) (fontC a d g x o A n c) (styC wh wo wr li tb fo sz hk ht) #[.int .i64 0, .int .i64 0] 30)
  have H1 := Lib.hid (fun W => rtext_any a d g x o A n c wh wo wr li tb fo sz hk ht W)
  have H2 := Lib.hid (fun W => rheight_any a d g x o A n c wh wo wr li tb fo sz hk ht W h0 h1 s0 s1)
  obtain ⟨u0, u1⟩ := atL_rng a sz
  obtain ⟨v0, v1⟩ := atL_rng d sz
  obtain ⟨z0, z1⟩ := htV_rng a d g sz hk ht h0 h1 s0 s1
  unfold strA strB lowV
  generalize htV a d g sz hk ht = z at *
  generalize atV a sz = u at *
  generalize atV d sz = v at *
  obtain ⟨D, hD⟩ : ∃ D, z - u - v = D := ⟨_, rfl⟩
  obtain ⟨lo, hlo⟩ : ∃ lo, D / 2 = lo := ⟨_, rfl⟩
  obtain ⟨hi, hhi⟩ : ∃ hi, D - lo = hi := ⟨_, rfl⟩
  rw [hD, hlo, hhi]
  have C : Hid (∀ W, Calls Try.prog 33 #[.int .i64 D] W fun e w' => e = .returned (.tuple #[.int .i64 lo, .int .i64 hi]) ∧ Drawn W w') := fun W => by
    have := rhalves_any D (by omega) (by omega) W
    rwa [hlo, hhi] at this
  have e1 : IntKind.i64.wrap (z - u) = z - u := by rw [IntKind.wrap_i64]; omega
  have e2 : IntKind.i64.wrap (z - u - v) = D := by rw [hD, IntKind.wrap_i64]; omega
  have e3 : IntKind.i64.wrap (u + lo) = u + lo := by rw [IntKind.wrap_i64]; omega
  have e4 : IntKind.i64.wrap (v + hi) = v + hi := by rw [IntKind.wrap_i64]; omega
  clear hD hlo hhi
  go_enter Try.func16, Try.ntmps16
  go_wp2_with (go_at_call 14; refine (H1.out _).mono ?_; rintro e w1 ⟨rfl, hb1⟩)
  have C0 := (show LB w w.heap.size (w.heap.size + 1) (fontC a d g x o A n c) (styC wh wo wr li tb fo sz hk ht) w1.heap.size 30 (boxC u v) (w.heap.size + 1 + 1) 30 #[.int .i64 0, .int .i64 0] (w1.alloc (.cells (boxC u v) 30)) from ⟨(M.out.keep hb1).alloc _, Blk.new _ _ _, (RB.out.keep hb1).alloc _⟩).drew.cells
  go_region_held3 (fun w' => (w'.cell? ⟨w.heap.size, 0, none⟩ = some (.int .i64 a) ∧ w'.cell? ⟨w.heap.size, 1, none⟩ = some (.int .i64 d) ∧ w'.cell? ⟨w.heap.size, 2, none⟩ = some (.int .i64 g) ∧ w'.cell? ⟨w.heap.size, 3, none⟩ = some (.int .i64 x) ∧ w'.cell? ⟨w.heap.size, 4, none⟩ = some (.int .i64 o) ∧ w'.cell? ⟨w.heap.size, 5, none⟩ = some (.slice A n c) ∧ w'.cell? ⟨w.heap.size + 1, 0, none⟩ = some (.int .u8 wh) ∧ w'.cell? ⟨w.heap.size + 1, 1, none⟩ = some (.int .u8 wo) ∧ w'.cell? ⟨w.heap.size + 1, 2, none⟩ = some (.int .u8 wr) ∧ w'.cell? ⟨w.heap.size + 1, 3, none⟩ = some (.int .u8 li) ∧ w'.cell? ⟨w.heap.size + 1, 4, none⟩ = some (.int .i64 tb) ∧ w'.cell? ⟨w.heap.size + 1, 5, none⟩ = some (.int .i64 fo) ∧ w'.cell? ⟨w.heap.size + 1, 6, none⟩ = some (.int .i64 sz) ∧ w'.cell? ⟨w.heap.size + 1, 7, none⟩ = some (.int .u8 hk) ∧ w'.cell? ⟨w.heap.size + 1, 8, none⟩ = some (.int .i64 ht)) ∧ w'.cell? ⟨w1.heap.size, 0, none⟩ = some (.int .i64 u) ∧ w'.cell? ⟨w1.heap.size, 1, none⟩ = some (.int .i64 v) ∧ LB w w.heap.size (w.heap.size + 1) (fontC a d g x o A n c) (styC wh wo wr li tb fo sz hk ht) w1.heap.size 30 (boxC u v) (w.heap.size + 1 + 1) 30 #[.int .i64 0, .int .i64 0] w')
    (first | with_reducible exact C0 | with_reducible exact lb_keep (by assumption) (by assumption) | with_reducible exact lb_keep (bel_drewN (Below.refl _ _) _) (by assumption) | go_keep)
    (first
    | (go_at_call 15; refine (H2.out _).mono ?_; rintro e w2 ⟨rfl, hb2⟩)
    | (go_at_call 33; ((with_reducible refine (C.out _).mono ?_); rintro e w3 ⟨rfl, ⟨m3, rfl⟩⟩)))
  have X : LB w w.heap.size (w.heap.size + 1) (fontC a d g x o A n c) (styC wh wo wr li tb fo sz hk ht) w1.heap.size 30 (boxC u v) (w.heap.size + 1 + 1) 30 #[.int .i64 0, .int .i64 0] (w2.drewN m3) := lb_of (by assumption)
  clear C0
  obtain ⟨_, b0, b1, _⟩ := X.cells
  have r0 : (w2.drewN m3).cell? ⟨w.heap.size + 1 + 1, 0, none⟩ = some (.int .i64 0) := X.r.cell 0
  have r1 : (w2.drewN m3).cell? ⟨w.heap.size + 1 + 1, 1, none⟩ = some (.int .i64 0) := X.r.cell 1
  have f0 := X.r.frozen 0
  have f1 := X.r.frozen 1
  obtain ⟨t0, t1⟩ := (show Has (w2.drewN m3) (w.heap.size + 1 + 1) 30 2 from Blk.has X.r).two (.int .i64 (u + lo)) (.int .i64 (v + hi))
  have bel := (((X.m.set_ (p := ⟨w.heap.size + 1 + 1, 0, none⟩) (by first | omega | (simp; done) | (simp; omega)) (by first | omega | (simp; done) | (simp; omega)) (by first | omega | (simp; done) | (simp; omega)) (.int .i64 (u + lo))).set_ (p := ⟨w.heap.size + 1 + 1, 1, none⟩) (by first | omega | (simp; done) | (simp; omega)) (by first | omega | (simp; done) | (simp; omega)) (by first | omega | (simp; done) | (simp; omega)) (.int .i64 (v + hi)))).bel
  go_wp2
  exact bodyPost_ret (v := boxV (u + lo) (v + hi)) (by simp [results, Try.results16, go_sem, t0, t1]) rfl ⟨rfl, bel⟩
end Go.Proofs.Ytedpmehggpomnaa.Lead

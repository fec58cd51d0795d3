/- Chapter 18: LeadTimes, walked: it returns true, for every input. No condition. -/
import Derived.Test.YtedpmehggpomnaaLeadW
namespace Go.Proofs.Ytedpmehggpomnaa.Lead
open Go.RowKit Go.Proofs.Ytedpmehggpomnaa.Unit Go.Proofs.Ytedpmehggpomnaa.Font
set_option linter.unusedVariables false

/-- What lies in memory at the head of the rounds. -/
def TRel (w : World) (a d g x o : Int) (A : Option Addr) (n c : Nat) (wh wo wr li tb fo sz ht s2 : Int) (B : Nat) (i : Value) (W : World) : Prop :=
  (i = .int .i64 0 ∧ Hid (LS w w.heap.size (w.heap.size + 1) (fontC a d g x o A n c) (styC wh wo wr li tb fo sz 1 ht) W) ∧ Hid (Blk W B 46 #[.int .i64 0, .int .i64 0, .int .i64 0])) ∨ (i = .int .i64 1 ∧ Hid (LS w w.heap.size (w.heap.size + 1) (fontC a d g x o A n c) (styC wh wo wr li tb fo sz 1 0) W) ∧ Hid (Blk W B 46 #[.int .i64 0, .int .i64 0, .int .i64 0])) ∨
    (i = .int .i64 2 ∧ Hid (LS w w.heap.size (w.heap.size + 1) (fontC a d g x o A n c) (styC wh wo wr li tb fo sz 1 64) W) ∧ Hid (Blk W B 46 #[.int .i64 0, .int .i64 sz, .int .i64 0])) ∨ (i = .int .i64 3 ∧ Hid (LS w w.heap.size (w.heap.size + 1) (fontC a d g x o A n c) (styC wh wo wr li tb fo sz 1 128) W) ∧ Hid (Blk W B 46 #[.int .i64 0, .int .i64 sz, .int .i64 s2]))
theorem times_out (a d g x o : Int) (A : Option Addr) (n c : Nat) (wh wo wr li tb fo sz hk ht : Int) (hc : (n : Int) ≤ 9223372036854775807) (hn : 300 < n) (w : World) :
    Calls Try.prog 6 #[fontV a d g x o A n c, styV wh wo wr li tb fo sz hk ht] w fun e w' => e = .returned (.bool true) ∧ Below w.heap.size w w' := by
  have HE := Lib.hid (show smallB n = false from decide_eq_false (by omega))
  go_enter Try.func6, Try.ntmps6
  go_wp2_with (first
    | (go_at_call 7; refine (small_any _ _ _ _ _ _ _ _ hc _).mono ?_; rintro e w1 ⟨rfl, hb1⟩; rw [HE.out])
    | (go_at_call 8; refine (head_any _).mono ?_; rintro e w2 ⟨rfl, hb2⟩))
  go_ret
  exact ⟨rfl, bel_trans (bel_trans (bel_alloc (bel_alloc (Below.refl _ _) _) _) hb1) hb2⟩
set_option maxHeartbeats 16000000 in
set_option maxRecDepth 100000 in
theorem times_bad (a d g x o : Int) (A : Option Addr) (n c : Nat) (wh wo wr li tb fo sz hk ht : Int) (rs : List Rng) (hn : n ≤ 300) (w : World) (hr : RA w A n rs) (hw : ∀ y ∈ rs, wfA y) (e0 : Int) (he : erV (chkV a d g x o rs) sz 1 0 = e0) (h0 : e0 = 50 ∨ e0 = 60) :
    Calls Try.prog 6 #[fontV a d g x o A n c, styV wh wo wr li tb fo sz hk ht] w fun e w' => e = .returned (.bool true) ∧ Below w.heap.size w w' := by
  have HE := Lib.hid (show smallB n = true from decide_eq_true hn)
  have M0 := Lib.hid (LS.new (w := w) (fc := (fontC a d g x o A n c)) (sc := (styC wh wo wr li tb fo sz hk ht)))
  have eb : ErrIs (chkV a d g x o rs) sz 1 0 e0 := by
    have := er_bad (chk := chkV a d g x o rs) (sz := sz) (hk := 1) (ht := 0) (by omega)
    rwa [he] at this
  have H0 : Hid (∀ W, Below w.heap.size w W → Calls Try.prog 11 #[fontV a d g x o A n c, styV wh wo wr li tb fo sz 1 0] W fun e w' => e = .returned (.tuple #[.int .i64 0, .int .i64 e0]) ∧ Below W.heap.size W w') := fun W hb => Height_bad a d g x o A n c wh wo wr li tb fo sz 1 0 rs (by omega) W (hr.keep hb) hw e0 eb
  clear hr hw he eb
  rcases h0 with rfl | rfl
  all_goals
    go_enter Try.func6, Try.ntmps6
    go_wp2_with (first
    | (go_at_call 7; refine (small_any _ _ _ _ _ _ _ _ (by omega) _).mono ?_; rintro e w1 ⟨rfl, b1⟩; rw [HE.out]; have M1 := M0.out.keep b1; obtain ⟨i0, i1, i2, i3, i4, i5, i6, i7, i8, i9, i10, i11, i12, i13, i14⟩ := M1.cells; have f7 := M1.s.frozen 7; have M1s := Lib.hid (M1.put7 (by omega) (by omega) 1); have lt1 := M1.s.lt; clear M1)
    | (go_at_call 8; refine (head_any _).mono ?_; rintro e w7 ⟨rfl, b7⟩))
    have KB := Lib.hid (Blk.new (w1.setCell ⟨w.heap.size + 1, 7, none⟩ (.int .u8 1)) 46 #[.int .i64 0, .int .i64 0, .int .i64 0])
    have KM := Lib.hid (M1s.out.alloc (.cells #[.int .i64 0, .int .i64 0, .int .i64 0] 46))
    rw [World.size_setCell] at KB
    obtain ⟨B, hB⟩ : ∃ B, w1.heap.size = B := ⟨_, rfl⟩
    rw [hB] at KB lt1 ⊢
    go_loopw [6] (fun i wr' => i = .int .i64 0 ∧ Hid (LS w w.heap.size (w.heap.size + 1) (fontC a d g x o A n c) (styC wh wo wr li tb fo sz 1 ht) wr') ∧ Hid (Blk wr' B 46 #[.int .i64 0, .int .i64 0, .int .i64 0])) (fun _ _ => 0)
    case atStart => exact ⟨rfl, KM, KB⟩
    case round =>
      obtain ⟨rfl, LM, KM⟩ := hrel
      obtain ⟨i0, i1, i2, i3, i4, i5, i6, i7, i8, i9, i10, i11, i12, i13, i14⟩ := LM.out.cells
      have f8 := LM.out.s.frozen 8
      go_wp2_with (first
        | (go_at_call 11; (with_reducible refine (H0.out _ ((LM.out.put8 (by omega) (by omega) 0).bel)).mono ?_); rintro e w3 ⟨rfl, b3⟩; have M3 := Lib.hid ((LM.out.put8 (by omega) (by omega) 0).keep b3))
        | (go_at_call 8; refine (head_any _).mono ?_; rintro e w7 ⟨rfl, b7⟩))
      go_ret
      exact ⟨rfl, bel_trans M3.out.bel b7⟩
set_option maxHeartbeats 16000000 in
set_option maxRecDepth 100000 in
theorem times_ok (a d g x o : Int) (A : Option Addr) (n c : Nat) (wh wo wr li tb fo sz hk ht : Int) (rs : List Rng) (hn : n ≤ 300) (w : World) (hr : RA w A n rs) (hw : ∀ y ∈ rs, wfA y) (he : erV (chkV a d g x o rs) sz 1 0 = 0) :
    Calls Try.prog 6 #[fontV a d g x o A n c, styV wh wo wr li tb fo sz hk ht] w fun e w' => e = .returned (.bool true) ∧ Below w.heap.size w w' := by
  have HE := Lib.hid (show smallB n = true from decide_eq_true hn)
  have M0 := Lib.hid (LS.new (w := w) (fc := (fontC a d g x o A n c)) (sc := (styC wh wo wr li tb fo sz hk ht)))
  obtain ⟨ek, eo⟩ := er_ok he
  obtain ⟨_, _, _, b3, b4, _, _⟩ : okS sz 1 0 = true ∧ allS [sz, 0] = true ∧ (1 : Int) ≤ 2 ∧ 0 ≤ sz ∧ sz ≤ 1073741824 ∧ (0 : Int) ≤ 0 ∧ (0 : Int) ≤ 1073741824 := (okS_cases sz 1 0).resolve_right (fun h => by rw [h.1] at eo; exact absurd eo (by decide))
  have ok8 : ∀ h : Int, 0 ≤ h → h ≤ 1073741824 → okS sz 1 h = true := fun h h0 h1 => by simp [okS, allS, mayS, b3, b4, h0, h1]
  obtain ⟨s2, hs2⟩ : ∃ s, 2 * sz = s := ⟨_, rfl⟩
  have v0 : htV a d g sz 1 0 = 0 := by have := rnd_self 0 64 (by omega); simpa [htV] using this
  have v1 : htV a d g sz 1 64 = sz := by have := rnd_self sz 64 (by omega); rw [Int.mul_comm] at this; simpa [htV] using this
  have v2 : htV a d g sz 1 128 = s2 := by have := rnd_self s2 64 (by omega); rw [← hs2, show 2 * sz * 64 = 128 * sz by omega, hs2] at this; simpa [htV] using this
  have H0 : Hid (∀ W, Below w.heap.size w W → Calls Try.prog 11 #[fontV a d g x o A n c, styV wh wo wr li tb fo sz 1 0] W fun e w' => e = .returned (.tuple #[.int .i64 0, .int .i64 0]) ∧ Below W.heap.size W w') := fun W hb => by
    have := Height_ok a d g x o A n c wh wo wr li tb fo sz 1 0 rs (by omega) W (hr.keep hb) hw ek (ok8 0 (by omega) (by omega))
    rwa [v0] at this
  have H1 : Hid (∀ W, Below w.heap.size w W → Calls Try.prog 11 #[fontV a d g x o A n c, styV wh wo wr li tb fo sz 1 64] W fun e w' => e = .returned (.tuple #[.int .i64 sz, .int .i64 0]) ∧ Below W.heap.size W w') := fun W hb => by
    have := Height_ok a d g x o A n c wh wo wr li tb fo sz 1 64 rs (by omega) W (hr.keep hb) hw ek (ok8 64 (by omega) (by omega))
    rwa [v1] at this
  have H2 : Hid (∀ W, Below w.heap.size w W → Calls Try.prog 11 #[fontV a d g x o A n c, styV wh wo wr li tb fo sz 1 128] W fun e w' => e = .returned (.tuple #[.int .i64 s2, .int .i64 0]) ∧ Below W.heap.size W w') := fun W hb => by
    have := Height_ok a d g x o A n c wh wo wr li tb fo sz 1 128 rs (by omega) W (hr.keep hb) hw ek (ok8 128 (by omega) (by omega))
    rwa [v2] at this
  have HT : Hid (∀ W, Below w.heap.size w W → Calls Try.prog 10 #[fontV a d g x o A n c, styV wh wo wr li tb fo sz 1 128] W fun e w' => e = .returned (.tuple #[boxV (atV a sz) (atV d sz), .int .i64 0]) ∧ Below W.heap.size W w') := fun W hb => Text_ok a d g x o A n c wh wo wr li tb fo sz 1 128 rs (by omega) W (hr.keep hb) hw ek (ok8 128 (by omega) (by omega))
  have HR : Hid (∀ W, Below w.heap.size w W → Calls Try.prog 12 #[fontV a d g x o A n c, styV wh wo wr li tb fo sz 1 128] W fun e w' => e = .returned (.tuple #[.agg #[.int .i64 (atV a sz), .int .i64 (atV d sz), .int .i64 (atV x sz), .int .i64 sz, .int .i64 s2], .int .i64 0]) ∧ Below W.heap.size W w') := fun W hb => by
    have := Around_ok a d g x o A n c wh wo wr li tb fo sz 1 128 rs (by omega) W (hr.keep hb) hw ek (ok8 128 (by omega) (by omega))
    rwa [v2] at this
  clear v0 v1 v2 hr hw he ek eo ok8
  generalize atV a sz = u at *
  generalize atV d sz = v at *
  generalize atV x sz = xx at *
  have e1 : IntKind.i64.wrap (2 * sz) = s2 := by rw [IntKind.wrap_i64]; omega
  have q1 : (sz == sz) = true := by simp
  have q2 : (s2 == s2) = true := by simp
  have q3 : (u == u) = true := by simp
  have q4 : (v == v) = true := by simp
  clear hs2 b3 b4
  go_enter Try.func6, Try.ntmps6
  go_wp2_with (first
    | (go_at_call 7; refine (small_any _ _ _ _ _ _ _ _ (by omega) _).mono ?_; rintro e w1 ⟨rfl, b1⟩; rw [HE.out]; have M1 := M0.out.keep b1; obtain ⟨i0, i1, i2, i3, i4, i5, i6, i7, i8, i9, i10, i11, i12, i13, i14⟩ := M1.cells; have f7 := M1.s.frozen 7; have M1s := Lib.hid (M1.put7 (by omega) (by omega) 1); have lt1 := M1.s.lt; clear M1))
  have KB := Lib.hid (Blk.new (w1.setCell ⟨w.heap.size + 1, 7, none⟩ (.int .u8 1)) 46 #[.int .i64 0, .int .i64 0, .int .i64 0])
  have KM := Lib.hid (M1s.out.alloc (.cells #[.int .i64 0, .int .i64 0, .int .i64 0] 46))
  rw [World.size_setCell] at KB
  obtain ⟨B, hB⟩ : ∃ B, w1.heap.size = B := ⟨_, rfl⟩
  rw [hB] at KB lt1 ⊢
  go_loopw [6] (TRel w a d g x o A n c wh wo wr li tb fo sz ht s2 B) (fun i _ => (3 - intOf i).toNat)
  case atStart => exact .inl ⟨rfl, KM, KB⟩
  case round =>
    rcases hrel with ⟨rfl, LM, KM⟩ | ⟨rfl, LM, KM⟩ | ⟨rfl, LM, KM⟩ | ⟨rfl, LM, KM⟩
    · obtain ⟨i0, i1, i2, i3, i4, i5, i6, i7, i8, i9, i10, i11, i12, i13, i14⟩ := LM.out.cells
      have f8 := LM.out.s.frozen 8
      go_wp2_with (first
        | (go_at_call 11; (with_reducible refine (H0.out _ ((LM.out.put8 (by omega) (by omega) 0).bel)).mono ?_); rintro e w3 ⟨rfl, b3⟩; have M3 := Lib.hid ((LM.out.put8 (by omega) (by omega) 0).keep b3); have B3 := Lib.hid ((KM.out.far (p := ⟨w.heap.size + 1, 8, none⟩) (by simp; omega) (.int .i64 0)).keep b3); have y0 : w3.cell? ⟨B, 0, none⟩ = some (.int .i64 0) := B3.out.cell 0; have y1 := B3.out.frozen 0))
      go_roundw
      case rel => exact .inr (.inl ⟨rfl, Lib.hid (M3.out.set_ (p := ⟨B, 0, none⟩) (by simp; omega) (by simp; omega) (by simp; omega) _), Lib.hid (by have := B3.out.set_ 0 (.int .i64 0); simpa using this)⟩)
      case measure => simp [intOf]
    · obtain ⟨i0, i1, i2, i3, i4, i5, i6, i7, i8, i9, i10, i11, i12, i13, i14⟩ := LM.out.cells
      have f8 := LM.out.s.frozen 8
      go_wp2_with (first
        | (go_at_call 11; (with_reducible refine (H1.out _ ((LM.out.put8 (by omega) (by omega) 64).bel)).mono ?_); rintro e w3 ⟨rfl, b3⟩; have M3 := Lib.hid ((LM.out.put8 (by omega) (by omega) 64).keep b3); have B3 := Lib.hid ((KM.out.far (p := ⟨w.heap.size + 1, 8, none⟩) (by simp; omega) (.int .i64 64)).keep b3); have y0 : w3.cell? ⟨B, 1, none⟩ = some (.int .i64 0) := B3.out.cell 1; have y1 := B3.out.frozen 1))
      go_roundw
      case rel => exact .inr (.inr (.inl ⟨rfl, Lib.hid (M3.out.set_ (p := ⟨B, 1, none⟩) (by simp; omega) (by simp; omega) (by simp; omega) _), Lib.hid (by have := B3.out.set_ 1 (.int .i64 sz); simpa using this)⟩))
      case measure => simp [intOf]
    · obtain ⟨i0, i1, i2, i3, i4, i5, i6, i7, i8, i9, i10, i11, i12, i13, i14⟩ := LM.out.cells
      have f8 := LM.out.s.frozen 8
      go_wp2_with (first
        | (go_at_call 11; (with_reducible refine (H2.out _ ((LM.out.put8 (by omega) (by omega) 128).bel)).mono ?_); rintro e w3 ⟨rfl, b3⟩; have M3 := Lib.hid ((LM.out.put8 (by omega) (by omega) 128).keep b3); have B3 := Lib.hid ((KM.out.far (p := ⟨w.heap.size + 1, 8, none⟩) (by simp; omega) (.int .i64 128)).keep b3); have y0 : w3.cell? ⟨B, 2, none⟩ = some (.int .i64 0) := B3.out.cell 2; have y1 := B3.out.frozen 2))
      go_roundw
      case rel => exact .inr (.inr (.inr ⟨rfl, Lib.hid (M3.out.set_ (p := ⟨B, 2, none⟩) (by simp; omega) (by simp; omega) (by simp; omega) _), Lib.hid (by have := B3.out.set_ 2 (.int .i64 s2); simpa using this)⟩))
      case measure => simp [intOf]
    · obtain ⟨i0, i1, i2, i3, i4, i5, i6, i7, i8, i9, i10, i11, i12, i13, i14⟩ := LM.out.cells
      go_wp2_with (first
        | (go_at_call 10; (with_reducible refine (HT.out _ LM.out.bel).mono ?_); rintro e w4 ⟨rfl, b4⟩; have M4 := Lib.hid ((LM.out.keep b4).alloc (.cells #[.int .i64 u, .int .i64 v] 30)); have KT4 := Lib.hid (Blk.new w4 30 #[.int .i64 u, .int .i64 v]); have KB4 := Lib.hid ((KM.out.keep b4).alloc (.cells #[.int .i64 u, .int .i64 v] 30)); obtain ⟨j0, j1, j2, j3, j4, j5, j6, j7, j8, j9, j10, j11, j12, j13, j14⟩ := M4.out.cells)
        | (go_at_call 12; (with_reducible refine (HR.out _ M4.out.bel).mono ?_); rintro e w5 ⟨rfl, b5⟩; have M5 := Lib.hid ((M4.out.keep b5).alloc (.cells #[.int .i64 u, .int .i64 v, .int .i64 xx, .int .i64 sz, .int .i64 s2] 39)); have KT5 := (KT4.out.keep b5).alloc (.cells #[.int .i64 u, .int .i64 v, .int .i64 xx, .int .i64 sz, .int .i64 s2] 39); have KB5 := (KB4.out.keep b5).alloc (.cells #[.int .i64 u, .int .i64 v, .int .i64 xx, .int .i64 sz, .int .i64 s2] 39); have x0 : (w5.alloc (.cells #[.int .i64 u, .int .i64 v, .int .i64 xx, .int .i64 sz, .int .i64 s2] 39)).cell? ⟨w4.heap.size, 0, none⟩ = some (.int .i64 u) := KT5.cell 0; have x1 : (w5.alloc (.cells #[.int .i64 u, .int .i64 v, .int .i64 xx, .int .i64 sz, .int .i64 s2] 39)).cell? ⟨w4.heap.size, 1, none⟩ = some (.int .i64 v) := KT5.cell 1; have x2 : (w5.alloc (.cells #[.int .i64 u, .int .i64 v, .int .i64 xx, .int .i64 sz, .int .i64 s2] 39)).cell? ⟨B, 0, none⟩ = some (.int .i64 0) := KB5.cell 0; have x3 : (w5.alloc (.cells #[.int .i64 u, .int .i64 v, .int .i64 xx, .int .i64 sz, .int .i64 s2] 39)).cell? ⟨B, 1, none⟩ = some (.int .i64 sz) := KB5.cell 1; have x4 : (w5.alloc (.cells #[.int .i64 u, .int .i64 v, .int .i64 xx, .int .i64 sz, .int .i64 s2] 39)).cell? ⟨B, 2, none⟩ = some (.int .i64 s2) := KB5.cell 2; have x5 : (w5.alloc (.cells #[.int .i64 u, .int .i64 v, .int .i64 xx, .int .i64 sz, .int .i64 s2] 39)).cell? ⟨w.heap.size + 1, 6, none⟩ = some (.int .i64 sz) := M5.out.s.cell 6)
        | (go_at_call 8; refine (head_any _).mono ?_; rintro e w7 ⟨rfl, b7⟩))
      go_ret
      exact ⟨rfl, bel_trans M5.out.bel b7⟩
theorem LeadTimes_any (a d g x o : Int) (A : Option Addr) (n c : Nat) (wh wo wr li tb fo sz hk ht : Int) (xs : List (List Int)) (hl : xs.length = n) (hc : n ≤ c) (hm : c ≤ maxLen) (hw : ∀ y ∈ xs, wfR [.i32, .i32, .i64] y) (w : World) (hr : Reads w w.heap.size 3 A n (xs.flatMap (encR [.i32, .i32, .i64]))) :
    Calls Try.prog 6 #[fontV a d g x o A n c, styV wh wo wr li tb fo sz hk ht] w fun e w' => e = .returned (.bool true) ∧ Below w.heap.size w w' := by
  obtain ⟨rs, r1, r2, r3⟩ := rngL_of xs hw
  rw [r3] at hr
  unfold maxLen at hm
  rcases Nat.lt_or_ge 300 n with h | h
  · exact times_out a d g x o A n c wh wo wr li tb fo sz hk ht (by omega) h w
  · by_cases e : erV (chkV a d g x o rs) sz 1 0 = 0
    · exact times_ok a d g x o A n c wh wo wr li tb fo sz hk ht rs h w ⟨by omega, hr⟩ r2 e
    · exact times_bad a d g x o A n c wh wo wr li tb fo sz hk ht rs h w ⟨by omega, hr⟩ r2 _ rfl (by
        have := er_bad e
        rcases this with ⟨_, h⟩ | ⟨_, _, h⟩ <;> omega)
end Go.Proofs.Ytedpmehggpomnaa.Lead

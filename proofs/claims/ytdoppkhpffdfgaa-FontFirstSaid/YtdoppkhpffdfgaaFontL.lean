/- Chapter 5: FontTells and FontTexts, walked: they return true, for every input. No condition. -/
import Derived.Test.YtdoppkhpffdfgaaFontH
import Derived.DataShut
namespace Go.Proofs.Ytdoppkhpffdfgaa.Font
open Go.RowKit Go.Proofs.Ytdoppkhpffdfgaa.Unit
attribute [local go_sem] max2_int min2_int max_two min_two
set_option linter.unusedVariables false

/-- What lies in memory while a law asks. -/
structure LM (w : World) (a d g x o : Int) (A : Option Addr) (n c : Nat) (rs : List Rng) (W : World) : Prop where
  k : Blk W w.heap.size 24 (fontC a d g x o A n c)
  r : RA W A n rs
  bel : Below w.heap.size w W
section
variable {w W W' : World} {a d g x o : Int} {A : Option Addr} {n c : Nat} {rs : List Rng}
theorem LM.keep (m : LM w a d g x o A n c rs W) (hb : Below W.heap.size W W') : LM w a d g x o A n c rs W' := ⟨m.k.keep hb, m.r.keep hb, bel_trans m.bel hb⟩
theorem LM.drew (m : LM w a d g x o A n c rs W) : LM w a d g x o A n c rs W.drew := ⟨m.k.drew, ⟨m.r.1, m.r.2.drew⟩, m.bel.drew⟩
theorem LM.cells (m : LM w a d g x o A n c rs W) : W.cell? ⟨w.heap.size, 0, none⟩ = some (.int .i64 a) ∧ W.cell? ⟨w.heap.size, 1, none⟩ = some (.int .i64 d) ∧ W.cell? ⟨w.heap.size, 2, none⟩ = some (.int .i64 g) ∧ W.cell? ⟨w.heap.size, 3, none⟩ = some (.int .i64 x) ∧ W.cell? ⟨w.heap.size, 4, none⟩ = some (.int .i64 o) ∧ W.cell? ⟨w.heap.size, 5, none⟩ = some (.slice A n c) ∧ LM w a d g x o A n c rs W :=
  ⟨m.k.cell 0, m.k.cell 1, m.k.cell 2, m.k.cell 3, m.k.cell 4, m.k.cell 5, m⟩
theorem lm_of {p0 p1 p2 p3 p4 p5 : Prop} (h : p0 ∧ p1 ∧ p2 ∧ p3 ∧ p4 ∧ p5 ∧ LM w a d g x o A n c rs W) : LM w a d g x o A n c rs W := h.2.2.2.2.2.2
theorem LM.new (hr : RA w A n rs) : LM w a d g x o A n c rs (w.alloc (.cells (fontC a d g x o A n c) 24)) := ⟨Blk.new w _ _, hr.keep (bel_alloc (Below.refl _ _) _), bel_alloc (Below.refl _ _) _⟩
theorem held_keep {p0 p1 p2 p3 p4 p5 : Prop} (hb : Below W.heap.size W W') (h : p0 ∧ p1 ∧ p2 ∧ p3 ∧ p4 ∧ p5 ∧ LM w a d g x o A n c rs W) : W'.cell? ⟨w.heap.size, 0, none⟩ = some (.int .i64 a) ∧ W'.cell? ⟨w.heap.size, 1, none⟩ = some (.int .i64 d) ∧ W'.cell? ⟨w.heap.size, 2, none⟩ = some (.int .i64 g) ∧ W'.cell? ⟨w.heap.size, 3, none⟩ = some (.int .i64 x) ∧ W'.cell? ⟨w.heap.size, 4, none⟩ = some (.int .i64 o) ∧ W'.cell? ⟨w.heap.size, 5, none⟩ = some (.slice A n c) ∧ LM w a d g x o A n c rs W' :=
  ((lm_of h).keep hb).cells
end
def smallB (n : Nat) : Bool := decide (n ≤ 300)
set_option maxHeartbeats 1000000 in
theorem small_any (a d g x o : Int) (A : Option Addr) (n c : Nat) (hc : (n : Int) ≤ 9223372036854775807) (w : World) : Calls Try.prog 7 #[fontV a d g x o A n c] w fun e w' => e = .returned (.bool (smallB n)) ∧ Below w.heap.size w w' := by
  rcases Nat.lt_or_ge 300 n with h | h
  · have HE := Lib.hid (show smallB n = false from decide_eq_false (by omega))
    go_enter Try.func7, Try.ntmps7
    go_wp2
    go_ret
    exact ⟨ret_bool (by rw [HE.out]; first | done | (simp; done) | (simp; omega)), bel_alloc (Below.refl _ _) _⟩
  · have HE := Lib.hid (show smallB n = true from decide_eq_true h)
    go_enter Try.func7, Try.ntmps7
    go_wp2
    go_ret
    exact ⟨ret_bool (by rw [HE.out]; first | done | (simp; done) | (simp; omega)), bel_alloc (Below.refl _ _) _⟩

set_option maxHeartbeats 4000000 in
theorem tells_out (a d g x o : Int) (A : Option Addr) (n c : Nat) (size r : Int) (hc : (n : Int) ≤ 9223372036854775807) (hn : 300 < n) (w : World) :
    Calls Try.prog 3 #[fontV a d g x o A n c, .int .i64 size, .int .i32 r] w fun e w' => e = .returned (.bool true) ∧ Below w.heap.size w w' := by
  have HE := Lib.hid (show smallB n = false from decide_eq_false (by omega))
  go_enter Try.func3, Try.ntmps3
  go_wp2_with (first
    | (go_at_call 7; refine (small_any _ _ _ _ _ _ _ _ hc _).mono ?_; rintro e w1 ⟨rfl, hb1⟩; rw [HE.out])
    | (go_at_call 8; refine (head_any _).mono ?_; rintro e w2 ⟨rfl, hb2⟩))
  go_ret
  exact ⟨rfl, bel_trans (bel_trans (bel_alloc (Below.refl _ _) _) hb1) hb2⟩
set_option maxHeartbeats 16000000 in
set_option maxRecDepth 100000 in
theorem tells_in (a d g x o : Int) (A : Option Addr) (n c : Nat) (rs : List Rng) (size r : Int) (hn : n ≤ 300) (w : World) (hr : RA w A n rs) (hw : ∀ y ∈ rs, wfA y) :
    Calls Try.prog 3 #[fontV a d g x o A n c, .int .i64 size, .int .i32 r] w fun e w' => e = .returned (.bool true) ∧ Below w.heap.size w w' := by
  have HE := Lib.hid (show smallB n = true from decide_eq_true hn)
  have H1 : Hid (∀ W, LM w a d g x o A n c rs W → Calls Try.prog 9 #[fontV a d g x o A n c] W fun e w' => e = .returned (.int .i64 (chkV a d g x o rs)) ∧ Below W.heap.size W w') := fun W m => check_any a d g x o A n c rs (by omega) W m.r hw
  have H2 : Hid (∀ W, LM w a d g x o A n c rs W → Calls Try.prog 10 #[fontV a d g x o A n c] W fun e w' => e = .returned (.int .i64 (chkV a d g x o rs)) ∧ Below W.heap.size W w') := fun W m => rcheck_any a d g x o A n c rs (by omega) W m.r
  have H3 : Hid (∀ W, LM w a d g x o A n c rs W → Calls Try.prog 11 #[fontV a d g x o A n c, .int .i64 size, .int .i32 r] W fun e w' => e = .returned (.int .i64 (atV (advOf rs o r) size)) ∧ Below W.heap.size W w') := fun W m => adv_any a d g x o A n c rs size r (by omega) W m.r
  have H4 : Hid (∀ W, LM w a d g x o A n c rs W → Calls Try.prog 12 #[fontV a d g x o A n c, .int .i64 size, .int .i32 r] W fun e w' => e = .returned (.int .i64 (atV (advOf rs o r) size)) ∧ Below W.heap.size W w') := fun W m => radv_any a d g x o A n c rs size r (by omega) W m.r
  have HN := Lib.hid (LM.new (a := a) (d := d) (g := g) (x := x) (o := o) (c := c) hr)
  generalize chkV a d g x o rs = v1 at H1 H2
  generalize atV (advOf rs o r) size = v2 at H3 H4
  have q1 : (v1 == v1) = true := by simp
  have q2 : (v2 == v2) = true := by simp
  have q3 : (atV a size == atV a size) = true := by simp
  have q4 : (atV d size == atV d size) = true := by simp
  have q5 : (atV g size == atV g size) = true := by simp
  have q6 : (atV x size == atV x size) = true := by simp
  clear hr hw
  go_enter Try.func3, Try.ntmps3
  go_wp2_with (go_at_call 7; refine (small_any _ _ _ _ _ _ _ _ (by omega) _).mono ?_; rintro e w1 ⟨rfl, hb1⟩; rw [HE.out])
  have C0 := (HN.out.keep hb1).drew.cells
  go_region_held3 (fun w' => w'.cell? ⟨w.heap.size, 0, none⟩ = some (.int .i64 a) ∧ w'.cell? ⟨w.heap.size, 1, none⟩ = some (.int .i64 d) ∧ w'.cell? ⟨w.heap.size, 2, none⟩ = some (.int .i64 g) ∧ w'.cell? ⟨w.heap.size, 3, none⟩ = some (.int .i64 x) ∧ w'.cell? ⟨w.heap.size, 4, none⟩ = some (.int .i64 o) ∧ w'.cell? ⟨w.heap.size, 5, none⟩ = some (.slice A n c) ∧ LM w a d g x o A n c rs w')
    (first | exact C0 | exact held_keep (by assumption) (by assumption) | go_keep)
    (first
    | (go_at_call 9; refine (H1.out _ (lm_of (by assumption))).mono ?_; rintro e v1 ⟨rfl, hb2⟩)
    | (go_at_call 10; refine (H2.out _ (lm_of (by assumption))).mono ?_; rintro e v1 ⟨rfl, hb2⟩)
    | (go_at_call 11; refine (H3.out _ (lm_of (by assumption))).mono ?_; rintro e v1 ⟨rfl, hb2⟩)
    | (go_at_call 12; refine (H4.out _ (lm_of (by assumption))).mono ?_; rintro e v1 ⟨rfl, hb2⟩)
    | (go_at_call 13; refine (up_any _ _ _ _ _ _ _ _ _ _).mono ?_; rintro e v1 ⟨rfl, hb2⟩)
    | (go_at_call 15; refine (down_any _ _ _ _ _ _ _ _ _ _).mono ?_; rintro e v1 ⟨rfl, hb2⟩)
    | (go_at_call 16; refine (gap_any _ _ _ _ _ _ _ _ _ _).mono ?_; rintro e v1 ⟨rfl, hb2⟩)
    | (go_at_call 17; refine (x_any _ _ _ _ _ _ _ _ _ _).mono ?_; rintro e v1 ⟨rfl, hb2⟩)
    | (go_at_call 14; refine (refAt_any _ _ _).mono ?_; rintro e v1 ⟨rfl, hb2⟩)
    | (go_at_call 8; refine (head_any _).mono ?_; rintro e v1 ⟨rfl, hb2⟩))
  go_wp2
  go_ret
  exact ⟨rfl, (lm_of (by assumption)).bel⟩

theorem rng_of (xs : List (List Int)) (h : ∀ x ∈ xs, wfR [.i32, .i32, .i64] x) : ∃ rs : List Rng, rs.length = xs.length ∧ (∀ y ∈ rs, wfA y) ∧ xs.flatMap (encR [.i32, .i32, .i64]) = rs.flatMap encA := by
  induction xs with
  | nil => exact ⟨[], rfl, by simp, rfl⟩
  | cons x xs ih =>
    obtain ⟨rs, h1, h2, h3⟩ := ih (fun y hy => h y (by simp [hy]))
    obtain ⟨hl, hw⟩ := h x (by simp)
    match x, hl with
    | [f, t, v], _ =>
      refine ⟨(f, t, v) :: rs, by simp [h1], fun y hy => ?_, ?_⟩
      · rcases List.mem_cons.1 hy with rfl | hy
        · exact ⟨hw 0 _ _ rfl rfl, hw 1 _ _ rfl rfl, hw 2 _ _ rfl rfl⟩
        · exact h2 y hy
      · rw [List.flatMap_cons, List.flatMap_cons, h3]
        rfl
theorem FontTells_any (a d g x o : Int) (A : Option Addr) (n c : Nat) (xs : List (List Int)) (size r : Int) (hl : xs.length = n) (hc : n ≤ c) (hm : c ≤ maxLen) (hw : ∀ y ∈ xs, wfR [.i32, .i32, .i64] y) (w : World) (hr : Reads w w.heap.size 3 A n (xs.flatMap (encR [.i32, .i32, .i64]))) :
    Calls Try.prog 3 #[fontV a d g x o A n c, .int .i64 size, .int .i32 r] w fun e w' => e = .returned (.bool true) ∧ Below w.heap.size w w' := by
  obtain ⟨rs, h1, h2, h3⟩ := rng_of xs hw
  rw [h3] at hr
  unfold maxLen at hm
  rcases Nat.lt_or_ge 300 n with h | h
  · exact tells_out a d g x o A n c size r (by omega) h w
  · exact tells_in a d g x o A n c rs size r h w ⟨by omega, hr⟩ h2
end Go.Proofs.Ytdoppkhpffdfgaa.Font

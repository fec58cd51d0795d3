/- Chapter 5: FontGrows, walked: it returns true, for every input. No condition. -/
import Derived.Test.YtdoppkhpffdfgaaFontL
namespace Go.Proofs.Ytdoppkhpffdfgaa.Font
open Go.RowKit Go.Proofs.Ytdoppkhpffdfgaa.Unit
set_option linter.unusedVariables false

def mxI (x y : Int) : Int := if x < y then y else x
def mnI (x y : Int) : Int := if y < x then y else x
theorem max2_mx (k k' : IntKind) (x y : Int) : Builtin.max2 (.int k x) (.int k' y) = pure (.int k (mxI x y)) := by rw [max2_int]; rfl
theorem min2_mn (k k' : IntKind) (x y : Int) : Builtin.min2 (.int k x) (.int k' y) = pure (.int k (mnI x y)) := by rw [min2_int]; rfl
attribute [local go_sem] max2_mx min2_mn max_two min_two
theorem atV_mono (n X Y : Int) (h0 : 0 ≤ X) (h1 : X ≤ Y) (h2 : Y ≤ 1073741824) : atV n X ≤ atV n Y := by
  cases e : mayF n with
  | false => rw [atV_out (.inl e), atV_out (.inl e)]; exact Int.le_refl 0
  | true =>
    rw [atV_in e h0 (by omega), atV_in e (by omega) h2]
    obtain ⟨n0, n1⟩ := mayF_parts e
    exact rnd_mono _ _ 1024 (by omega) (Int.mul_le_mul_of_nonneg_left h1 n0)
theorem atV_self {n : Int} (e : mayF n = true) : atV n 1024 = n := by
  rw [atV_in e (by omega) (by omega)]
  exact rnd_self _ _ (by omega)
theorem atV_zero (n : Int) : atV n 0 = 0 := by
  cases e : mayF n with
  | false => exact atV_out (.inl e)
  | true =>
    rw [atV_in e (by omega) (by omega), Int.mul_zero]
    have := rnd_self 0 1024 (by omega)
    simpa using this
theorem chk_parts {a d g x o : Int} {rs : List Rng} (h : chkV a d g x o rs = 0) : mayF a = true ∧ mayF d = true ∧ mayF g = true ∧ mayF x = true ∧ mayF o = true ∧ chainB 0 rs = true := by
  unfold chkV chkB at h
  cases e1 : allF [a, d, g, x, o] <;> cases e2 : chainB 0 rs <;> rw [e1, e2] at h <;> simp at h
  simp only [allF, List.all_cons, List.all_nil, Bool.and_true, Bool.and_eq_true] at e1
  exact ⟨e1.1, e1.2.1, e1.2.2.1, e1.2.2.2.1, e1.2.2.2.2, rfl⟩
abbrev cAdv (w : World) (a d g x o : Int) (A : Option Addr) (n c : Nat) (rs : List Rng) (s r v : Int) : Prop := ∀ W, LM w a d g x o A n c rs W → Calls Try.prog 11 #[fontV a d g x o A n c, .int .i64 s, .int .i32 r] W fun e w' => e = .returned (.int .i64 v) ∧ Below W.heap.size W w'
abbrev cUp (a d g x o : Int) (A : Option Addr) (n c : Nat) (s v : Int) : Prop := ∀ W, Calls Try.prog 13 #[fontV a d g x o A n c, .int .i64 s] W fun e w' => e = .returned (.int .i64 v) ∧ Below W.heap.size W w'
abbrev cDown (a d g x o : Int) (A : Option Addr) (n c : Nat) (s v : Int) : Prop := ∀ W, Calls Try.prog 15 #[fontV a d g x o A n c, .int .i64 s] W fun e w' => e = .returned (.int .i64 v) ∧ Below W.heap.size W w'
abbrev cGap (a d g x o : Int) (A : Option Addr) (n c : Nat) (s v : Int) : Prop := ∀ W, Calls Try.prog 16 #[fontV a d g x o A n c, .int .i64 s] W fun e w' => e = .returned (.int .i64 v) ∧ Below W.heap.size W w'
abbrev cX (a d g x o : Int) (A : Option Addr) (n c : Nat) (s v : Int) : Prop := ∀ W, Calls Try.prog 17 #[fontV a d g x o A n c, .int .i64 s] W fun e w' => e = .returned (.int .i64 v) ∧ Below W.heap.size W w'

theorem held_drew {w W : World} {a d g x o : Int} {A : Option Addr} {n c : Nat} {rs : List Rng} {p0 p1 p2 p3 p4 p5 : Prop} (h : p0 ∧ p1 ∧ p2 ∧ p3 ∧ p4 ∧ p5 ∧ LM w a d g x o A n c rs W) : W.drew.cell? ⟨w.heap.size, 0, none⟩ = some (.int .i64 a) ∧ W.drew.cell? ⟨w.heap.size, 1, none⟩ = some (.int .i64 d) ∧ W.drew.cell? ⟨w.heap.size, 2, none⟩ = some (.int .i64 g) ∧ W.drew.cell? ⟨w.heap.size, 3, none⟩ = some (.int .i64 x) ∧ W.drew.cell? ⟨w.heap.size, 4, none⟩ = some (.int .i64 o) ∧ W.drew.cell? ⟨w.heap.size, 5, none⟩ = some (.slice A n c) ∧ LM w a d g x o A n c rs W.drew :=
  (lm_of h).drew.cells
set_option maxHeartbeats 4000000 in
theorem grows_out (a d g x o : Int) (A : Option Addr) (n c : Nat) (rs : List Rng) (p q : Int) (hc : (n : Int) ≤ 9223372036854775807) (w : World) (hr : RA w A n rs) (hw : ∀ y ∈ rs, wfA y) (h : 300 < n ∨ (n ≤ 300 ∧ chkV a d g x o rs ≠ 0)) :
    Calls Try.prog 5 #[fontV a d g x o A n c, .int .i64 p, .int .i64 q] w fun e w' => e = .returned (.bool true) ∧ Below w.heap.size w w' := by
  rcases h with hn | ⟨hn, h⟩
  · have HE := Lib.hid (show smallB n = false from decide_eq_false (by omega))
    clear hr hw
    go_enter Try.func5, Try.ntmps5
    go_wp2_with (first
      | (go_at_call 7; refine (small_any _ _ _ _ _ _ _ _ hc _).mono ?_; rintro e w1 ⟨rfl, hb1⟩; rw [HE.out])
      | (go_at_call 8; refine (head_any _).mono ?_; rintro e w2 ⟨rfl, hb2⟩))
    go_ret
    exact ⟨rfl, bel_trans (bel_trans (bel_alloc (Below.refl _ _) _) hb1) hb2⟩
  · have HE := Lib.hid (show smallB n = true from decide_eq_true hn)
    have e50 : chkV a d g x o rs = 50 := by unfold chkV at h ⊢; split <;> simp_all
    have HN := Lib.hid (LM.new (a := a) (d := d) (g := g) (x := x) (o := o) (c := c) hr)
    have H1 : Hid (∀ W, LM w a d g x o A n c rs W → Calls Try.prog 9 #[fontV a d g x o A n c] W fun e w' => e = .returned (.int .i64 50) ∧ Below W.heap.size W w') := fun W m => by
      have := check_any a d g x o A n c rs (by omega) W m.r hw
      rwa [e50] at this
    clear hr hw h e50
    go_enter Try.func5, Try.ntmps5
    go_wp2_with (first
      | (go_at_call 7; refine (small_any _ _ _ _ _ _ _ _ hc _).mono ?_; rintro e w1 ⟨rfl, hb1⟩; rw [HE.out]; obtain ⟨p0, p1, p2, p3, p4, p5, _⟩ := (HN.out.keep hb1).cells)
      | (go_at_call 9; refine (H1.out _ (HN.out.keep hb1)).mono ?_; rintro e w3 ⟨rfl, hb3⟩)
      | (go_at_call 8; refine (head_any _).mono ?_; rintro e w2 ⟨rfl, hb2⟩))
    go_ret
    exact ⟨rfl, bel_trans (bel_trans (bel_trans (bel_alloc (Below.refl _ _) _) hb1) hb3) hb2⟩
set_option maxHeartbeats 16000000 in
set_option maxRecDepth 100000 in
theorem grows_in (a d g x o : Int) (A : Option Addr) (n c : Nat) (rs : List Rng) (p q : Int) (hn : n ≤ 300) (w : World) (hr : RA w A n rs) (hw : ∀ y ∈ rs, wfA y) (hk : chkV a d g x o rs = 0) :
    Calls Try.prog 5 #[fontV a d g x o A n c, .int .i64 p, .int .i64 q] w fun e w' => e = .returned (.bool true) ∧ Below w.heap.size w w' := by
  have HE := Lib.hid (show smallB n = true from decide_eq_true hn)
  have HN := Lib.hid (LM.new (a := a) (d := d) (g := g) (x := x) (o := o) (c := c) hr)
  have HC : Hid (∀ W, LM w a d g x o A n c rs W → Calls Try.prog 9 #[fontV a d g x o A n c] W fun e w' => e = .returned (.int .i64 0) ∧ Below W.heap.size W w') := fun W m => by
    have := check_any a d g x o A n c rs (by omega) W m.r hw
    rwa [hk] at this
  obtain ⟨m1, m2, m3, m4, m5, _⟩ := chk_parts hk
  obtain ⟨X, hX⟩ : ∃ X, mnI (mxI (mnI p q) 0) 1073741824 = X := ⟨_, rfl⟩
  obtain ⟨Y, hY⟩ : ∃ Y, mnI (mxI (mxI p q) 0) 1073741824 = Y := ⟨_, rfl⟩
  have hXY : 0 ≤ X ∧ X ≤ Y ∧ Y ≤ 1073741824 := by
    rw [← hX, ← hY]
    unfold mnI mxI
    repeat' split
    all_goals omega
  obtain ⟨x0, x1, x2⟩ := hXY
  have hA : ∀ r : Int, ∃ u v : Int, 0 ≤ u ∧ u ≤ v ∧ v ≤ 8589934592 ∧ Hid (cAdv w a d g x o A n c rs X r u) ∧ Hid (cAdv w a d g x o A n c rs Y r v) ∧ Hid (cAdv w a d g x o A n c rs 0 r 0) := fun r =>
    ⟨_, _, (atV_rng _ _).1, atV_mono (advOf rs o r) X Y x0 x1 x2, (atV_rng _ _).2, fun W m => adv_any a d g x o A n c rs X r (by omega) W m.r, fun W m => adv_any a d g x o A n c rs Y r (by omega) W m.r, fun W m => by
      have := adv_any a d g x o A n c rs 0 r (by omega) W m.r
      rwa [atV_zero] at this⟩
  obtain ⟨z, u2, z0, z1, z2, U1, U2⟩ : ∃ z u2 : Int, 0 ≤ z ∧ z ≤ 8589934592 ∧ u2 ≤ z ∧ Hid (cUp a d g x o A n c Y z) ∧ Hid (cUp a d g x o A n c X u2) :=
    ⟨_, _, (atV_rng a Y).1, (atV_rng a Y).2, atV_mono a X Y x0 x1 x2, fun W => up_any a d g x o A n c Y W, fun W => up_any a d g x o A n c X W⟩
  obtain ⟨d1, d2, dd, D1, D2⟩ : ∃ d1 d2 : Int, d1 ≤ d2 ∧ Hid (cDown a d g x o A n c X d1) ∧ Hid (cDown a d g x o A n c Y d2) :=
    ⟨_, _, atV_mono d X Y x0 x1 x2, fun W => down_any a d g x o A n c X W, fun W => down_any a d g x o A n c Y W⟩
  have U3 : Hid (cUp a d g x o A n c 1024 a) := fun W => by have := up_any a d g x o A n c 1024 W; rwa [atV_self m1] at this
  have D3 : Hid (cDown a d g x o A n c 1024 d) := fun W => by have := down_any a d g x o A n c 1024 W; rwa [atV_self m2] at this
  have G3 : Hid (cGap a d g x o A n c 1024 g) := fun W => by have := gap_any a d g x o A n c 1024 W; rwa [atV_self m3] at this
  have X3 : Hid (cX a d g x o A n c 1024 x) := fun W => by have := x_any a d g x o A n c 1024 W; rwa [atV_self m4] at this
  have U4 : Hid (cUp a d g x o A n c 0 0) := fun W => by have := up_any a d g x o A n c 0 W; rwa [atV_zero] at this
  have D4 : Hid (cDown a d g x o A n c 0 0) := fun W => by have := down_any a d g x o A n c 0 W; rwa [atV_zero] at this
  have b1 : decide (z < 0) = false := decide_eq_false (by omega)
  have b2 : decide (8589934592 < z) = false := decide_eq_false (by omega)
  have b3 : decide (z < u2) = false := decide_eq_false (by omega)
  have b4 : decide (d2 < d1) = false := decide_eq_false (by omega)
  have q1 : (a == a) = true := by simp
  have q2 : (d == d) = true := by simp
  have q3 : (g == g) = true := by simp
  have q4 : (x == x) = true := by simp
  clear hw hk m1 m2 m3 m4 m5 z0 z1 z2 dd
  rcases Nat.eq_zero_or_pos n with h0 | h0
  · obtain ⟨u, v, v0, v1, v2, A1, A2, A3⟩ := hA 97
    have b5 : decide (u < 0) = false := decide_eq_false (by omega)
    have b6 : decide (8589934592 < v) = false := decide_eq_false (by omega)
    have b7 : decide (v < u) = false := decide_eq_false (by omega)
    have hg0 : decide (0 < n) = false := decide_eq_false (by omega)
    clear hA v0 v1 v2 hr h0
    go_enter Try.func5, Try.ntmps5
    go_wp2_with (first
      | (go_at_call 7; refine (small_any _ _ _ _ _ _ _ _ (by omega) _).mono ?_; rintro e w1 ⟨rfl, hb1⟩; rw [HE.out]; obtain ⟨p0, p1, p2, p3, p4, p5, _⟩ := (HN.out.keep hb1).cells)
      | (go_at_call 9; refine (HC.out _ (HN.out.keep hb1)).mono ?_; rintro e w3 ⟨rfl, hb3⟩; obtain ⟨p0, p1, p2, p3, p4, p5, _⟩ := ((HN.out.keep hb1).keep hb3).cells))
    have C0 := ((HN.out.keep hb1).keep hb3).drew.cells
    go_region_held3 (fun w' => w'.cell? ⟨w.heap.size, 0, none⟩ = some (.int .i64 a) ∧ w'.cell? ⟨w.heap.size, 1, none⟩ = some (.int .i64 d) ∧ w'.cell? ⟨w.heap.size, 2, none⟩ = some (.int .i64 g) ∧ w'.cell? ⟨w.heap.size, 3, none⟩ = some (.int .i64 x) ∧ w'.cell? ⟨w.heap.size, 4, none⟩ = some (.int .i64 o) ∧ w'.cell? ⟨w.heap.size, 5, none⟩ = some (.slice A n c) ∧ LM w a d g x o A n c rs w')
      (first | exact C0 | exact held_keep (by assumption) (by assumption) | exact held_drew (by assumption) | go_keep)
      (first
      | (go_at_call 13; first | ((with_reducible refine (U1.out _).mono ?_); rintro e v1 ⟨rfl, hb2⟩) | ((with_reducible refine (U2.out _).mono ?_); rintro e v1 ⟨rfl, hb2⟩) | ((with_reducible refine (U3.out _).mono ?_); rintro e v1 ⟨rfl, hb2⟩) | ((with_reducible refine (U4.out _).mono ?_); rintro e v1 ⟨rfl, hb2⟩))
      | (go_at_call 15; first | ((with_reducible refine (D1.out _).mono ?_); rintro e v1 ⟨rfl, hb2⟩) | ((with_reducible refine (D2.out _).mono ?_); rintro e v1 ⟨rfl, hb2⟩) | ((with_reducible refine (D3.out _).mono ?_); rintro e v1 ⟨rfl, hb2⟩) | ((with_reducible refine (D4.out _).mono ?_); rintro e v1 ⟨rfl, hb2⟩))
      | (go_at_call 16; ((with_reducible refine (G3.out _).mono ?_); rintro e v1 ⟨rfl, hb2⟩))
      | (go_at_call 17; ((with_reducible refine (X3.out _).mono ?_); rintro e v1 ⟨rfl, hb2⟩))
      | (go_at_call 11; first | ((with_reducible refine (A1.out _ (lm_of (by assumption))).mono ?_); rintro e v1 ⟨rfl, hb2⟩) | ((with_reducible refine (A2.out _ (lm_of (by assumption))).mono ?_); rintro e v1 ⟨rfl, hb2⟩) | ((with_reducible refine (A3.out _ (lm_of (by assumption))).mono ?_); rintro e v1 ⟨rfl, hb2⟩))
      | (go_at_call 8; refine (head_any _).mono ?_; rintro e v1 ⟨rfl, hb2⟩))
    clear C0
    go_wp2
    go_region_held3 (fun w' => w'.cell? ⟨w.heap.size, 0, none⟩ = some (.int .i64 a) ∧ w'.cell? ⟨w.heap.size, 1, none⟩ = some (.int .i64 d) ∧ w'.cell? ⟨w.heap.size, 2, none⟩ = some (.int .i64 g) ∧ w'.cell? ⟨w.heap.size, 3, none⟩ = some (.int .i64 x) ∧ w'.cell? ⟨w.heap.size, 4, none⟩ = some (.int .i64 o) ∧ w'.cell? ⟨w.heap.size, 5, none⟩ = some (.slice A n c) ∧ LM w a d g x o A n c rs w')
      (first | exact held_keep (by assumption) (by assumption) | exact held_drew (by assumption) | go_keep)
      (first
      | (go_at_call 13; first | ((with_reducible refine (U1.out _).mono ?_); rintro e v1 ⟨rfl, hb2⟩) | ((with_reducible refine (U2.out _).mono ?_); rintro e v1 ⟨rfl, hb2⟩) | ((with_reducible refine (U3.out _).mono ?_); rintro e v1 ⟨rfl, hb2⟩) | ((with_reducible refine (U4.out _).mono ?_); rintro e v1 ⟨rfl, hb2⟩))
      | (go_at_call 15; first | ((with_reducible refine (D1.out _).mono ?_); rintro e v1 ⟨rfl, hb2⟩) | ((with_reducible refine (D2.out _).mono ?_); rintro e v1 ⟨rfl, hb2⟩) | ((with_reducible refine (D3.out _).mono ?_); rintro e v1 ⟨rfl, hb2⟩) | ((with_reducible refine (D4.out _).mono ?_); rintro e v1 ⟨rfl, hb2⟩))
      | (go_at_call 16; ((with_reducible refine (G3.out _).mono ?_); rintro e v1 ⟨rfl, hb2⟩))
      | (go_at_call 17; ((with_reducible refine (X3.out _).mono ?_); rintro e v1 ⟨rfl, hb2⟩))
      | (go_at_call 11; first | ((with_reducible refine (A1.out _ (lm_of (by assumption))).mono ?_); rintro e v1 ⟨rfl, hb2⟩) | ((with_reducible refine (A2.out _ (lm_of (by assumption))).mono ?_); rintro e v1 ⟨rfl, hb2⟩) | ((with_reducible refine (A3.out _ (lm_of (by assumption))).mono ?_); rintro e v1 ⟨rfl, hb2⟩))
      | (go_at_call 8; refine (head_any _).mono ?_; rintro e v1 ⟨rfl, hb2⟩))
    go_wp2
    go_region_held3 (fun w' => w'.cell? ⟨w.heap.size, 0, none⟩ = some (.int .i64 a) ∧ w'.cell? ⟨w.heap.size, 1, none⟩ = some (.int .i64 d) ∧ w'.cell? ⟨w.heap.size, 2, none⟩ = some (.int .i64 g) ∧ w'.cell? ⟨w.heap.size, 3, none⟩ = some (.int .i64 x) ∧ w'.cell? ⟨w.heap.size, 4, none⟩ = some (.int .i64 o) ∧ w'.cell? ⟨w.heap.size, 5, none⟩ = some (.slice A n c) ∧ LM w a d g x o A n c rs w')
      (first | exact held_keep (by assumption) (by assumption) | exact held_drew (by assumption) | go_keep)
      (first
      | (go_at_call 13; first | ((with_reducible refine (U1.out _).mono ?_); rintro e v1 ⟨rfl, hb2⟩) | ((with_reducible refine (U2.out _).mono ?_); rintro e v1 ⟨rfl, hb2⟩) | ((with_reducible refine (U3.out _).mono ?_); rintro e v1 ⟨rfl, hb2⟩) | ((with_reducible refine (U4.out _).mono ?_); rintro e v1 ⟨rfl, hb2⟩))
      | (go_at_call 15; first | ((with_reducible refine (D1.out _).mono ?_); rintro e v1 ⟨rfl, hb2⟩) | ((with_reducible refine (D2.out _).mono ?_); rintro e v1 ⟨rfl, hb2⟩) | ((with_reducible refine (D3.out _).mono ?_); rintro e v1 ⟨rfl, hb2⟩) | ((with_reducible refine (D4.out _).mono ?_); rintro e v1 ⟨rfl, hb2⟩))
      | (go_at_call 16; ((with_reducible refine (G3.out _).mono ?_); rintro e v1 ⟨rfl, hb2⟩))
      | (go_at_call 17; ((with_reducible refine (X3.out _).mono ?_); rintro e v1 ⟨rfl, hb2⟩))
      | (go_at_call 11; first | ((with_reducible refine (A1.out _ (lm_of (by assumption))).mono ?_); rintro e v1 ⟨rfl, hb2⟩) | ((with_reducible refine (A2.out _ (lm_of (by assumption))).mono ?_); rintro e v1 ⟨rfl, hb2⟩) | ((with_reducible refine (A3.out _ (lm_of (by assumption))).mono ?_); rintro e v1 ⟨rfl, hb2⟩))
      | (go_at_call 8; refine (head_any _).mono ?_; rintro e v1 ⟨rfl, hb2⟩))
    go_wp2
    go_ret
    exact ⟨rfl, (lm_of (by assumption)).bel⟩
  · obtain ⟨K, hK⟩ : ∃ K : Nat, n = K + 1 := ⟨n - 1, by omega⟩
    obtain ⟨ad, hA0, had, _, h1, _⟩ := hr.at_ (k := K) (by omega)
    have HT := Lib.hid (show ∀ W, Below w.heap.size w W → W.cell? ⟨(ad.add (K * 3)).block, (ad.add (K * 3)).off + 1, none⟩ = some (.int .i32 (rs[K]?.getD dA).2.1) from fun W hb => (hb.cell (by rw [block_of_add]; exact had)).trans h1)
    clear h1
    generalize (rs[K]?.getD dA).2.1 = r at HT
    obtain ⟨u, v, v0, v1, v2, A1, A2, A3⟩ := hA r
    have b5 : decide (u < 0) = false := decide_eq_false (by omega)
    have b6 : decide (8589934592 < v) = false := decide_eq_false (by omega)
    have b7 : decide (v < u) = false := decide_eq_false (by omega)
    have hg0 : decide (0 < n) = true := decide_eq_true h0
    have k0 : (0 : Int) ≤ K := by omega
    have k1 : (K : Int) < n := by omega
    have e9 : IntKind.i64.wrap ((n : Int) - 1) = (K : Int) := by rw [IntKind.wrap_i64]; omega
    subst hA0
    clear hA v0 v1 v2 hr h0 hK
    go_enter Try.func5, Try.ntmps5
    go_wp2_with (first
      | (go_at_call 7; refine (small_any _ _ _ _ _ _ _ _ (by omega) _).mono ?_; rintro e w1 ⟨rfl, hb1⟩; rw [HE.out]; obtain ⟨p0, p1, p2, p3, p4, p5, _⟩ := (HN.out.keep hb1).cells)
      | (go_at_call 9; refine (HC.out _ (HN.out.keep hb1)).mono ?_; rintro e w3 ⟨rfl, hb3⟩; obtain ⟨p0, p1, p2, p3, p4, p5, _⟩ := ((HN.out.keep hb1).keep hb3).cells; have c6 : w3.cell? ⟨(ad.add (K * 3)).block, (ad.add (K * 3)).off + 1, none⟩ = some (.int .i32 r) := HT.out _ ((HN.out.keep hb1).keep hb3).bel))
    have C0 := ((HN.out.keep hb1).keep hb3).drew.cells
    go_region_held3 (fun w' => w'.cell? ⟨w.heap.size, 0, none⟩ = some (.int .i64 a) ∧ w'.cell? ⟨w.heap.size, 1, none⟩ = some (.int .i64 d) ∧ w'.cell? ⟨w.heap.size, 2, none⟩ = some (.int .i64 g) ∧ w'.cell? ⟨w.heap.size, 3, none⟩ = some (.int .i64 x) ∧ w'.cell? ⟨w.heap.size, 4, none⟩ = some (.int .i64 o) ∧ w'.cell? ⟨w.heap.size, 5, none⟩ = some (.slice (some ad) n c) ∧ LM w a d g x o (some ad) n c rs w')
      (first | exact C0 | exact held_keep (by assumption) (by assumption) | exact held_drew (by assumption) | go_keep)
      (first
      | (go_at_call 13; first | ((with_reducible refine (U1.out _).mono ?_); rintro e v1 ⟨rfl, hb2⟩) | ((with_reducible refine (U2.out _).mono ?_); rintro e v1 ⟨rfl, hb2⟩) | ((with_reducible refine (U3.out _).mono ?_); rintro e v1 ⟨rfl, hb2⟩) | ((with_reducible refine (U4.out _).mono ?_); rintro e v1 ⟨rfl, hb2⟩))
      | (go_at_call 15; first | ((with_reducible refine (D1.out _).mono ?_); rintro e v1 ⟨rfl, hb2⟩) | ((with_reducible refine (D2.out _).mono ?_); rintro e v1 ⟨rfl, hb2⟩) | ((with_reducible refine (D3.out _).mono ?_); rintro e v1 ⟨rfl, hb2⟩) | ((with_reducible refine (D4.out _).mono ?_); rintro e v1 ⟨rfl, hb2⟩))
      | (go_at_call 16; ((with_reducible refine (G3.out _).mono ?_); rintro e v1 ⟨rfl, hb2⟩))
      | (go_at_call 17; ((with_reducible refine (X3.out _).mono ?_); rintro e v1 ⟨rfl, hb2⟩))
      | (go_at_call 11; first | ((with_reducible refine (A1.out _ (lm_of (by assumption))).mono ?_); rintro e v1 ⟨rfl, hb2⟩) | ((with_reducible refine (A2.out _ (lm_of (by assumption))).mono ?_); rintro e v1 ⟨rfl, hb2⟩) | ((with_reducible refine (A3.out _ (lm_of (by assumption))).mono ?_); rintro e v1 ⟨rfl, hb2⟩))
      | (go_at_call 8; refine (head_any _).mono ?_; rintro e v1 ⟨rfl, hb2⟩))
    clear C0
    go_wp2
    go_region_held3 (fun w' => w'.cell? ⟨w.heap.size, 0, none⟩ = some (.int .i64 a) ∧ w'.cell? ⟨w.heap.size, 1, none⟩ = some (.int .i64 d) ∧ w'.cell? ⟨w.heap.size, 2, none⟩ = some (.int .i64 g) ∧ w'.cell? ⟨w.heap.size, 3, none⟩ = some (.int .i64 x) ∧ w'.cell? ⟨w.heap.size, 4, none⟩ = some (.int .i64 o) ∧ w'.cell? ⟨w.heap.size, 5, none⟩ = some (.slice (some ad) n c) ∧ LM w a d g x o (some ad) n c rs w')
      (first | exact held_keep (by assumption) (by assumption) | exact held_drew (by assumption) | go_keep)
      (first
      | (go_at_call 13; first | ((with_reducible refine (U1.out _).mono ?_); rintro e v1 ⟨rfl, hb2⟩) | ((with_reducible refine (U2.out _).mono ?_); rintro e v1 ⟨rfl, hb2⟩) | ((with_reducible refine (U3.out _).mono ?_); rintro e v1 ⟨rfl, hb2⟩) | ((with_reducible refine (U4.out _).mono ?_); rintro e v1 ⟨rfl, hb2⟩))
      | (go_at_call 15; first | ((with_reducible refine (D1.out _).mono ?_); rintro e v1 ⟨rfl, hb2⟩) | ((with_reducible refine (D2.out _).mono ?_); rintro e v1 ⟨rfl, hb2⟩) | ((with_reducible refine (D3.out _).mono ?_); rintro e v1 ⟨rfl, hb2⟩) | ((with_reducible refine (D4.out _).mono ?_); rintro e v1 ⟨rfl, hb2⟩))
      | (go_at_call 16; ((with_reducible refine (G3.out _).mono ?_); rintro e v1 ⟨rfl, hb2⟩))
      | (go_at_call 17; ((with_reducible refine (X3.out _).mono ?_); rintro e v1 ⟨rfl, hb2⟩))
      | (go_at_call 11; first | ((with_reducible refine (A1.out _ (lm_of (by assumption))).mono ?_); rintro e v1 ⟨rfl, hb2⟩) | ((with_reducible refine (A2.out _ (lm_of (by assumption))).mono ?_); rintro e v1 ⟨rfl, hb2⟩) | ((with_reducible refine (A3.out _ (lm_of (by assumption))).mono ?_); rintro e v1 ⟨rfl, hb2⟩))
      | (go_at_call 8; refine (head_any _).mono ?_; rintro e v1 ⟨rfl, hb2⟩))
    go_wp2
    go_region_held3 (fun w' => w'.cell? ⟨w.heap.size, 0, none⟩ = some (.int .i64 a) ∧ w'.cell? ⟨w.heap.size, 1, none⟩ = some (.int .i64 d) ∧ w'.cell? ⟨w.heap.size, 2, none⟩ = some (.int .i64 g) ∧ w'.cell? ⟨w.heap.size, 3, none⟩ = some (.int .i64 x) ∧ w'.cell? ⟨w.heap.size, 4, none⟩ = some (.int .i64 o) ∧ w'.cell? ⟨w.heap.size, 5, none⟩ = some (.slice (some ad) n c) ∧ LM w a d g x o (some ad) n c rs w')
      (first | exact held_keep (by assumption) (by assumption) | exact held_drew (by assumption) | go_keep)
      (first
      | (go_at_call 13; first | ((with_reducible refine (U1.out _).mono ?_); rintro e v1 ⟨rfl, hb2⟩) | ((with_reducible refine (U2.out _).mono ?_); rintro e v1 ⟨rfl, hb2⟩) | ((with_reducible refine (U3.out _).mono ?_); rintro e v1 ⟨rfl, hb2⟩) | ((with_reducible refine (U4.out _).mono ?_); rintro e v1 ⟨rfl, hb2⟩))
      | (go_at_call 15; first | ((with_reducible refine (D1.out _).mono ?_); rintro e v1 ⟨rfl, hb2⟩) | ((with_reducible refine (D2.out _).mono ?_); rintro e v1 ⟨rfl, hb2⟩) | ((with_reducible refine (D3.out _).mono ?_); rintro e v1 ⟨rfl, hb2⟩) | ((with_reducible refine (D4.out _).mono ?_); rintro e v1 ⟨rfl, hb2⟩))
      | (go_at_call 16; ((with_reducible refine (G3.out _).mono ?_); rintro e v1 ⟨rfl, hb2⟩))
      | (go_at_call 17; ((with_reducible refine (X3.out _).mono ?_); rintro e v1 ⟨rfl, hb2⟩))
      | (go_at_call 11; first | ((with_reducible refine (A1.out _ (lm_of (by assumption))).mono ?_); rintro e v1 ⟨rfl, hb2⟩) | ((with_reducible refine (A2.out _ (lm_of (by assumption))).mono ?_); rintro e v1 ⟨rfl, hb2⟩) | ((with_reducible refine (A3.out _ (lm_of (by assumption))).mono ?_); rintro e v1 ⟨rfl, hb2⟩))
      | (go_at_call 8; refine (head_any _).mono ?_; rintro e v1 ⟨rfl, hb2⟩))
    go_wp2
    go_ret
    exact ⟨rfl, (lm_of (by assumption)).bel⟩
theorem FontGrows_any (a d g x o : Int) (A : Option Addr) (n c : Nat) (xs : List (List Int)) (p q : Int) (hl : xs.length = n) (hc : n ≤ c) (hm : c ≤ maxLen) (hw : ∀ y ∈ xs, wfR [.i32, .i32, .i64] y) (w : World) (hr : Reads w w.heap.size 3 A n (xs.flatMap (encR [.i32, .i32, .i64]))) :
    Calls Try.prog 5 #[fontV a d g x o A n c, .int .i64 p, .int .i64 q] w fun e w' => e = .returned (.bool true) ∧ Below w.heap.size w w' := by
  obtain ⟨rs, r1, r2, r3⟩ := rng_of xs hw
  rw [r3] at hr
  unfold maxLen at hm
  by_cases h : n ≤ 300 ∧ chkV a d g x o rs = 0
  · exact grows_in a d g x o A n c rs p q h.1 w ⟨by omega, hr⟩ r2 h.2
  · exact grows_out a d g x o A n c rs p q (by omega) w ⟨by omega, hr⟩ r2 (by
      rcases Nat.lt_or_ge 300 n with g | g
      · exact .inl g
      · exact .inr ⟨g, fun e => h ⟨g, e⟩⟩)
end Go.Proofs.Ytdoppkhpffdfgaa.Font

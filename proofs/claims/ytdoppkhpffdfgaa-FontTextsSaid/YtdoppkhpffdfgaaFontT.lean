/- Chapter 5: FontTexts, walked: it returns true, for every input. No condition. -/
import Derived.Test.YtdoppkhpffdfgaaFontL
namespace Go.Proofs.Ytdoppkhpffdfgaa.Font
open Go.RowKit Go.Proofs.Ytdoppkhpffdfgaa.Unit
attribute [local go_sem] max2_int min2_int max_two min_two
set_option linter.unusedVariables false

theorem add_zero' (a : Addr) : a.add 0 = a := by simp [Addr.add]
theorem reads_take {w : World} {B n k : Nat} {A : Option Addr} {xs : List Value} (h : Reads w B 1 A n xs) (hk : k ≤ n) : Reads w B 1 A k (xs.take k) := by
  refine ⟨by rw [List.length_take, h.1]; omega, fun h0 => ?_⟩
  obtain ⟨ad, e, hb, hc⟩ := h.2 (by omega)
  refine ⟨ad, e, hb, fun j u hu => hc j u ?_⟩
  have hj : j < k := by
    have := (List.getElem?_eq_some_iff.1 hu).1
    simp at this
    omega
  rwa [List.getElem?_take, if_pos hj] at hu
theorem run_cut {P : Program} {t e : TypeId} (ht : P.underlying t = some (.slice e)) (hs : ∀ W, (sizeOf e).run P W = .ok 1 W) (A : Option Addr) (n c k : Nat) (hk : k ≤ n) (hc : n ≤ c) (W : World) :
    (Instr.slice t (.slice A n c) (some (.int .i64 (k : Int))) none none).run P W = .ok (.slice (if c = k then A else A.map (·.add (k * 1))) (n - k) (c - k)) W := by
  have he : P.elem t = e := by simp [Program.elem, ht]
  rw [run_slice_l W t A n c (by rw [he]; exact ht) .i64 (k : Int) (by omega) (by omega), he, hs]
  simp [Result.andThen, sliced]
theorem run_cut0 {P : Program} {t e : TypeId} (ht : P.underlying t = some (.slice e)) (hs : ∀ W, (sizeOf e).run P W = .ok 1 W) (A : Option Addr) (n c k : Nat) (hk : k ≤ c) (W : World) :
    (Instr.slice t (.slice A n c) none (some (.int .i64 (k : Int))) none).run P W = .ok (.slice A k c) W := by
  have he : P.elem t = e := by simp [Program.elem, ht]
  rw [run_slice_h W t A n c (by rw [he]; exact ht) .i64 (k : Int) (by omega) (by omega), he, hs]
  cases A <;> simp [Result.andThen, sliced, add_zero']

set_option maxHeartbeats 4000000 in
theorem texts_out (a d g x o : Int) (A : Option Addr) (n c : Nat) (size : Int) (L : Option Addr) (m cl : Nat) (hc : (n : Int) ≤ 9223372036854775807) (hcm : (m : Int) ≤ 9223372036854775807) (h : 300 < n ∨ (n ≤ 300 ∧ 500 < m)) (w : World) :
    Calls Try.prog 4 #[fontV a d g x o A n c, .int .i64 size, .slice L m cl] w fun e w' => e = .returned (.bool true) ∧ Below w.heap.size w w' := by
  rcases h with hn | ⟨hn, hm⟩
  · have HE := Lib.hid (show smallB n = false from decide_eq_false (by omega))
    go_enter Try.func4, Try.ntmps4
    go_wp2_with (first
      | (go_at_call 7; refine (small_any _ _ _ _ _ _ _ _ hc _).mono ?_; rintro e w1 ⟨rfl, hb1⟩; rw [HE.out])
      | (go_at_call 8; refine (head_any _).mono ?_; rintro e w2 ⟨rfl, hb2⟩))
    go_ret
    exact ⟨rfl, bel_trans (bel_trans (bel_alloc (Below.refl _ _) _) hb1) hb2⟩
  · have HE := Lib.hid (show smallB n = true from decide_eq_true hn)
    go_enter Try.func4, Try.ntmps4
    go_wp2_with (first
      | (go_at_call 7; refine (small_any _ _ _ _ _ _ _ _ hc _).mono ?_; rintro e w1 ⟨rfl, hb1⟩; rw [HE.out])
      | (go_at_call 8; refine (head_any _).mono ?_; rintro e w2 ⟨rfl, hb2⟩))
    go_ret
    exact ⟨rfl, bel_trans (bel_trans (bel_alloc (Below.refl _ _) _) hb1) hb2⟩
set_option maxHeartbeats 16000000 in
set_option maxRecDepth 100000 in
theorem texts_in (a d g x o : Int) (A : Option Addr) (n c : Nat) (rs : List Rng) (size : Int) (L : Option Addr) (m cl : Nat) (l : List Int) (hn : n ≤ 300) (hm : m ≤ 500) (hmc : m ≤ cl) (w : World) (hr : RA w A n rs) (hl : l.length = m) (hL : Reads w w.heap.size 1 L m (l.map (Value.int .i32))) :
    Calls Try.prog 4 #[fontV a d g x o A n c, .int .i64 size, .slice L m cl] w fun e w' => e = .returned (.bool true) ∧ Below w.heap.size w w' := by
  have HE := Lib.hid (show smallB n = true from decide_eq_true hn)
  obtain ⟨k, hk⟩ : ∃ k : Nat, k = m / 2 := ⟨_, rfl⟩
  have km : k ≤ m := by omega
  have q0 : ((m : Int)).tdiv 2 = (k : Int) := by rw [Int.tdiv_eq_ediv_of_nonneg (by omega)]; omega
  have q00 : (m : Int) / 2 = (k : Int) := by omega
  obtain ⟨A1, hA1, R1⟩ : ∃ A1, (∀ W, (Instr.slice 34 (.slice L m cl) (some (.int .i64 (k : Int))) none none).run Try.prog W = .ok (.slice A1 (m - k) (cl - k)) W) ∧ Reads w w.heap.size 1 A1 (m - k) ((l.map (Value.int .i32)).drop (k * 1)) :=
    ⟨_, fun W => run_cut (P := Try.prog) Try.underlying34 (fun _ => by kernel_rfl) L m cl k km hmc W, hL.cut km hmc⟩
  have hA2 : ∀ W, (Instr.slice 34 (.slice L m cl) none (some (.int .i64 (k : Int))) none).run Try.prog W = .ok (.slice L k cl) W := fun W => run_cut0 (P := Try.prog) Try.underlying34 (fun _ => by kernel_rfl) L m cl k (by omega) W
  have HS : tS rs o size (l.take k) + tS rs o size (l.drop k) = tS rs o size l := by rw [← tS_append, List.take_append_drop]
  obtain ⟨B0, B1⟩ := tS_bd rs o size l
  rw [hl] at B1
  have H1 : Hid (∀ W, LM w a d g x o A n c rs W → Calls Try.prog 18 #[fontV a d g x o A n c, .int .i64 size, .slice L m cl] W fun e w' => e = .returned (.int .i64 (tS rs o size l)) ∧ Below W.heap.size W w') := fun W M => text_any a d g x o A n c rs size L m cl l (by omega) (by omega) W M.r hl ((hL.below M.bel).more M.bel.size)
  have H2 : Hid (∀ W, LM w a d g x o A n c rs W → Calls Try.prog 19 #[fontV a d g x o A n c, .int .i64 size, .slice L m cl] W fun e w' => e = .returned (.int .i64 (tS rs o size l)) ∧ Below W.heap.size W w') := fun W M => rtext_any a d g x o A n c rs size L m cl l (by omega) (by omega) W M.r hl ((hL.below M.bel).more M.bel.size)
  have H3 : Hid (∀ W, LM w a d g x o A n c rs W → Calls Try.prog 18 #[fontV a d g x o A n c, .int .i64 size, .slice L k cl] W fun e w' => e = .returned (.int .i64 (tS rs o size (l.take k))) ∧ Below W.heap.size W w') := fun W M => text_any a d g x o A n c rs size L k cl (l.take k) (by omega) (by omega) W M.r (by rw [List.length_take]; omega) (by rw [List.map_take]; exact ((reads_take hL km).below M.bel).more M.bel.size)
  have H4 : Hid (∀ W, LM w a d g x o A n c rs W → Calls Try.prog 18 #[fontV a d g x o A n c, .int .i64 size, .slice A1 (m - k) (cl - k)] W fun e w' => e = .returned (.int .i64 (tS rs o size (l.drop k))) ∧ Below W.heap.size W w') := fun W M => text_any a d g x o A n c rs size A1 (m - k) (cl - k) (l.drop k) (by omega) (by omega) W M.r (by rw [List.length_drop, hl]) (by
    have := ((R1.below M.bel).more M.bel.size)
    rw [Nat.mul_one, ← List.map_drop] at this
    exact this)
  have HN := Lib.hid (LM.new (a := a) (d := d) (g := g) (x := x) (o := o) (c := c) hr)
  generalize tS rs o size l = t at *
  generalize tS rs o size (l.take k) = t1 at *
  generalize tS rs o size (l.drop k) = t2 at *
  have e1 : IntKind.i64.wrap (t1 + t2) = t := by rw [HS, IntKind.wrap_i64]; omega
  have q1 : (t == t) = true := by simp
  have HM : Hid (m ≤ 500 ∧ k ≤ m) := ⟨hm, km⟩
  clear hr hL R1 hl HS B0 B1 hk
  go_enter Try.func4, Try.ntmps4
  go_wp2_with (first
    | (go_at_call 7; refine (small_any _ _ _ _ _ _ _ _ (by omega) _).mono ?_; rintro e w1 ⟨rfl, hb1⟩; rw [HE.out]; obtain ⟨p0, p1, p2, p3, p4, p5, _⟩ := (HN.out.keep hb1).cells)
    | (go_at_call 18; refine (H1.out _ (HN.out.keep hb1)).mono ?_; rintro e w2 ⟨rfl, hb2⟩))
  (try simp only [q0, q00])
  have C0 := ((HN.out.keep hb1).keep hb2).drew.cells
  go_region_held3 (fun w' => w'.cell? ⟨w.heap.size, 0, none⟩ = some (.int .i64 a) ∧ w'.cell? ⟨w.heap.size, 1, none⟩ = some (.int .i64 d) ∧ w'.cell? ⟨w.heap.size, 2, none⟩ = some (.int .i64 g) ∧ w'.cell? ⟨w.heap.size, 3, none⟩ = some (.int .i64 x) ∧ w'.cell? ⟨w.heap.size, 4, none⟩ = some (.int .i64 o) ∧ w'.cell? ⟨w.heap.size, 5, none⟩ = some (.slice A n c) ∧ LM w a d g x o A n c rs w')
    (first | exact C0 | exact held_keep (by assumption) (by assumption) | go_keep)
    (first
    | (go_at_call 19; refine (H2.out _ (lm_of (by assumption))).mono ?_; rintro e v1 ⟨rfl, hb2⟩)
    | (go_at_call 18; first | ((with_reducible refine (H3.out _ (lm_of (by assumption))).mono ?_); rintro e v1 ⟨rfl, hb2⟩) | ((with_reducible refine (H4.out _ (lm_of (by assumption))).mono ?_); rintro e v1 ⟨rfl, hb2⟩))
    | (go_at_call 8; refine (head_any _).mono ?_; rintro e v1 ⟨rfl, hb2⟩))
  go_wp2
  go_ret
  exact ⟨rfl, (lm_of (by assumption)).bel⟩
theorem FontTexts_any (a d g x o : Int) (A : Option Addr) (n c : Nat) (xs : List (List Int)) (size : Int) (L : Option Addr) (m cl : Nat) (l : List Int) (hl : xs.length = n) (hc : n ≤ c) (hm : c ≤ maxLen) (hw : ∀ y ∈ xs, wfR [.i32, .i32, .i64] y) (h1 : l.length = m) (h2 : m ≤ cl) (h3 : cl ≤ maxLen) (w : World) (hr : Reads w w.heap.size 3 A n (xs.flatMap (encR [.i32, .i32, .i64]))) (hL : Reads w w.heap.size 1 L m (l.map (Value.int .i32))) :
    Calls Try.prog 4 #[fontV a d g x o A n c, .int .i64 size, .slice L m cl] w fun e w' => e = .returned (.bool true) ∧ Below w.heap.size w w' := by
  obtain ⟨rs, r1, r2, r3⟩ := rng_of xs hw
  rw [r3] at hr
  unfold maxLen at hm h3
  by_cases h : n ≤ 300 ∧ m ≤ 500
  · exact texts_in a d g x o A n c rs size L m cl l h.1 h.2 h2 w ⟨by omega, hr⟩ h1 hL
  · exact texts_out a d g x o A n c size L m cl (by omega) (by omega) (by omega) w
end Go.Proofs.Ytdoppkhpffdfgaa.Font

/- Chapter 9: the reference's Counts, walked. No condition but bounds. -/
import Derived.Test.YtlobedonclimbaaPairK
namespace Go.Proofs.Ytlobedonclimbaa.Pair
open Go.RowKit
set_option linter.unusedVariables false

def cMap (xs : List Int) (k : Nat) : List Value := (List.range k).map fun i => .int .u8 (cN xs i)
def gMap (xs : List Int) (k : Nat) : List Value := (List.range k).map fun i => .bool (gN xs i)
theorem cMap_succ (xs : List Int) (k : Nat) : cMap xs (k + 1) = cMap xs k ++ [.int .u8 (cN xs k)] := by simp [cMap, List.range_succ]
theorem gMap_succ (xs : List Int) (k : Nat) : gMap xs (k + 1) = gMap xs k ++ [.bool (gN xs k)] := by simp [gMap, List.range_succ]
theorem cMap_get (xs : List Int) (n k : Nat) (h : k < n) : (cMap xs n)[k]? = some (.int .u8 (cN xs k)) := by simp [cMap, h]
theorem gMap_get (xs : List Int) (n k : Nat) (h : k < n) : (gMap xs n)[k]? = some (.bool (gN xs k)) := by simp [gMap, h]
theorem cnt_nine (a : Int) : cnt 9 a = if isL a [255, 1, 2, 3, 4, 5, 6] then (0, false) else (a, true) := rfl
theorem cN_ne (xs : List Int) (k : Nat) (h : k < xs.length) : cN xs k ≠ 255 := by
  induction k with
  | zero =>
    rw [(cN_step xs 0 h).1, if_pos rfl]
    generalize xs[0]?.getD 0 = x
    unfold cnt
    split
    · decide
    · split
      · decide
      · split
        · simp only; omega
        · decide
  | succ k ih =>
    have ih := ih (by omega)
    rw [(cN_step xs (k + 1) h).1, if_neg (by omega), Nat.add_sub_cancel]
    generalize cN xs k = a at ih
    generalize xs[k + 1]?.getD 0 = x
    unfold cnt
    split
    · decide
    · split
      · decide
      · split
        · simp only; omega
        · split
          · decide
          · exact ih
/-- What the reference's Counts hands back. -/
def CountsPost (xs : List Int) (n : Nat) (w : World) (e : Ending) (w' : World) : Prop :=
  ∃ A1 c1 A2 c2, e = .returned (.tuple #[.slice A1 n c1, .slice A2 n c2]) ∧ Reads w' w'.heap.size 1 A1 n (cMap xs n) ∧ Reads w' w'.heap.size 1 A2 n (gMap xs n) ∧ Below w.heap.size w w'
set_option maxHeartbeats 8000000 in
set_option maxRecDepth 100000 in
theorem refCounts_any (A : Option Addr) (n c : Nat) (xs : List Int) (hl : xs.length = n) (hn : n ≤ 1000000) (w : World) (hr : Reads w w.heap.size 1 A n (xs.map (Value.int .u8))) :
    Calls Try.prog 17 #[.slice A n c] w (CountsPost xs n w) := by
  obtain ⟨i4, hi4, hx4, hy4, hw4⟩ := info_parts A_info4
  obtain ⟨i5, hi5, hx5, hy5, hw5⟩ := info_parts A_info5
  have HL := Lib.hid hl
  have HR := Lib.hid hr
  clear hl hr
  go_enter Try.func17, Try.ntmps17
  go_wp2
  go_loopw [4, 5, 6] (fun o g i wr => ∃ (k : Nat) (v1 v2 : Value), i = .int .i64 k ∧ k ≤ n ∧ o = v1 ∧ g = v2 ∧ Hid (wr.ownsRow w.heap.size 5 1 v1 k (cMap xs k)) ∧ Hid (wr.ownsRow w.heap.size 4 1 v2 k (gMap xs k)) ∧ Below w.heap.size w wr) (fun o g i wr => n - (intOf i).toNat)
  case atStart => exact ⟨0, _, _, rfl, by omega, rfl, rfl, Lib.hid (own_nil _ _ _ _), Lib.hid (own_nil _ _ _ _), Below.refl _ _⟩
  case round =>
    obtain ⟨k, v1, v2, rfl, hk, rfl, rfl, O1, O2, hb⟩ := hrel
    have hsz := hb.size
    by_cases hlt : k < n
    · obtain ⟨ad, rfl, _, g0⟩ := reads_kind HL.out (HR.out.below hb) hlt
      obtain ⟨hc1, hc2⟩ := cN_step xs k (by rw [HL.out]; exact hlt)
      generalize xs[k]?.getD 0 = x at g0 hc1 hc2
      have i0 : (0 : Int) ≤ k := by omega
      have i1 : (k : Int) < n := by omega
      by_cases h1 : x = 20
      · subst h1
        have H1 := Lib.hid (show (19 : Int) = cN xs k by rw [hc1]; rfl)
        have H2 := Lib.hid (show false = gN xs k by rw [hc2]; rfl)
        clear hc1 hc2
        go_wp2_with (first | (at_builtin; refine wpList_append_any _ rfl (.tmp 42) (.tmp 44) 22 rfl w.heap.size 5 i5 (.int .u8 0) 1 1 Try.underlying22 hi5 hx5 hy5 hw5 rfl (by decide) _ k _ rfl (own_below O1.out (by repeat (first | with_reducible refine bel_alloc ?_ _ | with_reducible exact Below.refl _ _))) _ _ 1 1 [.int .u8 19] rfl (reads_at _ _ _ _ 1 _ (by simp) rfl rfl) (by simp [Value.oneCell']) (by unfold maxLen; omega) (by omega) (by simp; omega) ?_; intro v1 w1 hown1 hg1 hb1; obtain ⟨A1, c1, rfl⟩ := own_shape hown1; have P1 := Lib.hid hown1; have P2 := Lib.hid ((own_below O2.out (by repeat (first | with_reducible refine bel_alloc ?_ _ | with_reducible exact Below.refl _ _))).kept hg1 (own_ne2 (own_below O2.out (by repeat (first | with_reducible refine bel_alloc ?_ _ | with_reducible exact Below.refl _ _))) (own_below O1.out (by repeat (first | with_reducible refine bel_alloc ?_ _ | with_reducible exact Below.refl _ _))) (by decide))); have PB := Lib.hid (bel_grown (bel_trans hb (by repeat (first | with_reducible refine bel_alloc ?_ _ | with_reducible exact Below.refl _ _))) (own_below O1.out (by repeat (first | with_reducible refine bel_alloc ?_ _ | with_reducible exact Below.refl _ _))) hg1); clear hown1 hg1 hb1) | (at_builtin; refine wpList_append_any _ rfl (.tmp 46) (.tmp 48) 25 rfl w.heap.size 4 i4 (.bool false) 1 1 Try.underlying25 hi4 hx4 hy4 hw4 rfl (by decide) _ k _ rfl (P2.out.alloc _) _ _ 1 1 [.bool false] rfl (reads_at _ _ _ _ 1 _ (by simp) rfl rfl) (by simp [Value.oneCell']) (by unfold maxLen; omega) (by omega) (by have := PB.out.size; simp; omega) ?_; intro v2 w2 hown2 hg2 hb2; obtain ⟨A2, c2, rfl⟩ := own_shape hown2; have R2 := Lib.hid hown2; have R1 := Lib.hid ((P1.out.alloc (.cells #[.bool false] 4)).kept hg2 (own_ne2 (P1.out.alloc (.cells #[.bool false] 4)) (P2.out.alloc (.cells #[.bool false] 4)) (by decide))); have RB := Lib.hid (bel_grown (bel_alloc PB.out (.cells #[.bool false] 4)) (P2.out.alloc (.cells #[.bool false] 4)) hg2); clear hown2 hg2 hb2))
        go_roundw
        case rel => exact ⟨k + 1, _, _, by go_num, by omega, rfl, rfl, Lib.hid (by rw [cMap_succ, ← H1.out]; exact R1.out), Lib.hid (by rw [gMap_succ, ← H2.out]; exact R2.out), RB.out⟩
        case measure => simp [intOf]; omega
      · have t1 : (x == 20) = false := by simpa using h1
        by_cases h2 : 26 < x
        · have H1 := Lib.hid (show (0 : Int) = cN xs k by rw [hc1]; unfold cnt; rw [if_neg h1, if_pos h2])
          have H2 := Lib.hid (show false = gN xs k by rw [hc2]; unfold cnt; rw [if_neg h1, if_pos h2])
          clear hc1 hc2 h1
          go_wp2_with (first | (at_builtin; refine wpList_append_any _ rfl (.tmp 42) (.tmp 44) 22 rfl w.heap.size 5 i5 (.int .u8 0) 1 1 Try.underlying22 hi5 hx5 hy5 hw5 rfl (by decide) _ k _ rfl (own_below O1.out (by repeat (first | with_reducible refine bel_alloc ?_ _ | with_reducible exact Below.refl _ _))) _ _ 1 1 [.int .u8 0] rfl (reads_at _ _ _ _ 1 _ (by simp) rfl rfl) (by simp [Value.oneCell']) (by unfold maxLen; omega) (by omega) (by simp; omega) ?_; intro v1 w1 hown1 hg1 hb1; obtain ⟨A1, c1, rfl⟩ := own_shape hown1; have P1 := Lib.hid hown1; have P2 := Lib.hid ((own_below O2.out (by repeat (first | with_reducible refine bel_alloc ?_ _ | with_reducible exact Below.refl _ _))).kept hg1 (own_ne2 (own_below O2.out (by repeat (first | with_reducible refine bel_alloc ?_ _ | with_reducible exact Below.refl _ _))) (own_below O1.out (by repeat (first | with_reducible refine bel_alloc ?_ _ | with_reducible exact Below.refl _ _))) (by decide))); have PB := Lib.hid (bel_grown (bel_trans hb (by repeat (first | with_reducible refine bel_alloc ?_ _ | with_reducible exact Below.refl _ _))) (own_below O1.out (by repeat (first | with_reducible refine bel_alloc ?_ _ | with_reducible exact Below.refl _ _))) hg1); clear hown1 hg1 hb1) | (at_builtin; refine wpList_append_any _ rfl (.tmp 46) (.tmp 48) 25 rfl w.heap.size 4 i4 (.bool false) 1 1 Try.underlying25 hi4 hx4 hy4 hw4 rfl (by decide) _ k _ rfl (P2.out.alloc _) _ _ 1 1 [.bool false] rfl (reads_at _ _ _ _ 1 _ (by simp) rfl rfl) (by simp [Value.oneCell']) (by unfold maxLen; omega) (by omega) (by have := PB.out.size; simp; omega) ?_; intro v2 w2 hown2 hg2 hb2; obtain ⟨A2, c2, rfl⟩ := own_shape hown2; have R2 := Lib.hid hown2; have R1 := Lib.hid ((P1.out.alloc (.cells #[.bool false] 4)).kept hg2 (own_ne2 (P1.out.alloc (.cells #[.bool false] 4)) (P2.out.alloc (.cells #[.bool false] 4)) (by decide))); have RB := Lib.hid (bel_grown (bel_alloc PB.out (.cells #[.bool false] 4)) (P2.out.alloc (.cells #[.bool false] 4)) hg2); clear hown2 hg2 hb2))
          go_roundw
          case rel => exact ⟨k + 1, _, _, by go_num, by omega, rfl, rfl, Lib.hid (by rw [cMap_succ, ← H1.out]; exact R1.out), Lib.hid (by rw [gMap_succ, ← H2.out]; exact R2.out), RB.out⟩
          case measure => simp [intOf]; omega
        · by_cases h3 : x = 9
          · subst h3
            clear h1 t1
            rcases Nat.eq_zero_or_pos k with hk0 | hk1
            · have H1 := Lib.hid (show (0 : Int) = cN xs k by rw [hc1, if_pos hk0]; rfl)
              have H2 := Lib.hid (show false = gN xs k by rw [hc2, if_pos hk0]; rfl)
              have z0 : decide ((0 : Int) < (k : Int)) = false := decide_eq_false (by omega)
              have z1 : decide (0 < k) = false := decide_eq_false (by omega)
              clear hc1 hc2 hk0
              go_wp2_with (first | (at_builtin; refine wpList_append_any _ rfl (.tmp 42) (.tmp 44) 22 rfl w.heap.size 5 i5 (.int .u8 0) 1 1 Try.underlying22 hi5 hx5 hy5 hw5 rfl (by decide) _ k _ rfl (own_below O1.out (by repeat (first | with_reducible refine bel_alloc ?_ _ | with_reducible exact Below.refl _ _))) _ _ 1 1 [.int .u8 0] rfl (reads_at _ _ _ _ 1 _ (by simp) rfl rfl) (by simp [Value.oneCell']) (by unfold maxLen; omega) (by omega) (by simp; omega) ?_; intro v1 w1 hown1 hg1 hb1; obtain ⟨A1, c1, rfl⟩ := own_shape hown1; have P1 := Lib.hid hown1; have P2 := Lib.hid ((own_below O2.out (by repeat (first | with_reducible refine bel_alloc ?_ _ | with_reducible exact Below.refl _ _))).kept hg1 (own_ne2 (own_below O2.out (by repeat (first | with_reducible refine bel_alloc ?_ _ | with_reducible exact Below.refl _ _))) (own_below O1.out (by repeat (first | with_reducible refine bel_alloc ?_ _ | with_reducible exact Below.refl _ _))) (by decide))); have PB := Lib.hid (bel_grown (bel_trans hb (by repeat (first | with_reducible refine bel_alloc ?_ _ | with_reducible exact Below.refl _ _))) (own_below O1.out (by repeat (first | with_reducible refine bel_alloc ?_ _ | with_reducible exact Below.refl _ _))) hg1); clear hown1 hg1 hb1) | (at_builtin; refine wpList_append_any _ rfl (.tmp 46) (.tmp 48) 25 rfl w.heap.size 4 i4 (.bool false) 1 1 Try.underlying25 hi4 hx4 hy4 hw4 rfl (by decide) _ k _ rfl (P2.out.alloc _) _ _ 1 1 [.bool false] rfl (reads_at _ _ _ _ 1 _ (by simp) rfl rfl) (by simp [Value.oneCell']) (by unfold maxLen; omega) (by omega) (by have := PB.out.size; simp; omega) ?_; intro v2 w2 hown2 hg2 hb2; obtain ⟨A2, c2, rfl⟩ := own_shape hown2; have R2 := Lib.hid hown2; have R1 := Lib.hid ((P1.out.alloc (.cells #[.bool false] 4)).kept hg2 (own_ne2 (P1.out.alloc (.cells #[.bool false] 4)) (P2.out.alloc (.cells #[.bool false] 4)) (by decide))); have RB := Lib.hid (bel_grown (bel_alloc PB.out (.cells #[.bool false] 4)) (P2.out.alloc (.cells #[.bool false] 4)) hg2); clear hown2 hg2 hb2))
              go_roundw
              case rel => exact ⟨k + 1, _, _, by go_num, by omega, rfl, rfl, Lib.hid (by rw [cMap_succ, ← H1.out]; exact R1.out), Lib.hid (by rw [gMap_succ, ← H2.out]; exact R2.out), RB.out⟩
              case measure => simp [intOf]; omega
            · rw [if_neg (by omega)] at hc1 hc2
              obtain ⟨A0, c0, hv0⟩ := own_shape O1.out
              obtain ⟨ad0, hA0, g1⟩ := own_at (u := .int .u8 (cN xs (k - 1))) (by rw [← hv0]; exact O1.out) (cMap_get xs k (k - 1) (by omega))
              subst hA0
              subst hv0
              have j0 : (0 : Int) ≤ (k : Int) - 1 := by omega
              have j1 : (k : Int) - 1 < k := by omega
              have j2 : IntKind.i64.wrap ((k : Int) - 1) = (k : Int) - 1 := by rw [IntKind.wrap_i64]; omega
              have j3 : ((k : Int) - 1).toNat = k - 1 := by omega
              have j4 : (0 : Int) < k := by omega
              have h255 := cN_ne xs (k - 1) (by rw [HL.out]; omega)
              generalize cN xs (k - 1) = p at g1 hc1 hc2 h255
              obtain ⟨q, hq⟩ : ∃ q, isL p [1, 2, 3, 4, 5, 6] = q := ⟨_, rfl⟩
              have Q := Lib.hid hq
              cases q
              · have hl7 : isL p [255, 1, 2, 3, 4, 5, 6] = false := by
                  have : (p == 255) = false := by simpa using h255
                  simp only [isL, this, Bool.false_or] at hq ⊢
                  exact hq
                have H1 := Lib.hid (show p = cN xs k by rw [hc1, cnt_nine, hl7]; rfl)
                have H2 := Lib.hid (show true = gN xs k by rw [hc2, cnt_nine, hl7]; rfl)
                clear hc1 hc2 hq hl7
                go_wp2_with (first | (go_at_call 24; (with_reducible refine (in_cs _ _ _ _ _ _ ?_).mono ?_); exact ⟨by simp, rfl, rfl, by decide⟩; rintro e w' ⟨rfl, rfl⟩; rw [show isL p (List.map intOf (#[.int .u8 1, .int .u8 2, .int .u8 3, .int .u8 4, .int .u8 5, .int .u8 6] : Array Value).toList) = _ from Q.out]; have g2 : (wr.alloc (.cells #[.int .u8 1, .int .u8 2, .int .u8 3, .int .u8 4, .int .u8 5, .int .u8 6] 5)).cell? (ad0.add (k - 1)) = some (.int .u8 p) := (World.cell?_alloc_some _ _ _ (by rw [g1]; rfl)).trans g1) | (at_builtin; refine wpList_append_any _ rfl (.tmp 42) (.tmp 44) 22 rfl w.heap.size 5 i5 (.int .u8 0) 1 1 Try.underlying22 hi5 hx5 hy5 hw5 rfl (by decide) _ k _ rfl (own_below O1.out (by repeat (first | with_reducible refine bel_alloc ?_ _ | with_reducible exact Below.refl _ _))) _ _ 1 1 [.int .u8 p] rfl (reads_at _ _ _ _ 1 _ (by simp) rfl rfl) (by simp [Value.oneCell']) (by unfold maxLen; omega) (by omega) (by simp; omega) ?_; intro v1 w1 hown1 hg1 hb1; obtain ⟨A1, c1, rfl⟩ := own_shape hown1; have P1 := Lib.hid hown1; have P2 := Lib.hid ((own_below O2.out (by repeat (first | with_reducible refine bel_alloc ?_ _ | with_reducible exact Below.refl _ _))).kept hg1 (own_ne2 (own_below O2.out (by repeat (first | with_reducible refine bel_alloc ?_ _ | with_reducible exact Below.refl _ _))) (own_below O1.out (by repeat (first | with_reducible refine bel_alloc ?_ _ | with_reducible exact Below.refl _ _))) (by decide))); have PB := Lib.hid (bel_grown (bel_trans hb (by repeat (first | with_reducible refine bel_alloc ?_ _ | with_reducible exact Below.refl _ _))) (own_below O1.out (by repeat (first | with_reducible refine bel_alloc ?_ _ | with_reducible exact Below.refl _ _))) hg1); clear hown1 hg1 hb1) | (at_builtin; refine wpList_append_any _ rfl (.tmp 46) (.tmp 48) 25 rfl w.heap.size 4 i4 (.bool false) 1 1 Try.underlying25 hi4 hx4 hy4 hw4 rfl (by decide) _ k _ rfl (P2.out.alloc _) _ _ 1 1 [.bool true] rfl (reads_at _ _ _ _ 1 _ (by simp) rfl rfl) (by simp [Value.oneCell']) (by unfold maxLen; omega) (by omega) (by have := PB.out.size; simp; omega) ?_; intro v2 w2 hown2 hg2 hb2; obtain ⟨A2, c2, rfl⟩ := own_shape hown2; have R2 := Lib.hid hown2; have R1 := Lib.hid ((P1.out.alloc (.cells #[.bool true] 4)).kept hg2 (own_ne2 (P1.out.alloc (.cells #[.bool true] 4)) (P2.out.alloc (.cells #[.bool true] 4)) (by decide))); have RB := Lib.hid (bel_grown (bel_alloc PB.out (.cells #[.bool true] 4)) (P2.out.alloc (.cells #[.bool true] 4)) hg2); clear hown2 hg2 hb2))
                go_roundw
                case rel => exact ⟨k + 1, _, _, by go_num, by omega, rfl, rfl, Lib.hid (by rw [cMap_succ, ← H1.out]; exact R1.out), Lib.hid (by rw [gMap_succ, ← H2.out]; exact R2.out), RB.out⟩
                case measure => simp [intOf]; omega
              · have hl7 : isL p [255, 1, 2, 3, 4, 5, 6] = true := by
                  have : (p == 255) = false := by simpa using h255
                  simp only [isL, this, Bool.false_or] at hq ⊢
                  exact hq
                have H1 := Lib.hid (show (0 : Int) = cN xs k by rw [hc1, cnt_nine, hl7]; rfl)
                have H2 := Lib.hid (show false = gN xs k by rw [hc2, cnt_nine, hl7]; rfl)
                clear hc1 hc2 hq hl7
                go_wp2_with (first | (go_at_call 24; (with_reducible refine (in_cs _ _ _ _ _ _ ?_).mono ?_); exact ⟨by simp, rfl, rfl, by decide⟩; rintro e w' ⟨rfl, rfl⟩; rw [show isL p (List.map intOf (#[.int .u8 1, .int .u8 2, .int .u8 3, .int .u8 4, .int .u8 5, .int .u8 6] : Array Value).toList) = _ from Q.out]; have g2 : (wr.alloc (.cells #[.int .u8 1, .int .u8 2, .int .u8 3, .int .u8 4, .int .u8 5, .int .u8 6] 5)).cell? (ad0.add (k - 1)) = some (.int .u8 p) := (World.cell?_alloc_some _ _ _ (by rw [g1]; rfl)).trans g1) | (at_builtin; refine wpList_append_any _ rfl (.tmp 42) (.tmp 44) 22 rfl w.heap.size 5 i5 (.int .u8 0) 1 1 Try.underlying22 hi5 hx5 hy5 hw5 rfl (by decide) _ k _ rfl (own_below O1.out (by repeat (first | with_reducible refine bel_alloc ?_ _ | with_reducible exact Below.refl _ _))) _ _ 1 1 [.int .u8 0] rfl (reads_at _ _ _ _ 1 _ (by simp) rfl rfl) (by simp [Value.oneCell']) (by unfold maxLen; omega) (by omega) (by simp; omega) ?_; intro v1 w1 hown1 hg1 hb1; obtain ⟨A1, c1, rfl⟩ := own_shape hown1; have P1 := Lib.hid hown1; have P2 := Lib.hid ((own_below O2.out (by repeat (first | with_reducible refine bel_alloc ?_ _ | with_reducible exact Below.refl _ _))).kept hg1 (own_ne2 (own_below O2.out (by repeat (first | with_reducible refine bel_alloc ?_ _ | with_reducible exact Below.refl _ _))) (own_below O1.out (by repeat (first | with_reducible refine bel_alloc ?_ _ | with_reducible exact Below.refl _ _))) (by decide))); have PB := Lib.hid (bel_grown (bel_trans hb (by repeat (first | with_reducible refine bel_alloc ?_ _ | with_reducible exact Below.refl _ _))) (own_below O1.out (by repeat (first | with_reducible refine bel_alloc ?_ _ | with_reducible exact Below.refl _ _))) hg1); clear hown1 hg1 hb1) | (at_builtin; refine wpList_append_any _ rfl (.tmp 46) (.tmp 48) 25 rfl w.heap.size 4 i4 (.bool false) 1 1 Try.underlying25 hi4 hx4 hy4 hw4 rfl (by decide) _ k _ rfl (P2.out.alloc _) _ _ 1 1 [.bool false] rfl (reads_at _ _ _ _ 1 _ (by simp) rfl rfl) (by simp [Value.oneCell']) (by unfold maxLen; omega) (by omega) (by have := PB.out.size; simp; omega) ?_; intro v2 w2 hown2 hg2 hb2; obtain ⟨A2, c2, rfl⟩ := own_shape hown2; have R2 := Lib.hid hown2; have R1 := Lib.hid ((P1.out.alloc (.cells #[.bool false] 4)).kept hg2 (own_ne2 (P1.out.alloc (.cells #[.bool false] 4)) (P2.out.alloc (.cells #[.bool false] 4)) (by decide))); have RB := Lib.hid (bel_grown (bel_alloc PB.out (.cells #[.bool false] 4)) (P2.out.alloc (.cells #[.bool false] 4)) hg2); clear hown2 hg2 hb2))
                go_roundw
                case rel => exact ⟨k + 1, _, _, by go_num, by omega, rfl, rfl, Lib.hid (by rw [cMap_succ, ← H1.out]; exact R1.out), Lib.hid (by rw [gMap_succ, ← H2.out]; exact R2.out), RB.out⟩
                case measure => simp [intOf]; omega
          · have H1 := Lib.hid (show x = cN xs k by rw [hc1]; unfold cnt; rw [if_neg h1, if_neg h2, if_pos h3])
            have H2 := Lib.hid (show false = gN xs k by rw [hc2]; unfold cnt; rw [if_neg h1, if_neg h2, if_pos h3])
            have t3 : (x == 9) = false := by simpa using h3
            clear hc1 hc2 h1 h3
            go_wp2_with (first | (at_builtin; refine wpList_append_any _ rfl (.tmp 42) (.tmp 44) 22 rfl w.heap.size 5 i5 (.int .u8 0) 1 1 Try.underlying22 hi5 hx5 hy5 hw5 rfl (by decide) _ k _ rfl (own_below O1.out (by repeat (first | with_reducible refine bel_alloc ?_ _ | with_reducible exact Below.refl _ _))) _ _ 1 1 [.int .u8 x] rfl (reads_at _ _ _ _ 1 _ (by simp) rfl rfl) (by simp [Value.oneCell']) (by unfold maxLen; omega) (by omega) (by simp; omega) ?_; intro v1 w1 hown1 hg1 hb1; obtain ⟨A1, c1, rfl⟩ := own_shape hown1; have P1 := Lib.hid hown1; have P2 := Lib.hid ((own_below O2.out (by repeat (first | with_reducible refine bel_alloc ?_ _ | with_reducible exact Below.refl _ _))).kept hg1 (own_ne2 (own_below O2.out (by repeat (first | with_reducible refine bel_alloc ?_ _ | with_reducible exact Below.refl _ _))) (own_below O1.out (by repeat (first | with_reducible refine bel_alloc ?_ _ | with_reducible exact Below.refl _ _))) (by decide))); have PB := Lib.hid (bel_grown (bel_trans hb (by repeat (first | with_reducible refine bel_alloc ?_ _ | with_reducible exact Below.refl _ _))) (own_below O1.out (by repeat (first | with_reducible refine bel_alloc ?_ _ | with_reducible exact Below.refl _ _))) hg1); clear hown1 hg1 hb1) | (at_builtin; refine wpList_append_any _ rfl (.tmp 46) (.tmp 48) 25 rfl w.heap.size 4 i4 (.bool false) 1 1 Try.underlying25 hi4 hx4 hy4 hw4 rfl (by decide) _ k _ rfl (P2.out.alloc _) _ _ 1 1 [.bool false] rfl (reads_at _ _ _ _ 1 _ (by simp) rfl rfl) (by simp [Value.oneCell']) (by unfold maxLen; omega) (by omega) (by have := PB.out.size; simp; omega) ?_; intro v2 w2 hown2 hg2 hb2; obtain ⟨A2, c2, rfl⟩ := own_shape hown2; have R2 := Lib.hid hown2; have R1 := Lib.hid ((P1.out.alloc (.cells #[.bool false] 4)).kept hg2 (own_ne2 (P1.out.alloc (.cells #[.bool false] 4)) (P2.out.alloc (.cells #[.bool false] 4)) (by decide))); have RB := Lib.hid (bel_grown (bel_alloc PB.out (.cells #[.bool false] 4)) (P2.out.alloc (.cells #[.bool false] 4)) hg2); clear hown2 hg2 hb2))
            go_roundw
            case rel => exact ⟨k + 1, _, _, by go_num, by omega, rfl, rfl, Lib.hid (by rw [cMap_succ, ← H1.out]; exact R1.out), Lib.hid (by rw [gMap_succ, ← H2.out]; exact R2.out), RB.out⟩
            case measure => simp [intOf]; omega
    · obtain rfl : k = n := by omega
      obtain ⟨A1, c1, rfl⟩ := own_shape O1.out
      obtain ⟨A2, c2, rfl⟩ := own_shape O2.out
      have RR := Lib.hid (And.intro (Reads.of_own O1.out) (Reads.of_own O2.out))
      go_wp2
      go_ret2
      exact ⟨A1, c1, A2, c2, rfl, RR.out.1, RR.out.2, hb⟩
end Go.Proofs.Ytlobedonclimbaa.Pair

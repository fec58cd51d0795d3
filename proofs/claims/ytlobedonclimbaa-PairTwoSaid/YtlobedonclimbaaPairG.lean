/- Chapter 9: what an added character turns, and what a prefix keeps: in plain words. No condition. -/
import Derived.Test.YtlobedonclimbaaPairL
import Derived.Test.YtlobedonclimbaaPairH
namespace Go.Proofs.Ytlobedonclimbaa.Pair
open Go.RowKit
set_option linter.unusedVariables false
set_option linter.unusedSimpArgs false

theorem Reads.cutTo {w : World} {B n m : Nat} {A : Option Addr} {xs : List Value} (h : Reads w B 1 A n xs) (hm : m ≤ n) : Reads w B 1 A m (xs.take m) := by
  refine ⟨by simp; have := h.1; omega, fun h0 => ?_⟩
  obtain ⟨ad, hA, hb, hc⟩ := h.2 (by omega)
  refine ⟨ad, hA, hb, fun j u hu => hc j u ?_⟩
  rw [List.getElem?_take] at hu
  split at hu
  · exact hu
  · cases hu
theorem tell_range' {β : Type} (z : β) (f : Nat → β) (xs : List Int) : tellL z f xs = (List.range xs.length).map fun i => if i = 0 then z else f (ruleP (pAt xs i).2) := by
  unfold tellL
  rw [states_eq]
  cases xs with
  | nil => rfl
  | cons c l =>
    rw [List.length_cons, List.range_succ_eq_map]
    simp only [List.map_cons, List.map_map, if_true]
    congr 1
theorem pAt_take (xs : List Int) (k i : Nat) (h : i < k) : pAt (xs.take k) i = pAt xs i := by
  unfold pAt
  rw [List.take_take, show min (i + 1) k = i + 1 by omega]
theorem tell_take {β : Type} (z : β) (f : Nat → β) (xs : List Int) (k : Nat) (h : k ≤ xs.length) : tellL z f (xs.take k) = (tellL z f xs).take k := by
  rw [tell_range', tell_range', ← List.map_take, List.take_range, List.length_take]
  refine List.map_congr_left fun i hi => ?_
  rw [pAt_take xs k i (by have := List.mem_range.1 hi; omega)]
theorem tell_get {β : Type} (z : β) (f : Nat → β) (xs : List Int) (i : Nat) (h : i < xs.length) : (tellL z f xs)[i]? = some (if i = 0 then z else f (ruleP (pAt xs i).2)) := by
  rw [tell_range', List.getElem?_map, List.getElem?_range h]
  rfl
theorem must_may (k : Nat) (h : mustR k = true) : mayR k = true := by
  unfold mustR at h
  exact (Bool.and_eq_true_iff.1 h).1
def mayAt (xs : List Int) (i : Nat) : Bool := if i = 0 then false else mayR (ruleP (pAt xs i).2)
def mustAt (xs : List Int) (i : Nat) : Bool := if i = 0 then false else mustR (ruleP (pAt xs i).2)
theorem mustAt_may (xs : List Int) (i : Nat) : mustAt xs i = false ∨ (mustAt xs i = true ∧ mayAt xs i = true) := by
  unfold mustAt mayAt
  by_cases h : i = 0
  · rw [if_pos h]; exact .inl rfl
  · rw [if_neg h, if_neg h]
    cases e : mustR (ruleP (pAt xs i).2)
    · exact .inl rfl
    · exact .inr ⟨rfl, must_may _ e⟩
theorem tell_cell {w : World} {B n i : Nat} {A : Option Addr} {β : Type} (enc : β → Value) (z : β) (f : Nat → β) (xs : List Int) (hl : xs.length = n) (h : Reads w B 1 A n ((tellL z f xs).map enc)) (hi : i < n) :
    ∃ ad, A = some ad ∧ ad.block < B ∧ w.cell? (ad.add i) = some (enc (if i = 0 then z else f (ruleP (pAt xs i).2))) := by
  obtain ⟨ad, u, hA, hb, hu, hc⟩ := h.at_ hi
  refine ⟨ad, hA, hb, ?_⟩
  rw [List.getElem?_map, tell_get z f xs i (by omega)] at hu
  cases hu
  exact hc
theorem drop_at {α : Type} (X Y : List α) (m j : Nat) (h : X.length = m) : (X ++ Y).drop (m + j) = Y.drop j := by
  subst h
  rw [List.drop_append, List.drop_eq_nil_of_le (by omega), List.nil_append, show X.length + j - X.length = j by omega]
theorem tell_drop {β : Type} (z : β) (f : Nat → β) (l : List Int) (m : Nat) (hm : 1 ≤ m) : (tellL z f l).drop m = ((states pl0 l).drop m).map fun p => f (ruleP p) := by
  unfold tellL
  cases h : states pl0 l with
  | nil => simp
  | cons p r =>
    obtain ⟨m, rfl⟩ : ∃ j, m = j + 1 := ⟨m - 1, by omega⟩
    simp only [List.drop_succ_cons, List.map_drop]
theorem states_after (p : Pl) (c0 : Int) (hp : ∀ c, stepP (stepP p c0) c = stepP p c) (B : List Int) : states (stepP p c0) B = states p B := by
  cases B with
  | nil => rfl
  | cons c B => simp only [states, hp]
theorem tell_insert {β : Type} (z : β) (f : Nat → β) (l : List Int) (k : Nat) (c0 : Int) (hk : k < l.length) (hp : ∀ c, stepP (stepP (finalP pl0 (l.take (k + 1))) c0) c = stepP (finalP pl0 (l.take (k + 1))) c) :
    (tellL z f (l.take (k + 1) ++ c0 :: l.drop (k + 1))).drop (k + 2) = (tellL z f l).drop (k + 1) := by
  have h1 : (l.take (k + 1)).length = k + 1 := by simp; omega
  rw [tell_drop z f _ _ (by omega), tell_drop z f _ _ (by omega), states_append]
  conv => rhs; rw [← List.take_append_drop (k + 1) l, states_append]
  have e1 : (states pl0 (l.take (k + 1))).length = k + 1 := by rw [states_length, h1]
  rw [show k + 2 = (k + 1) + 1 by omega, drop_at _ _ _ 1 e1]
  have e2 := drop_at (states pl0 (l.take (k + 1))) (states (finalP pl0 (l.take (k + 1))) (l.drop (k + 1))) (k + 1) 0 e1
  rw [Nat.add_zero] at e2
  rw [e2]
  simp only [states, List.drop_succ_cons, List.drop_zero]
  rw [states_after _ _ hp]
theorem tell_insert_take {β : Type} (z : β) (f : Nat → β) (l : List Int) (k : Nat) (c0 : Int) (hk : k < l.length) :
    (tellL z f (l.take (k + 1) ++ c0 :: l.drop (k + 1))).take (k + 1) = (tellL z f l).take (k + 1) := by
  have h1 : (l.take (k + 1)).length = k + 1 := by simp; omega
  rw [← tell_take z f _ (k + 1) (by simp; omega), ← tell_take z f _ (k + 1) (by omega)]
  rw [List.take_append_of_le_length (by omega), List.take_of_length_le (by omega)]
theorem ins_final (l : List Int) (k : Nat) (c0 : Int) (hk : k < l.length) : finalP pl0 ((l.take (k + 1) ++ c0 :: l.drop (k + 1)).take (k + 1 + 1)) = stepP (finalP pl0 (l.take (k + 1))) c0 := by
  have h1 : (l.take (k + 1)).length = k + 1 := by simp; omega
  rw [show l.take (k + 1) ++ c0 :: l.drop (k + 1) = (l.take (k + 1) ++ [c0]) ++ l.drop (k + 1) by simp, List.take_append_of_le_length (by simp; omega), List.take_of_length_le (by simp; omega), finalP_snoc]
theorem mark_step (p : Pl) (h : (cnt 9 p.b).2 = true) : (∀ c, stepP (stepP p 9) c = stepP p c) ∧ mayR (ruleP (stepP p 9)) = false := by
  have hb : isL p.b [255, 1, 2, 3, 4, 5, 6] = false := by
    cases e : isL p.b [255, 1, 2, 3, 4, 5, 6]
    · rfl
    · simp [cnt, e] at h
  have hc : cnt 9 p.b = (p.b, true) := by simp [cnt, hb]
  have hn : p.b ≠ 255 ∧ p.b ≠ 1 ∧ p.b ≠ 2 ∧ p.b ≠ 3 ∧ p.b ≠ 4 ∧ p.b ≠ 5 ∧ p.b ≠ 6 := by simpa [isL] using hb
  obtain ⟨n0, n1, n2, n3, n4, n5, n6⟩ := hn
  have hs : stepP p 9 = ⟨p.b, p.b, p.b, true⟩ := by simp [stepP, hc, lastO, n5, n0]
  refine ⟨fun c => ?_, ?_⟩
  · rw [hs]; simp [stepP, lastO, n5, n0]
  · rw [hs]
    have hr : ruleP ⟨p.b, p.b, p.b, true⟩ = 6 := by
      unfold ruleP
      simp [firstR, isR, bothL, isL, n1, n2, n3, n4, n5, n6]
    rw [hr]; rfl
theorem space_step (p : Pl) (h : p.b = 5) : (∀ c, stepP (stepP p 5) c = stepP p c) ∧ numR (ruleP (stepP p 5)) = 7 := by
  have hs : stepP p 5 = ⟨5, p.o, 5, false⟩ := by simp [stepP, h, lastO, cnt]
  refine ⟨fun c => ?_, ?_⟩
  · rw [hs]; simp [stepP, lastO, h]
  · rw [hs]
    have hr : ruleP ⟨5, p.o, 5, false⟩ = 4 := by
      unfold ruleP
      simp [firstR, isR, bothL, isL]
    rw [hr]; rfl
end Go.Proofs.Ytlobedonclimbaa.Pair

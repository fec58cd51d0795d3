/- Chapter 9: the reference's rules and the table's are the same: in plain words. No condition. -/
import Derived.Test.YtlobedonclimbaaPairM
namespace Go.Proofs.Ytlobedonclimbaa.Pair
set_option linter.unusedVariables false

theorem ruleP_at (p : Pl) (k : Nat) (hk : k < 25) (h : isR k p = true) (hf : ∀ j, j < k → isR j p = false) : ruleP p = k := by
  obtain ⟨h1, h2⟩ := ruleP_is p
  have h3 := ruleP_lt p
  rcases Nat.lt_trichotomy (ruleP p) k with h4 | h4 | h4
  · rw [hf _ h4] at h1; cases h1
  · exact h4
  · rw [h2 k h4] at h; cases h
theorem r19_eq (a b : Int) : bothL a b [0, 22, 22, 0, 23, 25, 25, 24] = amL a b [(0, 22), (22, 0), (23, 25), (25, 24)] := by
  rw [Bool.eq_iff_iff]; simp [bothL, amL]; omega
theorem r20_eq (a b : Int) : bothL a b [23, 0, 24, 0, 0, 23, 0, 24] = amL a b [(23, 0), (24, 0), (0, 23), (0, 24)] := by
  rw [Bool.eq_iff_iff]; simp [bothL, amL]; omega
theorem r21_eq (a b : Int) : (isL a [15, 22] && isL b [24, 23] || isL a [24, 23] && isL b [14, 22] || isL a [13, 18, 22] && b == 22) = amL a b [(15, 24), (15, 23), (22, 24), (22, 23), (24, 14), (24, 22), (23, 14), (23, 22), (13, 22), (18, 22), (22, 22)] := by
  by_cases h15 : a = 15
  · subst h15; rw [Bool.eq_iff_iff]; simp [isL, amL]; try omega
  by_cases h22 : a = 22
  · subst h22; rw [Bool.eq_iff_iff]; simp [isL, amL]; try omega
  by_cases h24 : a = 24
  · subst h24; rw [Bool.eq_iff_iff]; simp [isL, amL]; try omega
  by_cases h23 : a = 23
  · subst h23; rw [Bool.eq_iff_iff]; simp [isL, amL]; try omega
  by_cases h13 : a = 13
  · subst h13; rw [Bool.eq_iff_iff]; simp [isL, amL]; try omega
  by_cases h18 : a = 18
  · subst h18; rw [Bool.eq_iff_iff]; simp [isL, amL]; try omega
  have g : ∀ v : Int, a ≠ v → (a == v) = false ∧ (v == a) = false := fun v h => ⟨by simpa using h, by simpa using Ne.symm h⟩
  simp only [isL, amL, (g 15 h15).1, (g 15 h15).2, (g 22 h22).1, (g 22 h22).2, (g 24 h24).1, (g 24 h24).2, (g 23 h23).1, (g 23 h23).2, (g 13 h13).1, (g 13 h13).2, (g 18 h18).1, (g 18 h18).2, Bool.false_and, Bool.or_false]
theorem r22_eq (a b : Int) : bothL a b [0, 0] = (a == 0 && b == 0) := by simp [bothL]
theorem r23_eq (a b : Int) : bothL a b [18, 0] = (a == 18 && b == 0) := by simp [bothL]
/-- What the rule that applies says. -/
def saysP (p : Pl) : Int × Bool := (numR (ruleP p), mayR (ruleP p))
theorem saysP_at (p : Pl) (k : Nat) (hk : k < 25) (h : isR k p = true) (hf : ∀ j, j < k → isR j p = false) : saysP p = (numR k, mayR k) := by
  unfold saysP; rw [ruleP_at p k hk h hf]
theorem saysP_last (p : Pl) (hf : ∀ j, j < 19 → isR j p = false) : saysP p = lastS p.a p.b := by
  have more : ∀ k : Nat, (∀ j, j < k → isR j p = false) → isR k p = false → ∀ j, j < k + 1 → isR j p = false := fun k h h1 j hj => by
    by_cases e : j = k
    · subst e; exact h1
    · exact h j (by omega)
  have e19 : isR 19 p = amL p.a p.b [(0, 22), (22, 0), (23, 25), (25, 24)] := r19_eq _ _
  have e20 : isR 20 p = amL p.a p.b [(23, 0), (24, 0), (0, 23), (0, 24)] := r20_eq _ _
  have e21 : isR 21 p = amL p.a p.b [(15, 24), (15, 23), (22, 24), (22, 23), (24, 14), (24, 22), (23, 14), (23, 22), (13, 22), (18, 22), (22, 22)] := r21_eq _ _
  have e22 : isR 22 p = (p.a == 0 && p.b == 0) := r22_eq _ _
  have e23 : isR 23 p = (p.a == 18 && p.b == 0) := r23_eq _ _
  unfold lastS
  rw [← e19, ← e20, ← e21, ← e22, ← e23]
  cases h19 : isR 19 p
  · have hf := more 19 hf h19
    cases h20 : isR 20 p
    · have hf := more 20 hf h20
      cases h21 : isR 21 p
      · have hf := more 21 hf h21
        cases h22 : isR 22 p
        · have hf := more 22 hf h22
          cases h23 : isR 23 p
          · have hf := more 23 hf h23
            exact saysP_at p 24 (by omega) rfl hf
          · exact saysP_at p 23 (by omega) h23 hf
        · exact saysP_at p 22 (by omega) h22 hf
      · exact saysP_at p 21 (by omega) h21 hf
    · exact saysP_at p 20 (by omega) h20 hf
  · exact saysP_at p 19 (by omega) h19 hf
theorem ne2 (a b : Int) (h : isL a [2, 3, 4] = true) : bothL a b [2, 3] = !((a != 2) || (b != 3)) := by
  rw [Bool.eq_iff_iff]; simp [bothL]

/-- The last character that is no space, ahead of the k-th one. -/
def oN (xs : List Int) (k : Nat) : Int := (finalP pl0 (xs.take (k + 1))).o
theorem oN_zero (xs : List Int) (h : 0 < xs.length) : oN xs 0 = 255 := by
  unfold oN
  rw [final_take xs 0 h]
  rfl
theorem oN_succ (xs : List Int) (k : Nat) (h : k + 1 < xs.length) : oN xs (k + 1) = if cN xs k = 5 then oN xs k else cN xs k := by
  have hn := cN_ne xs k (by omega)
  unfold oN
  rw [final_take xs (k + 1) h]
  show lastO (cN xs k) (oN xs k) = _
  unfold lastO
  by_cases h5 : cN xs k = 5
  · rw [if_pos h5, if_neg (fun h => h.1 h5)]; rfl
  · rw [if_neg h5, if_pos ⟨h5, hn⟩]
theorem pAt_eq (xs : List Int) (i : Nat) (h : 1 ≤ i) (hl : i < xs.length) : (pAt xs i).2 = ⟨cN xs (i - 1), oN xs i, cN xs i, gN xs i⟩ := by
  have : (finalP pl0 (xs.take (i + 1))).a = cN xs (i - 1) := by
    rw [final_take xs i hl]
    show (finalP pl0 (xs.take i)).b = _
    rw [finalP_b xs i (by omega), if_neg (by omega)]
  unfold pAt oN gN
  rw [← this]
  rfl
theorem take_cN (xs : List Int) (m k : Nat) (h : k < m) : cN (xs.take m) k = cN xs k ∧ gN (xs.take m) k = gN xs k := by
  unfold cN gN
  rw [List.take_take, show min (k + 1) m = k + 1 by omega]
  exact ⟨rfl, rfl⟩
end Go.Proofs.Ytlobedonclimbaa.Pair

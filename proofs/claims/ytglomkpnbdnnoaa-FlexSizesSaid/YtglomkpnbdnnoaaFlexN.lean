/- Chapter 23: shares in plain numbers: rounded parts of a number by weights; together they are the number. No condition but bounds. -/
import Derived.Test.YtglomkpnbdnnoaaScaleIn
namespace Go.Proofs.Ytglomkpnbdnnoaa.Flex
open Go.RowKit Go.Proofs.Ytglomkpnbdnnoaa.Unit Go.Proofs.Ytglomkpnbdnnoaa.Div
set_option linter.unusedVariables false
set_option linter.unusedSimpArgs false
/-- Scale of a part of a whole. -/
theorem scV_share (n b o : Int) (n0 : 0 ≤ n) (n1 : n ≤ 70368744177664) (b0 : 0 ≤ b) (b1 : b ≤ o) (ho : 1 ≤ o) : scV n b o = rnd (n * b) o ∧ scE n b o = 0 := by
  obtain ⟨k, rfl⟩ : ∃ k : Nat, o = (k : Int) := ⟨o.toNat, by omega⟩
  have hneg : negB n b = false := by
    have h1 : ¬ n < 0 := by omega
    have h2 : ¬ b < 0 := by omega
    simp [negB, h1, h2]
  have hP : ((n.natAbs * b.natAbs : Nat) : Int) = n * b := by
    rw [Int.natCast_mul, Int.natAbs_of_nonneg n0, Int.natAbs_of_nonneg b0]
  have hle1 : n.natAbs * b.natAbs ≤ k * n.natAbs := by rw [Nat.mul_comm k]; exact Nat.mul_le_mul (Nat.le_refl _) (by omega)
  obtain ⟨P, hPd⟩ : ∃ P, n.natAbs * b.natAbs = P := ⟨_, rfl⟩
  rw [hPd] at hP hle1
  have hd := Nat.div_add_mod P k
  have hm := Nat.mod_lt P (show 0 < k by omega)
  have hq : P / k ≤ n.natAbs := Nat.div_le_of_le_mul hle1
  have hab : absQ n b k = P / k + if upB (negB n b) (P % k) k then 1 else 0 := by rw [absQ, hPd]
  have eV : scV n b (k : Int) = if 4611686018427387904 < absQ n b k then 0 else if negB n b then -(absQ n b k : Int) else (absQ n b k : Int) := by
    rw [scV, if_neg (by omega), Int.toNat_natCast]
  have eE : scE n b (k : Int) = if 4611686018427387904 < absQ n b k then 10 else 0 := by
    rw [scE, if_neg (by omega), Int.toNat_natCast]
  rw [eV, eE]
  clear eV eE
  obtain ⟨q, hqd⟩ : ∃ q, P / k = q := ⟨_, rfl⟩
  obtain ⟨r, hrd⟩ : ∃ r, P % k = r := ⟨_, rfl⟩
  rw [hqd, hrd] at hab
  rw [hqd, hrd] at hd
  rw [hrd] at hm
  rw [hqd] at hq
  have hle : absQ n b k ≤ 4611686018427387904 := by
    rw [hab]
    split <;> omega
  rw [if_neg (show ¬ 4611686018427387904 < absQ n b k by omega), if_neg (show ¬ 4611686018427387904 < absQ n b k by omega), hab, hneg]
  refine ⟨?_, rfl⟩
  have hdI : (k : Int) * q + r = P := by rw [← hd]; simp
  simp only [Bool.false_eq_true, if_false]
  rw [← hP, ← hdI, Int.mul_comm, rnd_split _ _ _ (by omega), half_step _ _ (by omega) (by omega) (by omega)]
  by_cases u : k - r ≤ r
  · rw [show upB false r k = true by simp [upB, u]]; simp only [if_true]; (repeat' split) <;> omega
  · rw [show upB false r k = false by simp [upB, u]]; simp only [Bool.false_eq_true, if_false]; (repeat' split) <;> omega
theorem share_scale (n b o : Int) (n0 : 0 ≤ n) (n1 : n ≤ 70368744177664) (b0 : 0 ≤ b) (b1 : b ≤ o) (ho : 1 ≤ o) (o1 : o ≤ 9223372036854775807) : cC n b o (rnd (n * b) o) 0 ∧ cR n b o (rnd (n * b) o) 0 := by
  have h := scV_share n b o n0 n1 b0 b1 ho
  refine ⟨fun W => ?_, fun W => ?_⟩
  · have c := scale_any n b o (by omega) (by omega) (by omega) (by omega) o1 W
    rw [h.1, h.2] at c
    exact c
  · have c := rscale_any n b o (by omega) (by omega) (by omega) (by omega) o1 W
    rw [h.1, h.2] at c
    exact c
/-! ### sums -/
/-- The sum of the first ones. -/
def sT (xs : List Int) (k : Nat) : Int := (xs.take k).sum
theorem sT_zero (xs : List Int) : sT xs 0 = 0 := rfl
theorem sT_all (xs : List Int) (n : Nat) (h : xs.length ≤ n) : sT xs n = xs.sum := by unfold sT; rw [List.take_of_length_le h]
theorem sT_succ (xs : List Int) (k : Nat) (x : Int) (h : xs[k]? = some x) : sT xs (k + 1) = sT xs k + x := by
  unfold sT
  obtain ⟨hk, rfl⟩ := List.getElem?_eq_some_iff.1 h
  rw [List.take_succ_eq_append_getElem hk, List.sum_append]
  simp
theorem sT_far (xs : List Int) (k : Nat) (h : xs.length ≤ k) : sT xs (k + 1) = sT xs k := by rw [sT_all _ _ h, sT_all _ _ (by omega)]
theorem sum_bd (xs : List Int) (a b : Int) (h : ∀ x ∈ xs, a ≤ x ∧ x ≤ b) : a * (xs.length : Int) ≤ xs.sum ∧ xs.sum ≤ b * (xs.length : Int) := by
  induction xs with
  | nil => simp
  | cons x xs ih =>
    obtain ⟨h1, h2⟩ := ih (fun y hy => h y (by simp [hy]))
    obtain ⟨h3, h4⟩ := h x (by simp)
    rw [List.sum_cons, List.length_cons]
    have e : ∀ c : Int, c * ((xs.length + 1 : Nat) : Int) = c * (xs.length : Int) + c := fun c => by push_cast; rw [Int.mul_add, Int.mul_one]
    rw [e, e]
    omega
theorem sT_bd (xs : List Int) (k : Nat) (b : Int) (hb : 0 ≤ b) (h : ∀ x ∈ xs, 0 ≤ x ∧ x ≤ b) : 0 ≤ sT xs k ∧ sT xs k ≤ b * (xs.length : Int) := by
  have := sum_bd (xs.take k) 0 b (fun x hx => h x (List.mem_of_mem_take hx))
  unfold sT
  have h2 : b * ((xs.take k).length : Int) ≤ b * (xs.length : Int) := Int.mul_le_mul_of_nonneg_left (by rw [List.length_take]; omega) hb
  omega
theorem sT_mono (xs : List Int) (h : ∀ x ∈ xs, 0 ≤ x) (j : Nat) : ∀ k, sT xs j ≤ sT xs (j + k)
  | 0 => Int.le_refl _
  | k + 1 => by
    have ih := sT_mono xs h j k
    rcases Nat.lt_or_ge (j + k) xs.length with g | g
    · have e := sT_succ xs (j + k) _ (List.getElem?_eq_getElem g)
      have := h _ (List.getElem_mem g)
      rw [← Nat.add_assoc, e]
      omega
    · rw [← Nat.add_assoc, sT_far xs (j + k) g]
      exact ih
theorem sT_le (xs : List Int) (h : ∀ x ∈ xs, 0 ≤ x) (j k : Nat) (hjk : j ≤ k) : sT xs j ≤ sT xs k := by
  have := sT_mono xs h j (k - j)
  rwa [Nat.add_sub_cancel' hjk] at this
theorem sT_le_sum (xs : List Int) (h : ∀ x ∈ xs, 0 ≤ x) (k : Nat) : sT xs k ≤ xs.sum := by
  have := sT_le xs h k (k + xs.length) (by omega)
  rwa [sT_all xs (k + xs.length) (by omega)] at this
theorem sT_nonneg (xs : List Int) (h : ∀ x ∈ xs, 0 ≤ x) (k : Nat) : 0 ≤ sT xs k := by
  have := sT_le xs h 0 k (by omega)
  rwa [sT_zero] at this
theorem sum_zero_all (xs : List Int) (h : ∀ x ∈ xs, 0 ≤ x) (hs : xs.sum = 0) : ∀ x ∈ xs, x = 0 := by
  induction xs with
  | nil => intro x hx; cases hx
  | cons y ys ih =>
    have h1 := sT_nonneg ys (fun x hx => h x (by simp [hx])) ys.length
    rw [sT_all ys _ (Nat.le_refl _)] at h1
    have h2 := h y (by simp)
    rw [List.sum_cons] at hs
    intro x hx
    rcases List.mem_cons.1 hx with rfl | hx
    · omega
    · exact ih (fun x hx => h x (by simp [hx])) (by omega) x hx

/-! ### shares -/
/-- The place in the number behind the first k. -/
def cutN (n : Int) (ws : List Int) (k : Nat) : Int := rnd (n * sT ws k) ws.sum
def shN (n : Int) (ws : List Int) (k : Nat) : Int := cutN n ws (k + 1) - cutN n ws k
def shareL (n : Int) (ws : List Int) : List Int := (List.range ws.length).map (shN n ws)
theorem shareL_len (n : Int) (ws : List Int) : (shareL n ws).length = ws.length := by unfold shareL; simp
theorem shareL_at (n : Int) (ws : List Int) (k : Nat) (h : k < ws.length) : (shareL n ws)[k]? = some (shN n ws k) := by unfold shareL; simp [h]
theorem rnd_zero (o : Int) (ho : 1 ≤ o) : rnd 0 o = 0 := by
  have := rnd_self 0 o ho
  rwa [Int.zero_mul] at this
theorem cutN_zero (n : Int) (ws : List Int) (h : 1 ≤ ws.sum) : cutN n ws 0 = 0 := by unfold cutN; rw [sT_zero, Int.mul_zero, rnd_zero _ h]
theorem cutN_all (n : Int) (ws : List Int) (h : 1 ≤ ws.sum) : cutN n ws ws.length = n := by unfold cutN; rw [sT_all _ _ (Nat.le_refl _), rnd_self _ _ h]
theorem cutN_mono (n : Int) (ws : List Int) (n0 : 0 ≤ n) (hw : ∀ x ∈ ws, 0 ≤ x) (h : 1 ≤ ws.sum) (j k : Nat) (hjk : j ≤ k) : cutN n ws j ≤ cutN n ws k :=
  rnd_mono _ _ _ h (Int.mul_le_mul_of_nonneg_left (sT_le ws hw j k hjk) n0)
theorem cutN_bd (n : Int) (ws : List Int) (n0 : 0 ≤ n) (hw : ∀ x ∈ ws, 0 ≤ x) (h : 1 ≤ ws.sum) (k : Nat) : 0 ≤ cutN n ws k ∧ cutN n ws k ≤ n := by
  have h1 := cutN_mono n ws n0 hw h 0 k (by omega)
  have h2 : cutN n ws k ≤ n := by
    have := rnd_mono (n * sT ws k) (n * ws.sum) ws.sum h (Int.mul_le_mul_of_nonneg_left (sT_le_sum ws hw k) n0)
    rwa [rnd_self _ _ h] at this
  rw [cutN_zero n ws h] at h1
  exact ⟨h1, h2⟩
theorem shN_nonneg (n : Int) (ws : List Int) (n0 : 0 ≤ n) (hw : ∀ x ∈ ws, 0 ≤ x) (h : 1 ≤ ws.sum) (k : Nat) : 0 ≤ shN n ws k := by
  have := cutN_mono n ws n0 hw h k (k + 1) (by omega)
  unfold shN; omega
theorem shN_le (n : Int) (ws : List Int) (n0 : 0 ≤ n) (hw : ∀ x ∈ ws, 0 ≤ x) (h : 1 ≤ ws.sum) (k : Nat) : shN n ws k ≤ n := by
  have h1 := cutN_bd n ws n0 hw h (k + 1)
  have h2 := cutN_bd n ws n0 hw h k
  unfold shN; omega
theorem shN_none (n : Int) (ws : List Int) (k : Nat) (h : ws[k]? = some 0) : shN n ws k = 0 := by
  unfold shN cutN
  rw [sT_succ ws k 0 h, Int.add_zero]
  omega
theorem shareL_sT (n : Int) (ws : List Int) (h : 1 ≤ ws.sum) : ∀ k, k ≤ ws.length → sT (shareL n ws) k = cutN n ws k
  | 0, _ => by rw [sT_zero, cutN_zero n ws h]
  | k + 1, hk => by
    rw [sT_succ _ k _ (shareL_at n ws k (by omega)), shareL_sT n ws h k (by omega)]
    unfold shN
    omega
theorem shareL_sum (n : Int) (ws : List Int) (h : 1 ≤ ws.sum) : (shareL n ws).sum = n := by
  rw [← sT_all (shareL n ws) ws.length (by rw [shareL_len]; exact Nat.le_refl _), shareL_sT n ws h _ (Nat.le_refl _), cutN_all n ws h]
theorem shareL_zero (ws : List Int) (h : 1 ≤ ws.sum) (k : Nat) : shN 0 ws k = 0 := by unfold shN cutN; rw [Int.zero_mul, Int.zero_mul]; omega
theorem shareL_bd (n : Int) (ws : List Int) (n0 : 0 ≤ n) (hw : ∀ x ∈ ws, 0 ≤ x) (h : 1 ≤ ws.sum) : ∀ x ∈ shareL n ws, 0 ≤ x ∧ x ≤ n := fun x hx => by
  obtain ⟨k, hk, rfl⟩ := List.mem_map.1 hx
  exact ⟨shN_nonneg n ws n0 hw h k, shN_le n ws n0 hw h k⟩
/-- The shares, written over the weights: the first k of them. -/
def mixI (xs ys : List Int) (k : Nat) : List Int := xs.take k ++ ys.drop k
theorem mixI_zero (xs ys : List Int) : mixI xs ys 0 = ys := by unfold mixI; simp
theorem mixI_all (xs ys : List Int) (n : Nat) (h1 : xs.length = n) (h2 : ys.length = n) : mixI xs ys n = xs := by unfold mixI; rw [List.take_of_length_le (by omega), List.drop_of_length_le (by omega), List.append_nil]
theorem mixI_at (xs ys : List Int) (k : Nat) (y : Int) (hx : k ≤ xs.length) (h : ys[k]? = some y) : (mixI xs ys k)[k]? = some y := by
  unfold mixI
  rw [List.getElem?_append_right (by rw [List.length_take]; omega), List.length_take, List.getElem?_drop, Nat.min_eq_left hx]
  simpa using h
theorem mixI_set (xs ys : List Int) (k : Nat) (x : Int) (h : xs[k]? = some x) (hy : k < ys.length) : (mixI xs ys k).set k x = mixI xs ys (k + 1) := by
  unfold mixI
  obtain ⟨hk, rfl⟩ := List.getElem?_eq_some_iff.1 h
  rw [List.drop_eq_getElem_cons hy, List.set_append_right _ _ (by rw [List.length_take]; omega), List.length_take, Nat.min_eq_left (by omega), Nat.sub_self, List.set_cons_zero, List.take_succ_eq_append_getElem hk, List.append_assoc]
  rfl
theorem mixI_same (xs ys : List Int) (k : Nat) (x : Int) (h : xs[k]? = some x) (hy : ys[k]? = some x) : mixI xs ys (k + 1) = mixI xs ys k := by
  rw [← mixI_set xs ys k x h (List.getElem?_eq_some_iff.1 hy).1]
  have hm := mixI_at xs ys k x (Nat.le_of_lt (List.getElem?_eq_some_iff.1 h).1) hy
  obtain ⟨hk, e⟩ := List.getElem?_eq_some_iff.1 hm
  rw [← e]
  exact List.set_getElem_self hk
theorem mixI_len (xs ys : List Int) (k n : Nat) (h1 : xs.length = n) (h2 : ys.length = n) (hk : k ≤ n) : (mixI xs ys k).length = n := by
  unfold mixI
  rw [List.length_append, List.length_take, List.length_drop]
  omega
end Go.Proofs.Ytglomkpnbdnnoaa.Flex

/- Chapter 23: plain laws of sizes and shares. No condition but that numbers may come in. -/
import Derived.Test.YtglomkpnbdnnoaaFlexW
namespace Go.Proofs.Ytglomkpnbdnnoaa.Flex
open Go.RowKit Go.Proofs.Ytglomkpnbdnnoaa.Unit Go.Proofs.Ytglomkpnbdnnoaa.Div
set_option linter.unusedVariables false
set_option linter.unusedSimpArgs false
theorem sum_zip_sub : ∀ (la lb : List Int), la.length = lb.length → (List.zipWith (fun s p => s - p) la lb).sum = la.sum - lb.sum
  | [], [], _ => rfl
  | a :: la, b :: lb, h => by
    have ih := sum_zip_sub la lb (by simpa using h)
    simp only [List.zipWith_cons_cons, List.sum_cons, ih]
    omega
theorem sum_zip_add : ∀ (la lb : List Int), la.length = lb.length → (List.zipWith (fun s p => s + p) la lb).sum = la.sum + lb.sum
  | [], [], _ => rfl
  | a :: la, b :: lb, h => by
    have ih := sum_zip_add la lb (by simpa using h)
    simp only [List.zipWith_cons_cons, List.sum_cons, ih]
    omega
theorem sum_le_of : ∀ (la lb : List Int), la.length = lb.length → (∀ (i : Nat) a b, la[i]? = some a → lb[i]? = some b → a ≤ b) → la.sum ≤ lb.sum
  | [], [], _, _ => Int.le_refl _
  | a :: la, b :: lb, h, hp => by
    have ih := sum_le_of la lb (by simpa using h) (fun i x y hx hy => hp (i + 1) x y (by simpa using hx) (by simpa using hy))
    have := hp 0 a b rfl rfl
    simp only [List.sum_cons]
    omega
section
variable {xs : List It} {room : Int}
theorem at_len {α : Type} {l : List α} {n i : Nat} (h : l.length = n) (hi : i < n) : ∃ a, l[i]? = some a := ⟨_, List.getElem?_eq_getElem (by omega)⟩
/-- The parts of one round. -/
theorem round_at (h : ∀ x ∈ xs, okI x) {fz : List Bool} (hf : fz.length = xs.length) {i : Nat} {x : It} {b : Bool} (hx : xs[i]? = some x) (hb : fz[i]? = some b) :
    ∃ p, 0 ≤ p ∧ (yL xs room fz)[i]? = some (szI x b - p) ∧ (wtI x b = 0 → p = 0) ∧ ((wtL xs fz).sum = 0 → p = 0) ∧ (loL xs room fz)[i]? = some (if (wtL xs fz).sum = 0 then false else loI (szI x b - p) x) := by
  have hi : i < xs.length := (List.getElem?_eq_some_iff.1 hx).1
  by_cases hz : (wtL xs fz).sum = 0
  · refine ⟨0, Int.le_refl _, ?_, fun _ => rfl, fun _ => rfl, ?_⟩
    · unfold yL; rw [if_pos hz, szL_at hx hb, Int.sub_zero]
    · unfold loL; rw [if_pos hz, if_pos hz, List.getElem?_replicate, if_pos hi]
  · have hs := wt_pos h hz
    have hp := shareL_at (mxV (ovN xs room fz) 0) (wtL xs fz) i (by rw [wtL_len rfl hf]; exact hi)
    have hn := shN_nonneg (mxV (ovN xs room fz) 0) (wtL xs fz) (mxV_nonneg _) (fun y hy => (wtL_bd h y hy).1) hs i
    refine ⟨shN (mxV (ovN xs room fz) 0) (wtL xs fz) i, hn, ?_, fun hw => ?_, fun h0 => absurd h0 hz, ?_⟩
    · unfold yL; rw [if_neg hz]; exact zip_at _ _ _ i _ _ (szL_at hx hb) hp
    · exact shN_none _ _ i (by rw [wtL_at hx hb, hw])
    · unfold loL
      rw [if_neg hz, if_neg hz]
      refine zip_at loI _ _ i _ _ ?_ hx
      unfold yL; rw [if_neg hz]; exact zip_at _ _ _ i _ _ (szL_at hx hb) hp
theorem yL_sum (h : ∀ x ∈ xs, okI x) {fz : List Bool} (hf : fz.length = xs.length) (hz : ¬ (wtL xs fz).sum = 0) (ho : 0 ≤ ovN xs room fz) : (yL xs room fz).sum = room := by
  have hs := wt_pos h hz
  unfold yL
  rw [if_neg hz, sum_zip_sub _ _ (by rw [szL_len rfl hf, ptL_len rfl hf]), ptL, shareL_sum _ _ hs]
  have : mxV (ovN xs room fz) 0 = ovN xs room fz := by unfold mxV; split <;> omega
  rw [this]
  unfold ovN
  omega
theorem ov_nonneg (h : ∀ x ∈ xs, okI x) (hgt : room ≤ fsum xs) (r : Nat) (h2 : ∀ j, j < r → moB xs room (fzK xs room j) = true) : ∀ k, k ≤ r → 0 ≤ ovN xs room (fzK xs room k)
  | 0, _ => by
    unfold ovN
    have : szL xs (fzK xs room 0) = xs.map fiI := by
      apply List.ext_getElem?
      intro i
      rw [List.getElem?_map]
      cases hx : xs[i]? with
      | none =>
        rw [List.getElem?_eq_none (by rw [szL_len rfl (fzK_len rfl 0)]; exact (List.getElem?_eq_none_iff.1 hx))]
        rfl
      | some x =>
        have hi : i < xs.length := (List.getElem?_eq_some_iff.1 hx).1
        rw [szL_at hx (b := false) (by unfold fzK; rw [List.getElem?_replicate, if_pos hi])]
        rfl
    rw [this]
    unfold fsum at hgt
    omega
  | k + 1, hk => by
    have ih := ov_nonneg h hgt r h2 k (by omega)
    have hm := h2 k (by omega)
    have hf := fzK_len (xs := xs) (room := room) rfl k
    have hz : ¬ (wtL xs (fzK xs room k)).sum = 0 := fun e => by
      unfold moB loL at hm
      rw [if_pos e] at hm
      rw [List.any_eq_true] at hm
      obtain ⟨b, hb, hb2⟩ := hm
      rw [List.eq_of_mem_replicate hb] at hb2
      cases hb2
    have hs := yL_sum h hf hz ih
    have hle := sum_le_of (yL xs room (fzK xs room k)) (szL xs (fzK xs room (k + 1))) (by rw [yL_len rfl hf, szL_len rfl (fzK_len rfl (k + 1))]) (fun i a b ha hb => by
      have hi : i < xs.length := by have := (List.getElem?_eq_some_iff.1 ha).1; rwa [yL_len rfl hf] at this
      obtain ⟨x, hx⟩ := at_len (l := xs) rfl hi
      obtain ⟨f, hfi⟩ := at_len hf hi
      obtain ⟨p, p0, hy, hw, _, hlo⟩ := round_at (room := room) h hf hx hfi
      rw [if_neg hz] at hlo
      rw [hy] at ha
      injection ha with ha
      have hnx : (fzK xs room (k + 1))[i]? = some (f || loI (szI x f - p) x) := zip_at _ _ _ i _ _ hfi hlo
      rw [szL_at hx hnx] at hb
      injection hb with hb
      rw [← ha, ← hb]
      cases f with
      | true => simp only [Bool.true_or]; omega
      | false =>
        cases hl : loI (szI x false - p) x with
        | false => simp only [Bool.or_false]; omega
        | true =>
          unfold loI at hl
          have hl := of_decide_eq_true hl
          simp only [Bool.false_or]
          unfold szI at hl ⊢
          simp only [Bool.false_eq_true, if_false, if_true] at hl ⊢
          omega)
    unfold ovN
    rw [hs] at hle
    omega
/-- What is known of the last round. -/
theorem last_known (h : ∀ x ∈ xs, okI x) (hgt : room < fsum xs) : ∃ fz : List Bool, fz.length = xs.length ∧ sizesL xs room = yL xs room fz ∧ moB xs room fz = false ∧ 0 ≤ ovN xs room fz ∧ ∃ r, fz = fzK xs room r := by
  obtain ⟨r, h0, h1, h2⟩ := rounds_end h room
  refine ⟨fzK xs room r, fzK_len rfl r, ?_, h1, ov_nonneg h (by omega) r h2 r (Nat.le_refl _), r, rfl⟩
  unfold sizesL
  rw [if_neg (by omega)]
  exact finL_eq xs room r h1 h2 xs.length 0 (by omega) (by omega)
theorem low_no {fz : List Bool} (hm : moB xs room fz = false) {i : Nat} {b : Bool} (hb : (loL xs room fz)[i]? = some b) : b = false := by
  unfold moB at hm
  rw [List.any_eq_false] at hm
  have := hm b (List.mem_of_getElem? hb)
  simpa using this
/-- FlexRoom's law. -/
theorem sizes_at (h : ∀ x ∈ xs, okI x) {i : Nat} {x : It} {a : Int} (hx : xs[i]? = some x) (ha : (sizesL xs room)[i]? = some a) : x.least ≤ a ∧ (fsum xs ≤ room → fiI x ≤ a) ∧ (room < fsum xs → a ≤ fiI x) := by
  have hk := szI_bd (h x (List.mem_of_getElem? hx)) false
  have hi : i < xs.length := (List.getElem?_eq_some_iff.1 hx).1
  by_cases hle : fsum xs ≤ room
  · have key : fiI x ≤ a := by
      unfold sizesL at ha
      rw [if_pos hle] at ha
      split at ha
      · rw [List.getElem?_map, hx] at ha
        injection ha with ha
        omega
      · rename_i hz
        have hs : 1 ≤ (xs.map It.grow).sum := by
          have := sT_nonneg (xs.map It.grow) (fun y hy => by obtain ⟨z, hz, rfl⟩ := List.mem_map.1 hy; have := h z hz; unfold okI at this; omega) (xs.map It.grow).length
          rw [sT_all _ _ (Nat.le_refl _)] at this
          omega
        have hp := shareL_at (room - fsum xs) (xs.map It.grow) i (by rw [List.length_map]; exact hi)
        have hn := shN_nonneg (room - fsum xs) (xs.map It.grow) (by omega) (fun y hy => by obtain ⟨z, hz, rfl⟩ := List.mem_map.1 hy; have := h z hz; unfold okI at this; omega) hs i
        rw [zip_at _ _ _ i (fiI x) _ (by rw [List.getElem?_map, hx]; rfl) hp] at ha
        injection ha with ha
        omega
    have h3 : x.least ≤ fiI x := hk.2.2
    exact ⟨by omega, fun _ => key, fun g => by omega⟩
  · obtain ⟨fz, hf, hs, hm, ho, _⟩ := last_known h (by omega : room < fsum xs)
    rw [hs] at ha
    obtain ⟨b, hb⟩ := at_len hf hi
    obtain ⟨p, p0, hy, hw, hz, hlo⟩ := round_at (room := room) h hf hx hb
    rw [hy] at ha
    injection ha with ha
    have hl := low_no hm hlo
    have hsz := szI_bd (h x (List.mem_of_getElem? hx)) b
    have hszf : szI x b ≤ fiI x := by
      unfold szI fiI mxV
      split
      · split <;> omega
      · exact Int.le_refl _
    refine ⟨?_, fun g => absurd g hle, fun _ => by omega⟩
    split at hl
    · rename_i hz0
      have := hz hz0
      omega
    · unfold loI at hl
      have := of_decide_eq_false hl
      omega
theorem sizes_grow_sum (h : ∀ x ∈ xs, okI x) (hle : fsum xs ≤ room) : (sizesL xs room).sum = room ∨ ((∀ x ∈ xs, x.grow = 0) ∧ (sizesL xs room).sum = fsum xs) := by
  have hgn : ∀ y ∈ xs.map It.grow, 0 ≤ y := fun y hy => by obtain ⟨z, hz, rfl⟩ := List.mem_map.1 hy; have := h z hz; unfold okI at this; omega
  unfold sizesL
  rw [if_pos hle]
  split
  · rename_i hz
    right
    exact ⟨fun x hx => sum_zero_all _ hgn hz x.grow (List.mem_map_of_mem hx), rfl⟩
  · rename_i hz
    left
    have hs : 1 ≤ (xs.map It.grow).sum := by
      have := sT_nonneg (xs.map It.grow) hgn (xs.map It.grow).length
      rw [sT_all _ _ (Nat.le_refl _)] at this
      omega
    rw [sum_zip_add _ _ (by rw [List.length_map, shareL_len, List.length_map]), shareL_sum _ _ hs]
    unfold fsum
    omega
theorem sizes_shrink_sum (h : ∀ x ∈ xs, okI x) (hgt : room < fsum xs) : room ≤ (sizesL xs room).sum ∧ ((sizesL xs room).sum = room ∨ ∀ (i : Nat) x a, xs[i]? = some x → (sizesL xs room)[i]? = some a → ¬ (x.least < a ∧ 0 < x.shrink ∧ 0 < x.base)) := by
  obtain ⟨fz, hf, hs, hm, ho, _⟩ := last_known h hgt
  by_cases hz : (wtL xs fz).sum = 0
  · have hy : yL xs room fz = szL xs fz := by unfold yL; rw [if_pos hz]
    rw [hs, hy]
    refine ⟨by unfold ovN at ho; omega, .inr fun i x a hx ha ⟨g1, g2, g3⟩ => ?_⟩
    have hi : i < xs.length := (List.getElem?_eq_some_iff.1 hx).1
    obtain ⟨b, hb⟩ := at_len hf hi
    rw [szL_at hx hb] at ha
    injection ha with ha
    have hw := sum_zero_all _ (fun y hy => (wtL_bd h y hy).1) hz _ (List.mem_of_getElem? (wtL_at hx hb))
    unfold szI at ha
    unfold wtI at hw
    cases b with
    | true => simp only [if_true] at ha; omega
    | false =>
      simp only [Bool.false_eq_true, if_false] at hw
      have := Int.mul_pos g2 g3
      omega
  · have := yL_sum h hf hz ho
    rw [hs, this]
    exact ⟨Int.le_refl _, .inl rfl⟩
/-- One that does not shrink stays as long as it was. -/
theorem firm_at (h : ∀ x ∈ xs, okI x) (hgt : room < fsum xs) {i : Nat} {x : It} {a : Int} (hx : xs[i]? = some x) (h0 : x.shrink = 0) (ha : (sizesL xs room)[i]? = some a) : a = fiI x := by
  have hi : i < xs.length := (List.getElem?_eq_some_iff.1 hx).1
  have hk := szI_bd (h x (List.mem_of_getElem? hx)) false
  have hw : wtI x false = 0 := by unfold wtI; rw [h0]; simp
  have hfr : ∀ k, (fzK xs room k)[i]? = some false := fun k => by
    induction k with
    | zero => unfold fzK; rw [List.getElem?_replicate, if_pos hi]
    | succ k ih =>
      obtain ⟨p, p0, hy, hp, _, hlo⟩ := round_at (room := room) h (fzK_len rfl k) hx ih
      have := hp hw
      subst this
      have e : (if (wtL xs (fzK xs room k)).sum = 0 then false else loI (szI x false - 0) x) = false := by
        split
        · rfl
        · unfold loI; exact decide_eq_false (by omega)
      rw [e] at hlo
      exact zip_at _ _ _ i _ _ ih hlo
  obtain ⟨fz, hf, hs, _, _, r, hr⟩ := last_known h hgt
  rw [hs] at ha
  obtain ⟨p, p0, hy, hp, _, _⟩ := round_at (room := room) h hf hx (by rw [hr]; exact hfr r)
  rw [hy, hp hw, Int.sub_zero] at ha
  injection ha with ha
  rw [← ha]; rfl
end
/-! ### shares of weights that are all the same -/
theorem sT_rep (k : Nat) (v : Int) (j : Nat) (h : j ≤ k) : sT (List.replicate k v) j = v * (j : Int) := by
  unfold sT
  rw [List.take_replicate, Nat.min_eq_left h]
  induction j with
  | zero => simp
  | succ j ih =>
    rw [List.replicate_succ, List.sum_cons, ih (by omega)]
    push_cast
    rw [Int.mul_add, Int.mul_one]
    omega
theorem sum_rep (k : Nat) (v : Int) : (List.replicate k v).sum = v * (k : Int) := by
  have := sT_rep k v k (Nat.le_refl _)
  rwa [sT_all _ _ (by rw [List.length_replicate]; exact Nat.le_refl _)] at this
/-- Each share is near the quotient. -/
theorem shN_near (n : Int) (k : Nat) (v : Int) (hv : 1 ≤ v) (i : Nat) (hi : i < k) : shN n (List.replicate k v) i * (k : Int) < n + k ∧ n - k < shN n (List.replicate k v) i * (k : Int) := by
  have hk : (1 : Int) ≤ (k : Int) := by omega
  have ho : 1 ≤ v * (k : Int) := by
    have := Int.mul_le_mul hv hk (by omega) (by omega)
    omega
  have a1 := rnd_near (n * (v * ((i + 1 : Nat) : Int))) (v * (k : Int)) ho
  have a2 := rnd_near (n * (v * (i : Int))) (v * (k : Int)) ho
  unfold shN cutN
  rw [sT_rep k v (i + 1) (by omega), sT_rep k v i (by omega), sum_rep]
  generalize rnd (n * (v * ((i + 1 : Nat) : Int))) (v * (k : Int)) = c1 at a1 ⊢
  generalize rnd (n * (v * (i : Int))) (v * (k : Int)) = c2 at a2 ⊢
  have e1 : n * (v * ((i + 1 : Nat) : Int)) = n * (v * (i : Int)) + n * v := by push_cast; rw [Int.mul_add, Int.mul_add, Int.mul_one]
  rw [e1] at a1
  have e2 : (c1 - c2) * (v * (k : Int)) = c1 * (v * (k : Int)) - c2 * (v * (k : Int)) := Int.sub_mul _ _ _
  have e3 : ((c1 - c2) * (k : Int)) * v = (c1 - c2) * (v * (k : Int)) := by rw [Int.mul_assoc, Int.mul_comm (k : Int) v]
  have b1 : ((c1 - c2) * (k : Int)) * v < (n + k) * v := by
    rw [e3, Int.add_mul, Int.mul_comm (k : Int) v]
    omega
  have b2 : (n - k) * v < ((c1 - c2) * (k : Int)) * v := by
    rw [e3, Int.sub_mul, Int.mul_comm (k : Int) v]
    omega
  exact ⟨Int.lt_of_mul_lt_mul_right b1 (by omega), Int.lt_of_mul_lt_mul_right b2 (by omega)⟩
theorem near_two (a b n : Int) (k : Nat) (hk : 0 < k) (h1 : a * (k : Int) < n + k) (h2 : n - k < a * (k : Int)) (h3 : b * (k : Int) < n + k) (h4 : n - k < b * (k : Int)) : a - b ≤ 1 ∧ b - a ≤ 1 := by
  have e : ∀ x y : Int, (x - y) * (k : Int) = x * (k : Int) - y * (k : Int) := fun x y => Int.sub_mul _ _ _
  have c1 : (a - b) * (k : Int) < 2 * (k : Int) := by rw [e]; omega
  have c2 : (b - a) * (k : Int) < 2 * (k : Int) := by rw [e]; omega
  have d1 := Int.lt_of_mul_lt_mul_right c1 (by omega)
  have d2 := Int.lt_of_mul_lt_mul_right c2 (by omega)
  omega
/-- Items that are all the same. -/
def evI (x : It) : It := ⟨x.base, 0, x.grow, x.shrink⟩
theorem even_law (x : It) (k : Nat) (room : Int) (h : ∀ y ∈ List.replicate k (evI x), okI y) (i j : Nat) (a b : Int) (r0 : 0 ≤ room)
    (ha : (sizesL (List.replicate k (evI x)) room)[i]? = some a) (hb : (sizesL (List.replicate k (evI x)) room)[j]? = some b) : a - b ≤ 1 := by
  have hlen := sizesL_len (List.replicate k (evI x)) room
  rw [List.length_replicate] at hlen
  have hi : i < k := by have := (List.getElem?_eq_some_iff.1 ha).1; omega
  have hj : j < k := by have := (List.getElem?_eq_some_iff.1 hb).1; omega
  have hk : okI (evI x) := h _ (List.mem_replicate.2 ⟨by omega, rfl⟩)
  have hk0 : 0 ≤ x.base ∧ 0 ≤ x.grow ∧ 0 ≤ x.shrink := by unfold okI evI at hk; simp only at hk; omega
  have hfi : fiI (evI x) = x.base := by unfold fiI evI mxV; simp only; split <;> omega
  have hat : ∀ {m : Nat}, m < k → (List.replicate k (evI x))[m]? = some (evI x) := fun hm => by rw [List.getElem?_replicate, if_pos hm]
  by_cases hle : fsum (List.replicate k (evI x)) ≤ room
  · unfold sizesL at ha hb
    rw [if_pos hle] at ha hb
    by_cases hz : ((List.replicate k (evI x)).map It.grow).sum = 0
    · rw [if_pos hz] at ha hb
      rw [List.getElem?_map, hat hi] at ha
      rw [List.getElem?_map, hat hj] at hb
      injection ha with ha
      injection hb with hb
      omega
    · rw [if_neg hz] at ha hb
      have hg : (List.replicate k (evI x)).map It.grow = List.replicate k x.grow := by rw [List.map_replicate]; rfl
      rw [hg] at ha hb hz
      have hv : 1 ≤ x.grow := by
        rcases Int.lt_or_le 0 x.grow with g | g
        · omega
        · exfalso; apply hz; rw [sum_rep, show x.grow = 0 by omega, Int.zero_mul]
      generalize room - fsum (List.replicate k (evI x)) = n at ha hb
      have n1 := shN_near n k x.grow hv i hi
      have n2 := shN_near n k x.grow hv j hj
      rw [zip_at _ _ _ i (fiI (evI x)) _ (by rw [List.getElem?_map, hat hi]; rfl) (shareL_at n _ i (by rw [List.length_replicate]; exact hi))] at ha
      rw [zip_at _ _ _ j (fiI (evI x)) _ (by rw [List.getElem?_map, hat hj]; rfl) (shareL_at n _ j (by rw [List.length_replicate]; exact hj))] at hb
      injection ha with ha
      injection hb with hb
      have := near_two _ _ n k (by omega) n1.1 n1.2 n2.1 n2.2
      omega
  · have hgt : room < fsum (List.replicate k (evI x)) := by omega
    have hfs : fsum (List.replicate k (evI x)) = x.base * (k : Int) := by unfold fsum; rw [List.map_replicate, sum_rep, hfi]
    obtain ⟨fz0, hfz0⟩ : ∃ fz0, List.replicate k false = fz0 := ⟨_, rfl⟩
    have hf : fz0.length = (List.replicate k (evI x)).length := by rw [← hfz0, List.length_replicate, List.length_replicate]
    have hfat : ∀ {m : Nat}, m < k → fz0[m]? = some false := fun hm => by rw [← hfz0, List.getElem?_replicate, if_pos hm]
    have hwl : wtL (List.replicate k (evI x)) fz0 = List.replicate k (x.shrink * x.base) := by
      unfold wtL
      rw [← hfz0, List.zipWith_replicate, Nat.min_self]
      rfl
    have hsl : szL (List.replicate k (evI x)) fz0 = List.replicate k x.base := by
      unfold szL
      rw [← hfz0, List.zipWith_replicate, Nat.min_self]
      unfold szI
      rw [if_neg (by simp), hfi]
    have hov : ovN (List.replicate k (evI x)) room fz0 = x.base * (k : Int) - room := by unfold ovN; rw [hsl, sum_rep]
    have hmx : mxV (x.base * (k : Int) - room) 0 = x.base * (k : Int) - room := by unfold mxV; split <;> omega
    have hps : ∀ m, m < k → 1 ≤ x.shrink * x.base → shN (x.base * (k : Int) - room) (List.replicate k (x.shrink * x.base)) m ≤ x.base := fun m hm hw => by
      have := (shN_near (x.base * (k : Int) - room) k (x.shrink * x.base) hw m hm).1
      have h2 : shN (x.base * (k : Int) - room) (List.replicate k (x.shrink * x.base)) m * (k : Int) < (x.base + 1) * (k : Int) := by rw [Int.add_mul, Int.one_mul]; omega
      have := Int.lt_of_mul_lt_mul_right h2 (by omega)
      omega
    have hwz : ¬ (wtL (List.replicate k (evI x)) fz0).sum = 0 → 1 ≤ x.shrink * x.base := fun hz => by
      rw [hwl, sum_rep] at hz
      have h1 := Int.mul_nonneg hk0.2.2 hk0.1
      rcases Int.lt_or_le 0 (x.shrink * x.base) with g | g
      · omega
      · exfalso; apply hz; rw [show x.shrink * x.base = 0 by omega, Int.zero_mul]
    have hmo : moB (List.replicate k (evI x)) room fz0 = false := by
      unfold moB
      rw [List.any_eq_false]
      intro b hb
      obtain ⟨m, hm⟩ := List.getElem?_of_mem hb
      have hmk : m < k := by
        have := (List.getElem?_eq_some_iff.1 hm).1
        rw [loL_len rfl hf, List.length_replicate] at this
        exact this
      by_cases hz : (wtL (List.replicate k (evI x)) fz0).sum = 0
      · unfold loL at hm
        rw [if_pos hz] at hm
        have := List.mem_of_getElem? hm
        rw [List.eq_of_mem_replicate this]
        simp
      · unfold loL yL ptL at hm
        rw [if_neg hz, if_neg hz, hov, hmx, hwl, hsl] at hm
        rw [zip_at loI _ _ m _ _ (zip_at _ _ _ m x.base _ (by rw [List.getElem?_replicate, if_pos hmk]) (shareL_at _ _ m (by rw [List.length_replicate]; exact hmk))) (hat hmk)] at hm
        injection hm with hm
        have := hps m hmk (hwz hz)
        rw [← hm]
        unfold loI evI
        simp only
        rw [decide_eq_false (by omega)]
        simp
    have hsz : sizesL (List.replicate k (evI x)) room = yL (List.replicate k (evI x)) room fz0 := by
      unfold sizesL
      rw [if_neg hle, List.length_replicate, hfz0]
      cases k with
      | zero => omega
      | succ k => unfold finL; rw [if_neg (by rw [hmo]; simp)]
    rw [hsz] at ha hb
    unfold yL ptL at ha hb
    by_cases hz : (wtL (List.replicate k (evI x)) fz0).sum = 0
    · rw [if_pos hz, hsl, List.getElem?_replicate, if_pos (by assumption)] at ha hb
      injection ha with ha
      injection hb with hb
      omega
    · rw [if_neg hz, hov, hmx, hwl, hsl] at ha hb
      have n1 := shN_near (x.base * (k : Int) - room) k (x.shrink * x.base) (hwz hz) i hi
      have n2 := shN_near (x.base * (k : Int) - room) k (x.shrink * x.base) (hwz hz) j hj
      rw [zip_at _ _ _ i x.base _ (by rw [List.getElem?_replicate, if_pos hi]) (shareL_at _ _ i (by rw [List.length_replicate]; exact hi))] at ha
      rw [zip_at _ _ _ j x.base _ (by rw [List.getElem?_replicate, if_pos hj]) (shareL_at _ _ j (by rw [List.length_replicate]; exact hj))] at hb
      injection ha with ha
      injection hb with hb
      have := near_two _ _ _ k (by omega) n1.1 n1.2 n2.1 n2.2
      omega
/-! ### just the room; shares of nothing, and of one weight -/
theorem exact_law (xs : List It) (h : ∀ x ∈ xs, okI x) : sizesL xs (fsum xs) = xs.map fiI := by
  unfold sizesL
  rw [if_pos (Int.le_refl _)]
  split
  · rfl
  · rename_i hz
    have hs : 1 ≤ (xs.map It.grow).sum := by
      have := sT_nonneg (xs.map It.grow) (fun y hy => by obtain ⟨z, hz, rfl⟩ := List.mem_map.1 hy; have := h z hz; unfold okI at this; omega) (xs.map It.grow).length
      rw [sT_all _ _ (Nat.le_refl _)] at this
      omega
    rw [Int.sub_self]
    apply List.ext_getElem?
    intro i
    cases hx : (xs.map fiI)[i]? with
    | none =>
      have hl := List.getElem?_eq_none_iff.1 hx
      rw [List.getElem?_eq_none (by rw [List.length_zipWith, shareL_len]; omega)]
    | some a =>
      have hi : i < xs.length := by have := (List.getElem?_eq_some_iff.1 hx).1; rwa [List.length_map] at this
      rw [zip_at _ _ _ i a _ hx (shareL_at 0 _ i (by rw [List.length_map]; exact hi)), shareL_zero _ hs i, Int.add_zero]
theorem none_law (ws : List Int) (h : okH 0 ws = true) (hz : ¬ ws.sum = 0) : ∀ x ∈ shareL 0 ws, x = 0 := fun x hx => by
  obtain ⟨k, _, rfl⟩ := List.mem_map.1 hx
  have hs : 1 ≤ ws.sum := by
    have hw : ∀ y ∈ ws, 0 ≤ y := fun y hy => by
      unfold okH at h
      simp only [Bool.and_eq_true, Bool.not_eq_true', List.any_eq_false] at h
      have := h.2 y hy
      exact (wiB_in (by simpa using this)).1
    have := sT_nonneg ws hw ws.length
    rw [sT_all _ _ (Nat.le_refl _)] at this
    omega
  exact shareL_zero ws hs k
theorem one_law (n : Int) : shareL n [0, 5, 0] = [0, n, 0] := by
  have e5 : rnd (n * 5) 5 = n := rnd_self n 5 (by omega)
  have e0 : rnd 0 5 = 0 := rnd_zero 5 (by omega)
  have s0 : sT [0, 5, 0] 0 = 0 := rfl
  have s1 : sT [0, 5, 0] 1 = 0 := rfl
  have s2 : sT [0, 5, 0] 2 = 5 := rfl
  have s3 : sT [0, 5, 0] 3 = 5 := rfl
  have ss : ([0, 5, 0] : List Int).sum = 5 := rfl
  unfold shareL
  show [shN n [0, 5, 0] 0, shN n [0, 5, 0] 1, shN n [0, 5, 0] 2] = _
  unfold shN cutN
  rw [s0, s1, s2, s3, ss, e5, Int.mul_zero, e0]
  simp
end Go.Proofs.Ytglomkpnbdnnoaa.Flex

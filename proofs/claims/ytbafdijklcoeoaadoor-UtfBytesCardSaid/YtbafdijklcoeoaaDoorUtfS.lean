/- Chapter 2, plain laws: all characters of a text. No program. -/
import Derived.Test.YtbafdijklcoeoaaDoorUtfR
namespace Go.Proofs.YtbafdijklcoeoaaDoor.Utf
open Go.RowKit
set_option linter.unusedVariables false
set_option linter.unusedSimpArgs false

/-- A character: its rune, its place, its length; is it well-formed? -/
structure Ch where
  r : Int
  p : Nat
  n : Nat
  ok : Bool
def chG : Nat → List UInt8 → Nat → List Ch
  | 0, _, _ => []
  | f + 1, l, p => if l = [] then [] else ⟨rS l, p, nS l, okS l⟩ :: chG f (l.drop (nS l)) (p + nS l)
/-- All characters of a text that begins at a place. -/
def chs (l : List UInt8) (p : Nat) : List Ch := chG l.length l p
theorem chG_more : ∀ (f : Nat) (l : List UInt8) (p : Nat), l.length ≤ f → chG f l p = chG l.length l p
  | 0, l, p, h => by
    have : l = [] := List.eq_nil_of_length_eq_zero (by omega)
    subst this
    rfl
  | f + 1, l, p, h => by
    by_cases hl : l = []
    · subst hl; rfl
    · have h0 := List.length_pos_iff.2 hl
      obtain ⟨h1, _, h2⟩ := nS_le hl
      obtain ⟨m, hm⟩ : ∃ m, l.length = m + 1 := ⟨l.length - 1, by omega⟩
      rw [hm]
      unfold chG
      rw [if_neg hl, if_neg hl]
      have ed : (l.drop (nS l)).length = l.length - nS l := List.length_drop
      rw [chG_more f _ _ (by omega), chG_more m _ _ (by omega)]
theorem chs_nil (p : Nat) : chs [] p = [] := rfl
theorem chs_cons {l : List UInt8} (hl : l ≠ []) (p : Nat) : chs l p = ⟨rS l, p, nS l, okS l⟩ :: chs (l.drop (nS l)) (p + nS l) := by
  have h0 := List.length_pos_iff.2 hl
  obtain ⟨h1, _, h2⟩ := nS_le hl
  obtain ⟨m, hm⟩ : ∃ m, l.length = m + 1 := ⟨l.length - 1, by omega⟩
  unfold chs
  rw [hm]
  rw [show chG (m + 1) l p = if l = [] then [] else ⟨rS l, p, nS l, okS l⟩ :: chG m (l.drop (nS l)) (p + nS l) from rfl, if_neg hl]
  have ed : (l.drop (nS l)).length = l.length - nS l := List.length_drop
  rw [chG_more m _ _ (by omega)]
/-- By the text's characters. -/
theorem chs_induct {M : List UInt8 → Nat → Prop} (h0 : ∀ p, M [] p) (h1 : ∀ l p, l ≠ [] → M (l.drop (nS l)) (p + nS l) → M l p) (l : List UInt8) (p : Nat) : M l p := by
  obtain ⟨m, hm⟩ : ∃ m, l.length ≤ m := ⟨_, Nat.le_refl _⟩
  induction m generalizing l p with
  | zero =>
    have : l = [] := List.eq_nil_of_length_eq_zero (by omega)
    subst this
    exact h0 p
  | succ m ih =>
    by_cases hl : l = []
    · subst hl; exact h0 p
    · have := nS_le hl
      exact h1 l p hl (ih _ _ (by rw [List.length_drop]; omega))
def shiftC (d : Nat) (c : Ch) : Ch := ⟨c.r, c.p + d, c.n, c.ok⟩
theorem chs_shift (l : List UInt8) (p d : Nat) : chs l (p + d) = (chs l p).map (shiftC d) := by
  refine chs_induct (M := fun l p => chs l (p + d) = (chs l p).map (shiftC d)) (fun p => rfl) (fun l p hl ih => ?_) l p
  rw [chs_cons hl, chs_cons hl, List.map_cons, ← ih]
  rw [show p + nS l + d = p + d + nS l by omega]
  rfl
/-- The bytes of numbers. -/
def encL (xs : List Int) : List UInt8 := xs.flatMap oneL
theorem encN_encL (xs : List Int) : encN xs xs.length = encL xs := by unfold encN encL; rw [List.take_length]
theorem encL_nil : encL [] = [] := rfl
theorem encL_cons (x : Int) (xs : List Int) : encL (x :: xs) = oneL x ++ encL xs := rfl
/-- The characters of the bytes of numbers. -/
def encCh : List Int → Nat → List Ch
  | [], _ => []
  | x :: xs, p => ⟨fixR x, p, (oneL x).length, true⟩ :: encCh xs (p + (oneL x).length)
theorem oneL_pos (x : Int) : 1 ≤ (oneL x).length := by
  unfold oneL
  rw [List.length_map]
  exact (Lib.encodeRuneZ_length x).1
theorem chs_enc (xs : List Int) (s : List UInt8) (p : Nat) : chs (encL xs ++ s) p = encCh xs p ++ chs s (p + (encL xs).length) := by
  induction xs generalizing p with
  | nil => rfl
  | cons x xs ih =>
    rw [encL_cons, List.append_assoc]
    have h := enc_first (fixR x) (isPoint_fix x) (encL xs ++ s)
    rw [← oneL_fix] at h
    obtain ⟨h1, h2, h3⟩ := h
    have hne : oneL x ++ (encL xs ++ s) ≠ [] := by
      have := oneL_pos x
      intro g
      have := congrArg List.length g
      rw [List.length_append, List.length_nil] at this
      omega
    have hn : nS (oneL x ++ (encL xs ++ s)) = (oneL x).length := by unfold nS; rw [if_pos h1, h2]
    rw [chs_cons hne, hn, h1, h3, List.drop_left, ih]
    rw [show p + (oneL x).length + (encL xs).length = p + (oneL x ++ encL xs).length by rw [List.length_append]; omega]
    rfl
theorem chs_encL (xs : List Int) (p : Nat) : chs (encL xs) p = encCh xs p := by
  have := chs_enc xs [] p
  rw [List.append_nil, chs_nil, List.append_nil] at this
  exact this
theorem encCh_len (xs : List Int) (p : Nat) : (encCh xs p).length = xs.length := by
  induction xs generalizing p with
  | nil => rfl
  | cons x xs ih => unfold encCh; rw [List.length_cons, ih, List.length_cons]
theorem encCh_rs (xs : List Int) (p : Nat) : (encCh xs p).map (·.r) = xs.map fixR := by
  induction xs generalizing p with
  | nil => rfl
  | cons x xs ih => unfold encCh; rw [List.map_cons, ih, List.map_cons]
theorem encCh_ok (xs : List Int) (p : Nat) : (encCh xs p).all (·.ok) = true := by
  induction xs generalizing p with
  | nil => rfl
  | cons x xs ih => unfold encCh; rw [List.all_cons, ih]; rfl
theorem chs_points (l : List UInt8) (p : Nat) : ∀ c ∈ chs l p, isPoint c.r := by
  refine chs_induct (M := fun l p => ∀ c ∈ chs l p, isPoint c.r) (fun p c h => by cases h) (fun l p hl ih => ?_) l p
  rw [chs_cons hl]
  intro c hc
  rcases List.mem_cons.1 hc with rfl | hc
  · exact rS_point hl
  · exact ih c hc
theorem map_fix {xs : List Int} (h : ∀ x ∈ xs, isPoint x) : xs.map fixR = xs := by
  induction xs with
  | nil => rfl
  | cons x xs ih => rw [List.map_cons, ih (fun y hy => h y (List.mem_cons_of_mem _ hy)), fixR_point (h x List.mem_cons_self)]
theorem points_of (l : List UInt8) (p : Nat) : ∀ x ∈ (chs l p).map (·.r), isPoint x := by
  intro x hx
  obtain ⟨c, hc, rfl⟩ := List.mem_map.1 hx
  exact chs_points l p c hc
/-- A well-formed text is the bytes of its characters; and no other one. -/
theorem whole_iff (l : List UInt8) (p : Nat) : (encL ((chs l p).map (·.r)) = l) ↔ (chs l p).all (·.ok) = true := by
  constructor
  · intro h
    have := chs_encL ((chs l p).map (·.r)) p
    rw [h] at this
    rw [this]
    exact encCh_ok _ _
  · refine chs_induct (M := fun l p => (chs l p).all (·.ok) = true → encL ((chs l p).map (·.r)) = l) (fun p _ => rfl) (fun l p hl ih => ?_) l p
    rw [chs_cons hl, List.all_cons, List.map_cons, encL_cons]
    intro h
    simp only [Bool.and_eq_true] at h
    rw [ih h.2]
    show oneL (rS l) ++ _ = l
    rw [ok_own hl h.1, List.take_append_drop]
theorem chs_len (l : List UInt8) (p : Nat) : (chs l p).length ≤ l.length := by
  refine chs_induct (M := fun l p => (chs l p).length ≤ l.length) (fun p => Nat.le_refl _) (fun l p hl ih => ?_) l p
  have := nS_le hl
  rw [chs_cons hl, List.length_cons]
  rw [List.length_drop] at ih
  omega
/-- What stands ahead of a place where a character begins, and what behind. -/
theorem chs_split {l : List UInt8} {p : Nat} {pre : List Ch} (h : chs l 0 = pre ++ chs (l.drop p) p) (hp : p < l.length) :
    l.drop p ≠ [] ∧ chs l 0 = (pre ++ [⟨rS (l.drop p), p, nS (l.drop p), okS (l.drop p)⟩]) ++ chs (l.drop (p + nS (l.drop p))) (p + nS (l.drop p)) ∧ p + nS (l.drop p) ≤ l.length ∧ 1 ≤ nS (l.drop p) ∧ nS (l.drop p) ≤ 4 := by
  have hne : l.drop p ≠ [] := by
    intro g
    have := congrArg List.length g
    rw [List.length_drop, List.length_nil] at this
    omega
  obtain ⟨h1, h4, h2⟩ := nS_le hne
  rw [List.length_drop] at h2
  refine ⟨hne, ?_, by omega, h1, h4⟩
  rw [h, chs_cons hne, List.drop_drop, List.append_assoc]
  rfl
/-- Bytes below 80, and above bf. -/
theorem chs_low (l : List UInt8) (h : ∀ x ∈ l, x.toNat < 128) (p : Nat) : (chs l p).all (·.ok) = true ∧ (chs l p).length = l.length ∧ ∀ i x, l[i]? = some x → (chs l p)[i]? = some (Ch.mk (x.toNat : Int) (p + i) 1 true) := by
  induction l generalizing p with
  | nil => exact ⟨rfl, rfl, fun i x h => by cases h⟩
  | cons x l ih =>
    have hx := h x List.mem_cons_self
    have hne : x :: l ≠ [] := by simp
    have a0 : at_ (x :: l) 0 = (x.toNat : Int) := rfl
    have hs : okS (x :: l) = true ∧ begN (x :: l) = 1 ∧ rS (x :: l) = (x.toNat : Int) := by
      cases shape _ hne with
      | one g hb hn => exact ⟨ok_of hb hn (by omega), hb, by rw [rS_one hne hb hn, a0]⟩
      | two g => rw [a0] at g; omega
      | three g => rw [a0] at g; omega
      | four g => rw [a0] at g; omega
      | bad hk g => rw [a0] at g; omega
    have hn : nS (x :: l) = 1 := by unfold nS; rw [if_pos hs.1, hs.2.1]
    obtain ⟨i1, i2, i3⟩ := ih (fun y hy => h y (List.mem_cons_of_mem _ hy)) (p + 1)
    rw [chs_cons hne, hn, hs.1, hs.2.2]
    refine ⟨by rw [List.all_cons]; simpa using i1, by rw [List.length_cons]; simpa using i2, fun i y hy => ?_⟩
    match i, hy with
    | 0, hy => simp at hy; subst hy; simp
    | i + 1, hy =>
      have := i3 i y (by simpa using hy)
      rw [show p + (i + 1) = p + 1 + i by omega]
      simpa using this
theorem chs_high (l : List UInt8) (h : ∀ x ∈ l, 192 ≤ x.toNat) (p : Nat) : (l ≠ [] → (chs l p).all (·.ok) = false) ∧ (chs l p).length = l.length ∧ ∀ i x, l[i]? = some x → (chs l p)[i]? = some (Ch.mk 65533 (p + i) 1 false) := by
  induction l generalizing p with
  | nil => exact ⟨fun h => absurd rfl h, rfl, fun i x h => by cases h⟩
  | cons x l ih =>
    have hx := h x List.mem_cons_self
    have hne : x :: l ≠ [] := by simp
    have a0 : at_ (x :: l) 0 = (x.toNat : Int) := rfl
    have a1 : at_ (x :: l) 1 = 0 ∧ (x :: l).length = 1 ∨ 192 ≤ at_ (x :: l) 1 := by
      match l, h with
      | [], _ => exact .inl ⟨rfl, rfl⟩
      | y :: l, h =>
        refine .inr ?_
        have := h y (by simp)
        show (192 : Int) ≤ (y.toNat : Int)
        omega
    have hlo : lo2 (at_ (x :: l) 0) ≥ 128 ∧ hi2 (at_ (x :: l) 0) ≤ 191 := by
      have := lo_cases (at_ (x :: l) 0)
      have := hi_cases (at_ (x :: l) 0)
      omega
    have hs : okS (x :: l) = false ∧ nS (x :: l) = 1 := by
      have hb : okS (x :: l) = false := by
        cases shape _ hne with
        | one g => rw [a0] at g; omega
        | two g g1 g2 => rcases a1 with a1 | a1 <;> omega
        | three g g1 g2 => rcases a1 with a1 | a1 <;> omega
        | four g g1 g2 => rcases a1 with a1 | a1 <;> omega
        | bad hk => exact hk
      refine ⟨hb, ?_⟩
      unfold nS
      rw [if_neg (by rw [hb]; simp)]
      have := begN_eq (x :: l) hne
      simp only [may1] at this
      by_cases c : longN (at_ (x :: l) 0) = 0
      · rw [if_pos c] at this; omega
      · rw [if_neg c, if_pos (by rcases a1 with a1 | a1 <;> omega)] at this; omega
    obtain ⟨i1, i2, i3⟩ := ih (fun y hy => h y (List.mem_cons_of_mem _ hy)) (p + 1)
    rw [chs_cons hne, hs.2, hs.1, rS_bad hs.1]
    refine ⟨fun _ => by rw [List.all_cons]; rfl, by rw [List.length_cons]; simpa using i2, fun i y hy => ?_⟩
    match i, hy with
    | 0, hy => simp
    | i + 1, hy =>
      have := i3 i y (by simpa using hy)
      rw [show p + (i + 1) = p + 1 + i by omega]
      simpa using this
end Go.Proofs.YtbafdijklcoeoaaDoor.Utf

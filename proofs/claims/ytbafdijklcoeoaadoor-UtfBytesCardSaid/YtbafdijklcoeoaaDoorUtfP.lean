/- Chapter 2, plain law: the first character of bytes. No program. -/
import Derived.Test.YtbafdijklcoeoaaDoorUtfH
namespace Go.Proofs.YtbafdijklcoeoaaDoor.Utf
open Go.RowKit
set_option linter.unusedVariables false
set_option linter.unusedSimpArgs false

/-- Are the first bytes well-formed ones? How many has the first character; what is it? -/
def okS (l : List UInt8) : Bool := decide (0 < begN l) && decide (begN l = longN (at_ l 0))
def nS (l : List UInt8) : Nat := if okS l = true then begN l else max (begN l) 1
def rS (l : List UInt8) : Int := if okS l = true then pointN (l.take (begN l)) else 65533
theorem at_lt (l : List UInt8) (i : Nat) : 0 ≤ at_ l i ∧ at_ l i ≤ 255 := by
  unfold at_
  have := UInt8.toNat_lt ((l[i]?).getD 0)
  omega
theorem begN_eq (l : List UInt8) (h : l ≠ []) : begN l = if longN (at_ l 0) = 0 then 0 else if ¬ (1 < longN (at_ l 0) ∧ 1 < l.length ∧ mayN (at_ l 0) 1 (at_ l 1) = true) then 1
    else if ¬ (2 < longN (at_ l 0) ∧ 2 < l.length ∧ mayN (at_ l 0) 2 (at_ l 2) = true) then 2 else if ¬ (3 < longN (at_ l 0) ∧ 3 < l.length ∧ mayN (at_ l 0) 3 (at_ l 3) = true) then 3 else 4 := by
  have h0 := List.length_pos_iff.2 h
  have h4 := longN_le (at_ l 0)
  unfold begN
  generalize longN (at_ l 0) = n at h4 ⊢
  simp only [begGo]
  have e1 : ¬ ((0 + 1 : Nat) = 0) := by omega
  have e2 : ¬ ((0 + 1 + 1 : Nat) = 0) := by omega
  have e3 : ¬ ((0 + 1 + 1 + 1 : Nat) = 0) := by omega
  have e4 : ¬ (0 + 1 + 1 + 1 + 1 < n) := by omega
  have z1 : ((1 : Nat) : Int) = 1 := rfl
  have z2 : ((2 : Nat) : Int) = 2 := rfl
  have z3 : ((3 : Nat) : Int) = 3 := rfl
  simp only [e1, e2, e3, e4, false_or, true_or, false_and, if_false, h0, true_and, and_true, Nat.zero_add, Nat.reduceAdd, z1, z2, z3]
  by_cases g0 : 0 < n
  · rw [if_pos g0, if_neg (show ¬ n = 0 by omega)]
    by_cases g1 : 1 < n ∧ 1 < l.length ∧ mayN (at_ l 0) 1 (at_ l 1) = true
    · rw [if_pos g1, if_neg (not_not_intro g1)]
      by_cases g2 : 2 < n ∧ 2 < l.length ∧ mayN (at_ l 0) 2 (at_ l 2) = true
      · rw [if_pos g2, if_neg (not_not_intro g2)]
        by_cases g3 : 3 < n ∧ 3 < l.length ∧ mayN (at_ l 0) 3 (at_ l 3) = true
        · rw [if_pos g3, if_neg (not_not_intro g3)]
        · rw [if_neg g3, if_pos g3]
      · rw [if_neg g2, if_pos g2]
    · rw [if_neg g1, if_pos g1]
  · rw [if_neg g0, if_pos (show n = 0 by omega)]
theorem btw_iff (c a b : Int) : btw c a b = true ↔ a ≤ c ∧ c ≤ b := by unfold btw; simp
/-- What the first byte asks of the second one. -/
def lo2 (f : Int) : Int := if f = 224 then 160 else if f = 240 then 144 else 128
def hi2 (f : Int) : Int := if f = 237 then 159 else if f = 244 then 143 else 191
theorem may1 (f c : Int) : mayN f 1 c = true ↔ lo2 f ≤ c ∧ c ≤ hi2 f := by
  unfold mayN lo2 hi2
  rw [if_neg (by omega)]
  by_cases h1 : f = 224
  · subst h1; simp only [if_true]; rw [btw_iff]; simp
  · rw [if_neg h1, if_neg h1]
    by_cases h2 : f = 237
    · subst h2; rw [if_pos rfl, btw_iff]; simp
    · rw [if_neg h2, if_neg h2]
      by_cases h3 : f = 240
      · subst h3; rw [if_pos rfl, btw_iff]; simp
      · rw [if_neg h3, if_neg h3]
        by_cases h4 : f = 244
        · subst h4; rw [if_pos rfl, btw_iff]; simp
        · rw [if_neg h4, if_neg h4, btw_iff]
theorem may2 (f i c : Int) (h : 1 < i) : mayN f i c = true ↔ 128 ≤ c ∧ c ≤ 191 := by
  unfold mayN
  rw [if_pos h, btw_iff]
theorem longN_eq (c : Int) : longN c = if 0 ≤ c ∧ c ≤ 127 then 1 else if 194 ≤ c ∧ c ≤ 223 then 2 else if 224 ≤ c ∧ c ≤ 239 then 3 else if 240 ≤ c ∧ c ≤ 244 then 4 else 0 := by
  unfold longN
  simp only [btw_iff]
/-- The shapes that the first bytes may have. -/
inductive Shape (l : List UInt8) : Prop where
  | one (h : at_ l 0 ≤ 127) (hb : begN l = 1) (hn : longN (at_ l 0) = 1)
  | two (h : 194 ≤ at_ l 0 ∧ at_ l 0 ≤ 223) (hl : 2 ≤ l.length) (h1 : 128 ≤ at_ l 1 ∧ at_ l 1 ≤ 191) (hb : begN l = 2) (hn : longN (at_ l 0) = 2)
  | three (h : 224 ≤ at_ l 0 ∧ at_ l 0 ≤ 239) (hl : 3 ≤ l.length) (h1 : lo2 (at_ l 0) ≤ at_ l 1 ∧ at_ l 1 ≤ hi2 (at_ l 0)) (h2 : 128 ≤ at_ l 2 ∧ at_ l 2 ≤ 191) (hb : begN l = 3) (hn : longN (at_ l 0) = 3)
  | four (h : 240 ≤ at_ l 0 ∧ at_ l 0 ≤ 244) (hl : 4 ≤ l.length) (h1 : lo2 (at_ l 0) ≤ at_ l 1 ∧ at_ l 1 ≤ hi2 (at_ l 0)) (h2 : 128 ≤ at_ l 2 ∧ at_ l 2 ≤ 191) (h3 : 128 ≤ at_ l 3 ∧ at_ l 3 ≤ 191) (hb : begN l = 4) (hn : longN (at_ l 0) = 4)
  | bad (hk : okS l = false) (h0 : 128 ≤ at_ l 0) (hb : begN l ≤ 3) (hl : begN l ≤ l.length)
      (h2 : 194 ≤ at_ l 0 ∧ at_ l 0 ≤ 223 → ¬ (2 ≤ l.length ∧ 128 ≤ at_ l 1 ∧ at_ l 1 ≤ 191))
      (h3 : 224 ≤ at_ l 0 ∧ at_ l 0 ≤ 239 → ¬ (3 ≤ l.length ∧ (lo2 (at_ l 0) ≤ at_ l 1 ∧ at_ l 1 ≤ hi2 (at_ l 0)) ∧ 128 ≤ at_ l 2 ∧ at_ l 2 ≤ 191))
      (h4 : 240 ≤ at_ l 0 ∧ at_ l 0 ≤ 244 → ¬ (4 ≤ l.length ∧ (lo2 (at_ l 0) ≤ at_ l 1 ∧ at_ l 1 ≤ hi2 (at_ l 0)) ∧ (128 ≤ at_ l 2 ∧ at_ l 2 ≤ 191) ∧ 128 ≤ at_ l 3 ∧ at_ l 3 ≤ 191))
theorem lo2_of (f : Int) (h : f ≤ 223) : lo2 f = 128 ∧ hi2 f = 191 := by
  unfold lo2 hi2
  rw [if_neg (by omega), if_neg (by omega), if_neg (by omega), if_neg (by omega)]
  exact ⟨rfl, rfl⟩
theorem shape (l : List UInt8) (h : l ≠ []) : Shape l := by
  have hb := begN_eq l h
  have hn := longN_eq (at_ l 0)
  have h0 := List.length_pos_iff.2 h
  have a0 := at_lt l 0
  have m2 := may2 (at_ l 0) 2 (at_ l 2) (by omega)
  have m3 := may2 (at_ l 0) 3 (at_ l 3) (by omega)
  simp only [may1, m2, m3] at hb
  have hk : okS l = (decide (0 < begN l) && decide (begN l = longN (at_ l 0))) := rfl
  by_cases c1 : at_ l 0 ≤ 127
  · rw [if_pos ⟨a0.1, c1⟩] at hn
    rw [hn] at hb
    rw [if_neg (by omega), if_pos (by omega)] at hb
    exact .one c1 hb hn
  · rw [if_neg (by omega)] at hn
    by_cases c2 : 194 ≤ at_ l 0 ∧ at_ l 0 ≤ 223
    · rw [if_pos c2] at hn
      rw [hn, if_neg (by omega)] at hb
      obtain ⟨e1, e2⟩ := lo2_of (at_ l 0) c2.2
      rw [e1, e2] at hb
      by_cases g : 2 ≤ l.length ∧ 128 ≤ at_ l 1 ∧ at_ l 1 ≤ 191
      · rw [if_neg (by omega), if_pos (by omega)] at hb
        exact .two c2 g.1 g.2 hb hn
      · rw [if_pos (by omega)] at hb
        exact .bad (by rw [hk, hb, hn]; rfl) (by omega) (by omega) (by omega) (fun _ => g) (fun h => by omega) (fun h => by omega)
    · rw [if_neg c2] at hn
      by_cases c3 : 224 ≤ at_ l 0 ∧ at_ l 0 ≤ 239
      · rw [if_pos c3] at hn
        rw [hn, if_neg (by omega)] at hb
        by_cases g : 3 ≤ l.length ∧ (lo2 (at_ l 0) ≤ at_ l 1 ∧ at_ l 1 ≤ hi2 (at_ l 0)) ∧ 128 ≤ at_ l 2 ∧ at_ l 2 ≤ 191
        · rw [if_neg (by omega), if_neg (by omega), if_pos (by omega)] at hb
          exact .three c3 g.1 g.2.1 g.2.2 hb hn
        · have : begN l = 1 ∨ begN l = 2 ∧ 2 ≤ l.length := by
            by_cases g1 : 1 < 3 ∧ 1 < l.length ∧ lo2 (at_ l 0) ≤ at_ l 1 ∧ at_ l 1 ≤ hi2 (at_ l 0)
            · rw [if_neg (not_not_intro g1), if_pos (by omega)] at hb
              omega
            · rw [if_pos g1] at hb
              omega
          exact .bad (by rw [hk, hn]; rcases this with h | h <;> simp <;> omega) (by omega) (by omega) (by omega) (fun h => by omega) (fun _ => g) (fun h => by omega)
      · rw [if_neg c3] at hn
        by_cases c4 : 240 ≤ at_ l 0 ∧ at_ l 0 ≤ 244
        · rw [if_pos c4] at hn
          rw [hn, if_neg (by omega)] at hb
          by_cases g : 4 ≤ l.length ∧ (lo2 (at_ l 0) ≤ at_ l 1 ∧ at_ l 1 ≤ hi2 (at_ l 0)) ∧ (128 ≤ at_ l 2 ∧ at_ l 2 ≤ 191) ∧ 128 ≤ at_ l 3 ∧ at_ l 3 ≤ 191
          · rw [if_neg (by omega), if_neg (by omega), if_neg (by omega)] at hb
            exact .four c4 g.1 g.2.1 g.2.2.1 g.2.2.2 hb hn
          · have : begN l = 1 ∨ begN l = 2 ∧ 2 ≤ l.length ∨ begN l = 3 ∧ 3 ≤ l.length := by
              by_cases g1 : 1 < 4 ∧ 1 < l.length ∧ lo2 (at_ l 0) ≤ at_ l 1 ∧ at_ l 1 ≤ hi2 (at_ l 0)
              · rw [if_neg (not_not_intro g1)] at hb
                by_cases g2 : 2 < 4 ∧ 2 < l.length ∧ 128 ≤ at_ l 2 ∧ at_ l 2 ≤ 191
                · rw [if_neg (not_not_intro g2), if_pos (by omega)] at hb
                  omega
                · rw [if_pos g2] at hb
                  omega
              · rw [if_pos g1] at hb
                omega
            exact .bad (by rw [hk, hn]; rcases this with h | h | h <;> simp <;> omega) (by omega) (by omega) (by omega) (fun h => by omega) (fun h => by omega) (fun _ => g)
        · rw [if_neg c4] at hn
          rw [hn, if_pos rfl] at hb
          exact .bad (by rw [hk, hb]; rfl) (by omega) (by omega) (by omega) (fun h => by omega) (fun h => by omega) (fun h => by omega)
end Go.Proofs.YtbafdijklcoeoaaDoor.Utf

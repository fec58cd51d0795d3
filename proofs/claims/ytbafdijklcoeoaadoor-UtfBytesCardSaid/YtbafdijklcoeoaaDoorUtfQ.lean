/- Chapter 2, plain law: what the library decodes, what is encoded. No program. -/
import Derived.Test.YtbafdijklcoeoaaDoorUtfP
import Derived.Shelf.Unicode.DecodeSlow
namespace Go.Proofs.YtbafdijklcoeoaaDoor.Utf
open Go.RowKit
set_option linter.unusedVariables false
set_option linter.unusedSimpArgs false

theorem at_take (l : List UInt8) (k i : Nat) (h : i < k) : at_ (l.take k) i = at_ l i := by
  unfold at_
  rw [List.getElem?_take, if_pos h]
theorem ok_of {l : List UInt8} {k : Nat} (hb : begN l = k) (hn : longN (at_ l 0) = k) (h : 0 < k) : okS l = true := by
  unfold okS
  rw [hb, hn]
  simp [h]
theorem rS_one {l : List UInt8} (hl : l ≠ []) (hb : begN l = 1) (hn : longN (at_ l 0) = 1) : rS l = at_ l 0 := by
  have := List.length_pos_iff.2 hl
  unfold rS
  rw [if_pos (ok_of hb hn (by omega)), hb]
  unfold pointN
  rw [if_pos (by simp; omega), at_take l 1 0 (by omega)]
theorem rS_two {l : List UInt8} (hl : 2 ≤ l.length) (hb : begN l = 2) (hn : longN (at_ l 0) = 2) : rS l = 64 * (at_ l 0 - 192) + at_ l 1 - 128 := by
  unfold rS
  rw [if_pos (ok_of hb hn (by omega)), hb]
  have e : (l.take 2).length = 2 := by simp; omega
  unfold pointN
  rw [if_neg (by omega), e]
  show ptR (l.take 2) 1 = _
  unfold ptR ptR base
  rw [e, if_pos rfl, at_take l 2 0 (by omega), at_take l 2 (0 + 1) (by omega)]
theorem rS_three {l : List UInt8} (hl : 3 ≤ l.length) (hb : begN l = 3) (hn : longN (at_ l 0) = 3) : rS l = 64 * (64 * (at_ l 0 - 224) + at_ l 1 - 128) + at_ l 2 - 128 := by
  unfold rS
  rw [if_pos (ok_of hb hn (by omega)), hb]
  have e : (l.take 3).length = 3 := by simp; omega
  unfold pointN
  rw [if_neg (by omega), e]
  show ptR (l.take 3) 2 = _
  unfold ptR ptR ptR base
  rw [e, if_neg (by omega), if_pos rfl, at_take l 3 0 (by omega), at_take l 3 (0 + 1) (by omega), at_take l 3 (0 + 1 + 1) (by omega)]
theorem rS_four {l : List UInt8} (hl : 4 ≤ l.length) (hb : begN l = 4) (hn : longN (at_ l 0) = 4) : rS l = 64 * (64 * (64 * (at_ l 0 - 240) + at_ l 1 - 128) + at_ l 2 - 128) + at_ l 3 - 128 := by
  unfold rS
  rw [if_pos (ok_of hb hn (by omega)), hb]
  have e : (l.take 4).length = 4 := by simp; omega
  unfold pointN
  rw [if_neg (by omega), e]
  show ptR (l.take 4) 3 = _
  unfold ptR ptR ptR ptR base
  rw [e, if_neg (by omega), if_neg (by omega), at_take l 4 0 (by omega), at_take l 4 (0 + 1) (by omega), at_take l 4 (0 + 1 + 1) (by omega), at_take l 4 (0 + 1 + 1 + 1) (by omega)]
theorem rS_bad {l : List UInt8} (h : okS l = false) : rS l = 65533 := by unfold rS; rw [h]; rfl
theorem ok_eq {l : List UInt8} (h : okS l = true) : 0 < begN l ∧ begN l = longN (at_ l 0) := by
  unfold okS at h
  simpa using h
/-- Bytes of well-formed ones have a form. -/
theorem ok_form {l : List UInt8} (hl : l ≠ []) (h : okS l = true) : begN l ≤ l.length ∧ Form (l.take (begN l)) := by
  obtain ⟨h1, h2⟩ := ok_eq h
  have h0 := List.length_pos_iff.2 hl
  cases shape l hl with
  | one g hb hn =>
    have e : (l.take 1).length = 1 := by simp; omega
    rw [hb]
    exact ⟨by omega, by omega, by omega, fun x => absurd e x, fun i a b => by omega⟩
  | two g g1 g2 hb hn =>
    have e : (l.take 2).length = 2 := by simp; omega
    rw [hb]
    exact ⟨by omega, by omega, by omega, fun _ => by unfold base; rw [e, if_pos rfl, at_take _ _ _ (by omega)]; omega, fun i a b => by
      have hi : i = 1 := by omega
      rw [hi, at_take _ _ _ (by omega)]
      exact g2⟩
  | three g g1 g2 g3 hb hn =>
    have e : (l.take 3).length = 3 := by simp; omega
    rw [hb]
    refine ⟨by omega, by omega, by omega, fun _ => by unfold base; rw [e, if_neg (by omega), if_pos rfl, at_take _ _ _ (by omega)]; omega, fun i a b => ?_⟩
    have : lo2 (at_ l 0) ≥ 128 ∧ hi2 (at_ l 0) ≤ 191 := by unfold lo2 hi2; constructor <;> (repeat' split) <;> omega
    have hi : i = 1 ∨ i = 2 := by omega
    rcases hi with rfl | rfl <;> rw [at_take _ _ _ (by omega)] <;> omega
  | four g g1 g2 g3 g4 hb hn =>
    have e : (l.take 4).length = 4 := by simp; omega
    rw [hb]
    refine ⟨by omega, by omega, by omega, fun _ => by unfold base; rw [e, if_neg (by omega), if_neg (by omega), at_take _ _ _ (by omega)]; omega, fun i a b => ?_⟩
    have : lo2 (at_ l 0) ≥ 128 ∧ hi2 (at_ l 0) ≤ 191 := by unfold lo2 hi2; constructor <;> (repeat' split) <;> omega
    have hi : i = 1 ∨ i = 2 ∨ i = 3 := by omega
    rcases hi with rfl | rfl | rfl <;> rw [at_take _ _ _ (by omega)] <;> omega
  | bad hk => rw [h] at hk; cases hk
theorem nS_le {l : List UInt8} (hl : l ≠ []) : 1 ≤ nS l ∧ nS l ≤ 4 ∧ nS l ≤ l.length := by
  have h0 := List.length_pos_iff.2 hl
  unfold nS
  cases shape l hl with
  | one g hb hn => rw [if_pos (ok_of hb hn (by omega))]; omega
  | two g g1 g2 hb hn => rw [if_pos (ok_of hb hn (by omega))]; omega
  | three g g1 g2 g3 hb hn => rw [if_pos (ok_of hb hn (by omega))]; omega
  | four g g1 g2 g3 g4 hb hn => rw [if_pos (ok_of hb hn (by omega))]; omega
  | bad hk h0 hb hbl => rw [hk]; simp; omega
/-- A code point. -/
def isPoint (r : Int) : Prop := 0 ≤ r ∧ r ≤ 1114111 ∧ (r < 55296 ∨ 57343 < r)
theorem rS_point {l : List UInt8} (hl : l ≠ []) : isPoint (rS l) := by
  unfold isPoint
  have a0 := at_lt l 0
  cases shape l hl with
  | one g hb hn => rw [rS_one hl hb hn]; omega
  | two g g1 g2 hb hn => rw [rS_two g1 hb hn]; omega
  | three g g1 g2 g3 hb hn =>
    rw [rS_three g1 hb hn]
    unfold lo2 hi2 at g2
    by_cases e1 : at_ l 0 = 224
    · rw [e1] at g2 ⊢; simp at g2; omega
    · by_cases e2 : at_ l 0 = 237
      · rw [e2] at g2 ⊢; simp at g2; omega
      · rw [if_neg e1, if_neg (by omega), if_neg e2, if_neg (by omega)] at g2; omega
  | four g g1 g2 g3 g4 hb hn =>
    rw [rS_four g1 hb hn]
    unfold lo2 hi2 at g2
    by_cases e1 : at_ l 0 = 240
    · rw [e1] at g2 ⊢; simp at g2; omega
    · by_cases e2 : at_ l 0 = 244
      · rw [e2] at g2 ⊢; simp at g2; omega
      · rw [if_neg (by omega), if_neg e1, if_neg (by omega), if_neg e2] at g2; omega
  | bad hk => rw [rS_bad hk]; omega
theorem lo_cases (f : Int) : (f = 224 ∧ lo2 f = 160) ∨ (f = 240 ∧ lo2 f = 144) ∨ (f ≠ 224 ∧ f ≠ 240 ∧ lo2 f = 128) := by
  unfold lo2
  by_cases e1 : f = 224
  · rw [if_pos e1]; omega
  · rw [if_neg e1]
    by_cases e2 : f = 240
    · rw [if_pos e2]; omega
    · rw [if_neg e2]; omega
theorem hi_cases (f : Int) : (f = 237 ∧ hi2 f = 159) ∨ (f = 244 ∧ hi2 f = 143) ∨ (f ≠ 237 ∧ f ≠ 244 ∧ hi2 f = 191) := by
  unfold hi2
  by_cases e1 : f = 237
  · rw [if_pos e1]; omega
  · rw [if_neg e1]
    by_cases e2 : f = 244
    · rw [if_pos e2]; omega
    · rw [if_neg e2]; omega
theorem get_at (l : List UInt8) (k : Nat) : ((⟨l.toArray⟩ : ByteArray).get! k).toNat = (at_ l k).toNat := by
  unfold at_
  show (l.toArray[k]!).toNat = _
  rw [List.getElem!_toArray, List.getElem!_eq_getElem?_getD]
  rfl
theorem i2n (x : Int) (h : 0 ≤ x) : ((x.toNat : Nat) : Int) = x := Int.toNat_of_nonneg h
/-- What the library's DecodeRuneInString tells. -/
theorem dec_eq (l : List UInt8) (hl : l ≠ []) : Lib.decodeGo ⟨l.toArray⟩ = if okS l = true then ((rS l).toNat, begN l) else (65533, 1) := by
  have h0 := List.length_pos_iff.2 hl
  unfold Lib.decodeGo
  have es : (⟨l.toArray⟩ : ByteArray).size = l.length := rfl
  rw [if_neg (by rw [es]; omega)]
  unfold Utf8.decode
  simp only [get_at, es, Nat.zero_add]
  have a0 := at_lt l 0
  have a1 := at_lt l 1
  have a2 := at_lt l 2
  have a3 := at_lt l 3
  obtain ⟨n0, e0⟩ : ∃ n : Nat, at_ l 0 = n := ⟨_, (i2n _ a0.1).symm⟩
  obtain ⟨n1, e1⟩ : ∃ n : Nat, at_ l 1 = n := ⟨_, (i2n _ a1.1).symm⟩
  obtain ⟨n2, e2⟩ : ∃ n : Nat, at_ l 2 = n := ⟨_, (i2n _ a2.1).symm⟩
  obtain ⟨n3, e3⟩ : ∃ n : Nat, at_ l 3 = n := ⟨_, (i2n _ a3.1).symm⟩
  have q0 := lo_cases (at_ l 0)
  have q1 := hi_cases (at_ l 0)
  have hs : (okS l = true ∧ begN l = 1 ∧ rS l = at_ l 0 ∧ at_ l 0 ≤ 127) ∨
      (okS l = true ∧ begN l = 2 ∧ rS l = 64 * (at_ l 0 - 192) + at_ l 1 - 128 ∧ (194 ≤ at_ l 0 ∧ at_ l 0 ≤ 223) ∧ 2 ≤ l.length ∧ 128 ≤ at_ l 1 ∧ at_ l 1 ≤ 191) ∨
      (okS l = true ∧ begN l = 3 ∧ rS l = 64 * (64 * (at_ l 0 - 224) + at_ l 1 - 128) + at_ l 2 - 128 ∧ (224 ≤ at_ l 0 ∧ at_ l 0 ≤ 239) ∧ 3 ≤ l.length ∧ (lo2 (at_ l 0) ≤ at_ l 1 ∧ at_ l 1 ≤ hi2 (at_ l 0)) ∧ 128 ≤ at_ l 2 ∧ at_ l 2 ≤ 191) ∨
      (okS l = true ∧ begN l = 4 ∧ rS l = 64 * (64 * (64 * (at_ l 0 - 240) + at_ l 1 - 128) + at_ l 2 - 128) + at_ l 3 - 128 ∧ (240 ≤ at_ l 0 ∧ at_ l 0 ≤ 244) ∧ 4 ≤ l.length ∧ (lo2 (at_ l 0) ≤ at_ l 1 ∧ at_ l 1 ≤ hi2 (at_ l 0)) ∧ (128 ≤ at_ l 2 ∧ at_ l 2 ≤ 191) ∧ 128 ≤ at_ l 3 ∧ at_ l 3 ≤ 191) ∨
      (okS l = false ∧ 128 ≤ at_ l 0 ∧ (194 ≤ at_ l 0 ∧ at_ l 0 ≤ 223 → ¬ (2 ≤ l.length ∧ 128 ≤ at_ l 1 ∧ at_ l 1 ≤ 191)) ∧
        (224 ≤ at_ l 0 ∧ at_ l 0 ≤ 239 → ¬ (3 ≤ l.length ∧ (lo2 (at_ l 0) ≤ at_ l 1 ∧ at_ l 1 ≤ hi2 (at_ l 0)) ∧ 128 ≤ at_ l 2 ∧ at_ l 2 ≤ 191)) ∧
        (240 ≤ at_ l 0 ∧ at_ l 0 ≤ 244 → ¬ (4 ≤ l.length ∧ (lo2 (at_ l 0) ≤ at_ l 1 ∧ at_ l 1 ≤ hi2 (at_ l 0)) ∧ (128 ≤ at_ l 2 ∧ at_ l 2 ≤ 191) ∧ 128 ≤ at_ l 3 ∧ at_ l 3 ≤ 191))) := by
    cases shape l hl with
    | one g hb hn => exact .inl ⟨ok_of hb hn (by omega), hb, rS_one hl hb hn, g⟩
    | two g g1 g2 hb hn => exact .inr (.inl ⟨ok_of hb hn (by omega), hb, rS_two g1 hb hn, g, g1, g2⟩)
    | three g g1 g2 g3 hb hn => exact .inr (.inr (.inl ⟨ok_of hb hn (by omega), hb, rS_three g1 hb hn, g, g1, g2, g3⟩))
    | four g g1 g2 g3 g4 hb hn => exact .inr (.inr (.inr (.inl ⟨ok_of hb hn (by omega), hb, rS_four g1 hb hn, g, g1, g2, g3, g4⟩)))
    | bad hk k0 hb hbl h2 h3 h4 => exact .inr (.inr (.inr (.inr ⟨hk, k0, h2, h3, h4⟩)))
  rw [e0] at hs q0 q1 a0 ⊢
  rw [e1] at hs a1 ⊢
  rw [e2] at hs a2 ⊢
  rw [e3] at hs a3 ⊢
  simp only [Int.toNat_natCast]
  generalize lo2 (n0 : Int) = lo at hs q0
  generalize hi2 (n0 : Int) = hi at hs q1
  rcases hs with ⟨hk, hb, hr, g⟩ | ⟨hk, hb, hr, g, g1, g2⟩ | ⟨hk, hb, hr, g, g1, g2, g3⟩ | ⟨hk, hb, hr, g, g1, g2, g3, g4⟩ | ⟨hk, g, h2, h3, h4⟩
  · rw [if_pos hk, hb, hr, if_pos (show n0 < 128 by omega)]
    rfl
  · rw [if_pos hk, hb, hr, if_neg (show ¬ n0 < 128 by omega), if_pos (by simp only [Bool.and_eq_true, decide_eq_true_eq, beq_iff_eq]; omega), if_pos (show n0 % 32 * 64 + n1 % 64 ≥ 128 by omega)]
    refine Prod.ext ?_ rfl
    show n0 % 32 * 64 + n1 % 64 = _
    omega
  · rw [if_pos hk, hb, hr, if_neg (show ¬ n0 < 128 by omega), if_neg (by simp only [Bool.and_eq_true, decide_eq_true_eq, beq_iff_eq]; omega), if_pos (by simp only [Bool.and_eq_true, decide_eq_true_eq, beq_iff_eq]; omega),
      if_pos (by unfold Utf8.valid; simp only [Bool.and_eq_true, Bool.or_eq_true, decide_eq_true_eq, beq_iff_eq]; omega)]
    refine Prod.ext ?_ rfl
    show n0 % 16 * 4096 + n1 % 64 * 64 + n2 % 64 = _
    omega
  · rw [if_pos hk, hb, hr, if_neg (show ¬ n0 < 128 by omega), if_neg (by simp only [Bool.and_eq_true, decide_eq_true_eq, beq_iff_eq]; omega), if_neg (by simp only [Bool.and_eq_true, decide_eq_true_eq, beq_iff_eq]; omega), if_pos (by simp only [Bool.and_eq_true, decide_eq_true_eq, beq_iff_eq]; omega),
      if_pos (by unfold Utf8.valid; simp only [Bool.and_eq_true, Bool.or_eq_true, decide_eq_true_eq, beq_iff_eq]; omega)]
    refine Prod.ext ?_ rfl
    show n0 % 8 * 262144 + n1 % 64 * 4096 + n2 % 64 * 64 + n3 % 64 = _
    omega
  · rw [hk, if_neg (show ¬ n0 < 128 by omega)]
    rw [show (if false = true then ((rS l).toNat, begN l) else (65533, 1)) = ((65533, 1) : Nat × Nat) from rfl]
    by_cases c2 : (n0 / 32 == 6 && (decide (1 < l.length) && n1 / 64 == 2)) = true
    · rw [if_pos c2]
      simp only [Bool.and_eq_true, decide_eq_true_eq, beq_iff_eq] at c2
      rw [if_neg (show ¬ n0 % 32 * 64 + n1 % 64 ≥ 128 by omega)]
      rfl
    · rw [if_neg c2]
      by_cases c3 : (n0 / 16 == 14 && (decide (1 < l.length) && n1 / 64 == 2) && (decide (2 < l.length) && n2 / 64 == 2)) = true
      · rw [if_pos c3]
        simp only [Bool.and_eq_true, decide_eq_true_eq, beq_iff_eq] at c3
        rw [if_neg (by unfold Utf8.valid; simp only [Bool.and_eq_true, Bool.or_eq_true, decide_eq_true_eq, beq_iff_eq]; omega)]
        rfl
      · rw [if_neg c3]
        by_cases c4 : (n0 / 8 == 30 && (decide (1 < l.length) && n1 / 64 == 2) && (decide (2 < l.length) && n2 / 64 == 2) && (decide (3 < l.length) && n3 / 64 == 2)) = true
        · rw [if_pos c4]
          simp only [Bool.and_eq_true, decide_eq_true_eq, beq_iff_eq] at c4
          rw [if_neg (by unfold Utf8.valid; simp only [Bool.and_eq_true, Bool.or_eq_true, decide_eq_true_eq, beq_iff_eq]; omega)]
          rfl
        · rw [if_neg c4]
          rfl
end Go.Proofs.YtbafdijklcoeoaaDoor.Utf

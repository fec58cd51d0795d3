/- Numbers as rows of bits, the lowest first: what one more row added, and one bit more of a quotient, make of them. Plain numbers; no condition. -/
import Derived.Test.YtglomkpnbdnnoaaMore
namespace Go.Proofs.Ytglomkpnbdnnoaa.Bits
set_option linter.unusedVariables false

/-- The number that a row of bits is. -/
def val : List Nat → Nat
  | [] => 0
  | b :: l => b + 2 * val l
def bits01 (l : List Nat) : Prop := ∀ x ∈ l, x ≤ 1
theorem val_set (l : List Nat) (i v : Nat) (h : i < l.length) : val (l.set i v) + l[i] * 2 ^ i = val l + v * 2 ^ i := by
  induction l generalizing i with
  | nil => simp at h
  | cons b l ih =>
    cases i with
    | zero => simp [val]; omega
    | succ i =>
      have := ih i (by simpa using h)
      simp only [List.set_cons_succ, val, List.getElem_cons_succ, Nat.pow_succ]
      generalize 2 ^ i = p at *
      have e1 : l[i]'(by simpa using h) * (p * 2) = 2 * (l[i]'(by simpa using h) * p) := by rw [Nat.mul_comm p 2, Nat.mul_left_comm]
      have e2 : v * (p * 2) = 2 * (v * p) := by rw [Nat.mul_comm p 2, Nat.mul_left_comm]
      rw [e1, e2]
      omega
theorem val_zeros (n : Nat) : val (List.replicate n 0) = 0 := by
  induction n with
  | zero => rfl
  | succ n ih => rw [List.replicate_succ, val, ih]
theorem bits_set {l : List Nat} {i v : Nat} (h : bits01 l) (hv : v ≤ 1) : bits01 (l.set i v) := fun x hx => by
  rcases List.mem_or_eq_of_mem_set hx with h1 | h1
  · exact h x h1
  · omega
theorem val_drop (l : List Nat) (j : Nat) (h : j < l.length) : val (l.drop j) = l[j] + 2 * val (l.drop (j + 1)) := by
  rw [List.drop_eq_getElem_cons h, val]
theorem val_drop_le (l : List Nat) : ∀ j, 2 ^ j * val (l.drop j) ≤ val l := by
  intro j
  induction j generalizing l with
  | zero => simp
  | succ j ih =>
    cases l with
    | nil => simp [val]
    | cons b l =>
      have := ih l
      simp only [List.drop_succ_cons, val, Nat.pow_succ]
      rw [Nat.mul_comm (2 ^ j) 2, Nat.mul_assoc]
      omega
theorem mod_succ (a i : Nat) : a % 2 ^ (i + 1) = a % 2 ^ i + a / 2 ^ i % 2 * 2 ^ i := by
  rw [Nat.pow_succ, Nat.mod_mul]
  rw [Nat.mul_comm]

/-- The inner loop's law: the row, and what is carried, is the row that was and so much of b. -/
structure Carry (V b i k c : Nat) (l : List Nat) : Prop where
  len : l.length = 132
  bit : bits01 l
  c1 : c ≤ 1
  eq : val l + c * 2 ^ (k + i) = V + b % 2 ^ k * 2 ^ i
theorem carry_step {V b i k c : Nat} {l : List Nat} (H : Carry V b i k c l) (h : k + i < 132) (n m : Nat) (hn : n = l[k + i]'(by rw [H.len]; exact h) + c + b / 2 ^ k % 2) (hm : n % 2 = m) (d : Nat) (hd : n / 2 = d) :
    Carry V b i (k + 1) d (l.set (k + i) m) := by
  have hx := H.bit _ (List.getElem_mem (show k + i < l.length by rw [H.len]; exact h))
  have hc := H.c1
  have hb : b / 2 ^ k % 2 ≤ 1 := by omega
  refine ⟨by rw [List.length_set]; exact H.len, bits_set H.bit (by omega), by omega, ?_⟩
  have e := val_set l (k + i) m (by rw [H.len]; exact h)
  have e2 := H.eq
  rw [mod_succ, Nat.add_mul, Nat.mul_assoc, ← Nat.pow_add, show k + 1 + i = k + i + 1 by omega, Nat.pow_succ]
  generalize 2 ^ (k + i) = p at *
  generalize b / 2 ^ k % 2 = t at *
  generalize l[k + i]'(by rw [H.len]; exact h) = x at *
  have e3 : d * (p * 2) + m * p = n * p := by
    rw [Nat.mul_comm p 2, ← Nat.mul_assoc, ← Nat.add_mul]
    congr 1
    omega
  have e4 : n * p = x * p + c * p + t * p := by rw [hn, Nat.add_mul, Nat.add_mul]
  omega
theorem carry_end {a b i c k : Nat} {l : List Nat} (hi : i < 64) (hb : b < 2 ^ 64) (hk : k + i = 132) (H : Carry (a % 2 ^ i * b) b i k c l) (hbit : a / 2 ^ i % 2 = 1) : val l = a % 2 ^ (i + 1) * b := by
  have e := H.eq
  rw [hk, Nat.mod_eq_of_lt (Nat.lt_of_lt_of_le hb (Nat.pow_le_pow_right (by omega) (by omega)))] at e
  have e1 : a % 2 ^ (i + 1) * b = a % 2 ^ i * b + b * 2 ^ i := by rw [mod_succ, hbit, Nat.one_mul, Nat.add_mul, Nat.mul_comm b]
  have e2 : a % 2 ^ (i + 1) * b < 2 ^ 132 := by
    calc a % 2 ^ (i + 1) * b ≤ 2 ^ (i + 1) * b := Nat.mul_le_mul_right _ (Nat.le_of_lt (Nat.mod_lt _ (Nat.two_pow_pos _)))
      _ ≤ 2 ^ 64 * b := Nat.mul_le_mul_right _ (Nat.pow_le_pow_right (by omega) (by omega))
      _ < 2 ^ 64 * 2 ^ 64 := (Nat.mul_lt_mul_left (Nat.two_pow_pos _)).2 hb
      _ ≤ 2 ^ 132 := by rw [← Nat.pow_add]; exact Nat.pow_le_pow_right (by omega) (by omega)
  rcases Nat.eq_zero_or_pos c with h | h
  · subst h; omega
  · have : 1 * 2 ^ 132 ≤ c * 2 ^ 132 := Nat.mul_le_mul_right _ h
    omega
theorem skip_bit {a i b V : Nat} (h : V = a % 2 ^ i * b) (hbit : a / 2 ^ i % 2 = 0) : V = a % 2 ^ (i + 1) * b := by
  rw [h, mod_succ, hbit, Nat.zero_mul, Nat.add_zero]

/-- The quotient's law: so much of the row has been divided. -/
structure Quot (l : List Nat) (d j q r : Nat) : Prop where
  eq : q * d + r = val (l.drop j)
  lt : r < d
theorem quot_step {l : List Nat} {d j q r x : Nat} (H : Quot l d (j + 1) q r) (hj : j < l.length) (hx : l[j] = x) (hx1 : x ≤ 1) :
    (2 * r + x < d → Quot l d j (2 * q) (2 * r + x)) ∧ (d ≤ 2 * r + x → Quot l d j (2 * q + 1) (2 * r + x - d)) := by
  have e := H.eq
  have hlt := H.lt
  have e2 := val_drop l j hj
  rw [hx] at e2
  have e3 : 2 * q * d = 2 * (q * d) := Nat.mul_assoc _ _ _
  have e4 : (2 * q + 1) * d = 2 * (q * d) + d := by rw [Nat.add_mul, Nat.one_mul, e3]
  exact ⟨fun h => ⟨by rw [e3, e2]; omega, h⟩, fun h => ⟨by rw [e4, e2]; omega, by omega⟩⟩
theorem quot_end {l : List Nat} {d q r : Nat} (H : Quot l d 0 q r) : val l / d = q ∧ val l % d = r := by
  have e := H.eq
  rw [List.drop_zero] at e
  have hlt := H.lt
  rw [← e]
  refine ⟨?_, ?_⟩
  · rw [Nat.mul_comm, Nat.mul_add_div (by omega), Nat.div_eq_of_lt hlt, Nat.add_zero]
  · rw [Nat.mul_comm, Nat.mul_add_mod, Nat.mod_eq_of_lt hlt]
theorem quot_far {l : List Nat} {d j q r : Nat} (H : Quot l d (j + 1) q r) (h : 4611686018427387904 ≤ q) : 9223372036854775808 ≤ val l / d := by
  have e := H.eq
  have hlt := H.lt
  refine (Nat.le_div_iff_mul_le (by omega)).2 ?_
  have h1 := val_drop_le l (j + 1)
  have h2 : 2 * val (l.drop (j + 1)) ≤ 2 ^ (j + 1) * val (l.drop (j + 1)) := Nat.mul_le_mul_right _ (by rw [Nat.pow_succ]; have := Nat.two_pow_pos j; omega)
  have h3 : 4611686018427387904 * d ≤ q * d := Nat.mul_le_mul_right _ h
  omega
end Go.Proofs.Ytglomkpnbdnnoaa.Bits

/- Chapter 3: a number's bytes, and what bytes say of a number. Plain laws; no condition but bounds. -/
namespace Go.Proofs.Ytijkfllolcgfhaa.Pack
set_option linter.unusedVariables false
set_option linter.unusedSimpArgs false

/-- The digits of a number to the base 256, the greatest first. -/
def beF : Nat → Nat → List UInt8
  | 0, _ => []
  | f + 1, n => if n = 0 then [] else beF f (n / 256) ++ [UInt8.ofNat n]
def be (n : Nat) : List UInt8 := beF 9 n
/-- A number below 2^64. -/
def U64 (n : Nat) : Prop := n < 18446744073709551616
theorem beF_more : ∀ (f n : Nat), n < 256 ^ f → beF (f + 1) n = beF f n
  | 0, n, h => by
    have : n = 0 := by simp at h; exact h
    subst this
    simp [beF]
  | f + 1, n, h => by
    rw [beF, beF_more f (n / 256) (by rw [Nat.pow_succ] at h; exact Nat.div_lt_of_lt_mul (by omega))]
    rw [beF]
theorem pow8 : 256 ^ 8 = 18446744073709551616 := by decide
theorem be_eq {n : Nat} (h : U64 n) : be n = if n = 0 then [] else be (n / 256) ++ [UInt8.ofNat n] := by
  unfold U64 at h
  unfold be
  rw [beF, beF_more 8 (n / 256) (by rw [pow8]; omega)]
theorem be_zero : be 0 = [] := rfl
theorem be_pos {n : Nat} (h : U64 n) (hn : 0 < n) : be n = be (n / 256) ++ [UInt8.ofNat n] := by rw [be_eq h, if_neg (by omega)]
theorem u64_div {n : Nat} (h : U64 n) : U64 (n / 256) := by unfold U64 at *; omega
def val (l : List UInt8) : Nat := l.foldl (fun a c => 256 * a + c.toNat) 0
theorem val_snoc (l : List UInt8) (c : UInt8) : val (l ++ [c]) = 256 * val l + c.toNat := by simp [val]
theorem val_be {n : Nat} : U64 n → val (be n) = n := by
  induction n using Nat.strongRecOn with
  | _ n ih =>
    intro h
    rcases Nat.eq_zero_or_pos n with rfl | hn
    · rfl
    · rw [be_pos h hn, val_snoc, ih (n / 256) (by omega) (u64_div h)]
      simp [UInt8.toNat_ofNat']
      omega
theorem beF_len : ∀ (f n m : Nat), n < 256 ^ m → (beF f n).length ≤ m
  | 0, n, m, h => by simp [beF]
  | f + 1, n, 0, h => by
    have : n = 0 := by simp at h; exact h
    subst this
    simp [beF]
  | f + 1, n, m + 1, h => by
    rw [beF]
    split
    · simp
    · have := beF_len f (n / 256) m (by rw [Nat.pow_succ] at h; exact Nat.div_lt_of_lt_mul (by omega))
      simp
      omega
theorem be_len {n : Nat} (h : U64 n) : (be n).length ≤ 8 := beF_len 9 n 8 (by unfold U64 at h; rw [pow8]; exact h)
theorem be_ne {n : Nat} (h : U64 n) (hn : 0 < n) : be n ≠ [] := by rw [be_pos h hn]; simp
theorem be_len_pos {n : Nat} (h : U64 n) (hn : 0 < n) : 0 < (be n).length := by
  rw [be_pos h hn]
  simp
theorem be_head {n : Nat} : U64 n → 0 < n → (be n).head? ≠ some 0 := by
  induction n using Nat.strongRecOn with
  | _ n ih =>
    intro h hn
    rw [be_pos h hn]
    rcases Nat.eq_zero_or_pos (n / 256) with hz | hp
    · rw [hz, be_zero]
      simp
      intro he
      have := congrArg UInt8.toNat he
      simp [UInt8.toNat_ofNat'] at this
      omega
    · have := ih (n / 256) (by omega) (u64_div h) hp
      rw [List.head?_append]
      have hne := be_ne (u64_div h) hp
      cases hl : be (n / 256) with
      | nil => exact absurd hl hne
      | cons a t => rw [hl] at this; simpa using this
theorem val_lt : ∀ (l : List UInt8), val l < 256 ^ l.length := by
  intro l
  have key : ∀ (l : List UInt8) (a : Nat), l.foldl (fun a c => 256 * a + c.toNat) a + 1 ≤ (a + 1) * 256 ^ l.length := by
    intro l
    induction l with
    | nil => simp
    | cons c l ih =>
      intro a
      rw [List.foldl_cons, List.length_cons, Nat.pow_succ]
      refine Nat.le_trans (ih _) ?_
      have := UInt8.toNat_lt c
      have h1 : 256 * a + c.toNat + 1 ≤ (a + 1) * 256 := by omega
      refine Nat.le_trans (Nat.mul_le_mul_right _ h1) ?_
      rw [Nat.mul_assoc, Nat.mul_comm 256]
      exact Nat.le_refl _
  have := key l 0
  unfold val
  simp at this
  omega
theorem val_u64 {l : List UInt8} (h : l.length ≤ 8) : U64 (val l) := by
  unfold U64
  rw [← pow8]
  exact Nat.lt_of_lt_of_le (val_lt l) (Nat.pow_le_pow_right (by omega) h)
theorem val_pos : ∀ (l : List UInt8), l ≠ [] → l.head? ≠ some 0 → 0 < val l := by
  intro l hne hh
  cases l with
  | nil => exact absurd rfl hne
  | cons c l =>
    have hc : 0 < c.toNat := by
      rcases Nat.eq_zero_or_pos c.toNat with h | h
      · exact absurd (by simp [UInt8.toNat_inj.1 (show c.toNat = (0 : UInt8).toNat by simpa using h)]) hh
      · exact h
    have key : ∀ (l : List UInt8) (a : Nat), a ≤ l.foldl (fun a c => 256 * a + c.toNat) a := by
      intro l
      induction l with
      | nil => simp
      | cons c l ih => intro a; rw [List.foldl_cons]; exact Nat.le_trans (by omega) (ih _)
    have := key l (256 * 0 + c.toNat)
    unfold val
    rw [List.foldl_cons]
    omega
theorem ofNat_val (c : UInt8) (a : Nat) : UInt8.ofNat (256 * a + c.toNat) = c := by
  rw [← UInt8.toNat_inj]
  simp [UInt8.toNat_ofNat']
theorem be_val : ∀ (k : Nat) (l : List UInt8), l.length = k → k ≤ 8 → l ≠ [] → l.head? ≠ some 0 → be (val l) = l
  | 0, l, hl, _, hne, _ => absurd (List.eq_nil_of_length_eq_zero hl) hne
  | k + 1, l, hl, hk, hne, hh => by
    have hsp : l = l.dropLast ++ [l.getLast hne] := (List.dropLast_concat_getLast hne).symm
    have hp := val_pos l hne hh
    have hu : U64 (val l) := val_u64 (by omega)
    rw [be_pos hu hp]
    generalize l.getLast hne = c at hsp
    have hd : l.dropLast.length = k := by simp [hl]
    generalize l.dropLast = m at hsp hd
    subst hsp
    rw [val_snoc, ofNat_val]
    have hc := UInt8.toNat_lt c
    have hq : (256 * val m + c.toNat) / 256 = val m := by omega
    rw [hq]
    by_cases hm : m = []
    · subst hm; rfl
    · rw [be_val k m hd (by omega) hm (by
        cases m with
        | nil => exact absurd rfl hm
        | cons a t => simpa using hh)]

/-- A number's bytes. -/
def numB (n : Nat) : List UInt8 := if n < 248 then [UInt8.ofNat n] else UInt8.ofNat (247 + (be n).length) :: be n
theorem numB_small {n : Nat} (h : n < 248) : numB n = [UInt8.ofNat n] := if_pos h
theorem numB_great {n : Nat} (h : 248 ≤ n) : numB n = UInt8.ofNat (247 + (be n).length) :: be n := if_neg (by omega)
theorem numB_len {n : Nat} (h : U64 n) : (numB n).length ≤ 9 := by
  unfold numB
  split
  · simp
  · have := be_len h
    simp
    omega
theorem numB_pos (n : Nat) : 0 < (numB n).length := by
  unfold numB
  split <;> simp
/-- What bytes say of a number, and what is left; nothing, if they say none. -/
def tn : List UInt8 → Option (Nat × List UInt8)
  | [] => none
  | c :: t => if c.toNat < 248 then some (c.toNat, t) else
    if t.length < c.toNat - 247 then none else
      if (t.take (c.toNat - 247)).head? = some 0 ∨ val (t.take (c.toNat - 247)) < 248 then none else some (val (t.take (c.toNat - 247)), t.drop (c.toNat - 247))
theorem tn_inv {b : List UInt8} {n : Nat} {r : List UInt8} (h : tn b = some (n, r)) : b = numB n ++ r ∧ U64 n := by
  cases b with
  | nil => simp [tn] at h
  | cons c t =>
    have hc := UInt8.toNat_lt c
    rw [tn] at h
    by_cases h1 : c.toNat < 248
    · rw [if_pos h1] at h
      obtain ⟨rfl, rfl⟩ := Prod.mk.inj (Option.some.inj h)
      rw [numB_small h1]
      exact ⟨by simp, by unfold U64; omega⟩
    · rw [if_neg h1] at h
      by_cases h2 : t.length < c.toNat - 247
      · rw [if_pos h2] at h; cases h
      · rw [if_neg h2] at h
        generalize hk : c.toNat - 247 = k at h h2
        have htl : (t.take k).length = k := by rw [List.length_take]; omega
        by_cases h3 : (t.take k).head? = some 0 ∨ val (t.take k) < 248
        · rw [if_pos h3] at h; cases h
        · rw [if_neg h3] at h
          rw [not_or] at h3
          obtain ⟨h3, h4⟩ := h3
          obtain ⟨rfl, rfl⟩ := Prod.mk.inj (Option.some.inj h)
          have hne : t.take k ≠ [] := by intro e; rw [e] at htl; simp at htl; omega
          have hb := be_val k (t.take k) htl (by omega) hne h3
          rw [numB_great (by omega), hb, htl, show 247 + k = c.toNat by omega]
          exact ⟨by simp, val_u64 (by omega)⟩
theorem tn_num {n : Nat} (h : U64 n) (r : List UInt8) : tn (numB n ++ r) = some (n, r) := by
  by_cases h1 : n < 248
  · rw [numB_small h1]
    have : (UInt8.ofNat n).toNat = n := by simp [UInt8.toNat_ofNat']; omega
    simp only [List.cons_append, List.nil_append, tn, this, if_pos h1]
  · have hl := be_len h
    have hp := be_len_pos h (by omega)
    have hh := be_head h (by omega)
    have hv := val_be h
    rw [numB_great (by omega)]
    generalize be n = l at hl hp hh hv
    have : (UInt8.ofNat (247 + l.length)).toNat = 247 + l.length := by simp [UInt8.toNat_ofNat']; omega
    simp only [List.cons_append, tn, this]
    rw [if_neg (by omega), show 247 + l.length - 247 = l.length by omega, if_neg (by simp), List.take_left, List.drop_left, hv, if_neg (by rw [not_or]; exact ⟨hh, by omega⟩)]
theorem tn_more {b r x : List UInt8} {n : Nat} (h : tn b = some (n, r)) : tn (b ++ x) = some (n, r ++ x) := by
  obtain ⟨rfl, hu⟩ := tn_inv h
  rw [List.append_assoc, tn_num hu]
theorem numB_inj {n m : Nat} (hn : U64 n) (hm : U64 m) {r s : List UInt8} (h : numB n ++ r = numB m ++ s) : n = m ∧ r = s := by
  have h1 := tn_num hn r
  rw [h, tn_num hm s] at h1
  obtain ⟨rfl, rfl⟩ := Prod.mk.inj (Option.some.inj h1)
  exact ⟨rfl, rfl⟩
theorem tn_lt {b r : List UInt8} {n : Nat} (h : tn b = some (n, r)) : r.length < b.length := by
  obtain ⟨rfl, hu⟩ := tn_inv h
  have := numB_pos n
  simp
  omega
/-- An integer as a number, and back. -/
def zz (n : Int) : Nat := if 0 ≤ n then 2 * n.toNat else 2 * (-(n + 1)).toNat + 1
def unzz (m : Nat) : Int := if m % 2 = 1 then -((m / 2 : Nat) : Int) - 1 else ((m / 2 : Nat) : Int)
def I64 (n : Int) : Prop := -9223372036854775808 ≤ n ∧ n ≤ 9223372036854775807
theorem zz_u64 {n : Int} (h : I64 n) : U64 (zz n) := by unfold I64 at h; unfold U64 zz; split <;> omega
theorem unzz_i64 {m : Nat} (h : U64 m) : I64 (unzz m) := by unfold U64 at h; unfold I64 unzz; split <;> omega
theorem unzz_zz (n : Int) : unzz (zz n) = n := by unfold unzz zz; split <;> split <;> omega
theorem zz_unzz (m : Nat) : zz (unzz m) = m := by unfold unzz zz; split <;> split <;> omega
end Go.Proofs.Ytijkfllolcgfhaa.Pack

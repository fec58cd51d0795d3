/- Chapter 3: integers, truths, texts, lists read, walked. No condition but bounds. -/
import Derived.Test.YtijkfllolcgfhaaPackRn
namespace Go.Proofs.Ytijkfllolcgfhaa.Pack
open Go.RowKit
set_option linter.unusedVariables false
set_option linter.unusedSimpArgs false

theorem tnS_u64 (st : Option (List UInt8)) : U64 (tnS st).1 := by
  cases h : st.bind tn with
  | none => rw [tnS_none h]; unfold U64; omega
  | some q =>
    obtain ⟨n, r⟩ := q
    rw [tnS_some h]
    obtain ⟨b, rfl, hb⟩ := Option.bind_eq_some_iff.1 h
    exact (tn_inv hb).2
/-- How much may yet be read. -/
def rem : Option (List UInt8) → Nat | some b => b.length + 1 | none => 0
theorem tnS_rem {st : Option (List UInt8)} : rem (tnS st).2 ≤ rem st ∧ (st ≠ none → rem (tnS st).2 + 1 ≤ rem st) := by
  cases h : st.bind tn with
  | none => rw [tnS_none h]; exact ⟨Nat.zero_le _, fun hs => by
      cases st with
      | none => exact absurd rfl hs
      | some b => simp [rem]⟩
  | some q =>
    obtain ⟨n, r⟩ := q
    rw [tnS_some h]
    obtain ⟨b, rfl, hb⟩ := Option.bind_eq_some_iff.1 h
    have := tn_lt hb
    simp only [rem]
    exact ⟨by omega, fun _ => by omega⟩
theorem rem_le {st st' : Option (List UInt8)} {M : Nat} (h : ∀ b, st = some b → b.length ≤ M) (hr : rem st' ≤ rem st) : ∀ b, st' = some b → b.length ≤ M := by
  rintro b rfl
  cases st with
  | none => simp [rem] at hr
  | some a => have := h a rfl; simp only [rem] at hr; omega
theorem tk_rem (n : Nat) (st : Option (List UInt8)) : rem (tk n st).2 ≤ rem st := by
  cases st with
  | none => exact Nat.le_refl _
  | some b =>
    simp only [tk]
    by_cases h : n ≤ b.length
    · rw [if_pos h]; simp only [rem, List.length_drop]; omega
    · rw [if_neg h]; exact Nat.zero_le _
/-- An integer, a truth, a text read. -/
def tiS (st : Option (List UInt8)) : Int × Option (List UInt8) := (unzz (tnS st).1, (tnS st).2)
def ttS (st : Option (List UInt8)) : Bool × Option (List UInt8) := if (tnS st).1 ≤ 1 then (decide ((tnS st).1 = 1), (tnS st).2) else (false, none)
def txS (st : Option (List UInt8)) : List UInt8 × Option (List UInt8) := tk (tnS st).1 (tnS st).2
theorem tiS_rem {st : Option (List UInt8)} (h : st ≠ none) : rem (tiS st).2 + 1 ≤ rem st := tnS_rem.2 h
theorem txS_rem {st : Option (List UInt8)} (h : st ≠ none) : rem (txS st).2 + 1 ≤ rem st := by
  have h1 := tk_rem (tnS st).1 (tnS st).2
  have h2 := tnS_rem.2 h
  unfold txS
  omega
/-- So many things read, while all is fine. -/
def manyS {α : Type} (f : Option (List UInt8) → α × Option (List UInt8)) : Nat → Option (List UInt8) → List α × Option (List UInt8)
  | 0, st => ([], st)
  | _ + 1, none => ([], none)
  | n + 1, some b => ((f (some b)).1 :: (manyS f n (f (some b)).2).1, (manyS f n (f (some b)).2).2)
/-- A list read. -/
def listS {α : Type} (f : Option (List UInt8) → α × Option (List UInt8)) (st : Option (List UInt8)) : List α × Option (List UInt8) :=
  if (manyS f (tnS st).1 (tnS st).2).2.isSome = true then manyS f (tnS st).1 (tnS st).2 else ([], none)
theorem manyS_none {α : Type} (f : Option (List UInt8) → α × Option (List UInt8)) (n : Nat) : manyS f n none = ([], none) := by cases n <;> rfl
theorem bits_xor_0 (a : Int) (h : 0 ≤ a ∧ a < 9223372036854775808) : bits .xor .i64 a 0 = a := by
  obtain ⟨n, rfl⟩ := Int.eq_ofNat_of_zero_le h.1
  show IntKind.i64.wrap ((BitVec.ofInt 64 (n : Int) ^^^ BitVec.ofInt 64 0).toNat : Int) = _
  have h2 : (BitVec.ofInt 64 (n : Int)).toNat = n := by
    rw [BitVec.ofInt_natCast, BitVec.toNat_ofNat]; exact Nat.mod_eq_of_lt (by omega)
  have h1 : BitVec.ofInt 64 0 = 0#64 := by decide
  rw [h1, BitVec.xor_zero, h2]
  simp [IntKind.wrap, IntKind.bits, IntKind.signed]
  omega
theorem bits_xor_1 (a : Int) (h : 0 ≤ a ∧ a < 9223372036854775808) : bits .xor .i64 a (-1) = -a - 1 := by
  obtain ⟨n, rfl⟩ := Int.eq_ofNat_of_zero_le h.1
  show IntKind.i64.wrap ((BitVec.ofInt 64 (n : Int) ^^^ BitVec.ofInt 64 (-1)).toNat : Int) = _
  have h2 : (BitVec.ofInt 64 (n : Int)).toNat = n := by
    rw [BitVec.ofInt_natCast, BitVec.toNat_ofNat]; exact Nat.mod_eq_of_lt (by omega)
  have h1 : BitVec.ofInt 64 (-1) = BitVec.allOnes 64 := by decide
  rw [h1, BitVec.xor_allOnes, BitVec.toNat_not, h2]
  simp [IntKind.wrap, IntKind.bits, IntKind.signed]
  omega
theorem bits_and_1 (n : Nat) (h : n < 18446744073709551616) : bits .and .u64 (n : Int) 1 = ((n % 2 : Nat) : Int) := by
  show IntKind.u64.wrap ((BitVec.ofInt 64 (n : Int) &&& BitVec.ofInt 64 1).toNat : Int) = _
  have h2 : (BitVec.ofInt 64 (n : Int)).toNat = n := by
    rw [BitVec.ofInt_natCast, BitVec.toNat_ofNat]; exact Nat.mod_eq_of_lt (by omega)
  have h1 : (BitVec.ofInt 64 1).toNat = 1 := by decide
  rw [BitVec.toNat_and, h1, h2, Nat.and_one_is_mod, IntKind.wrap_u64]
  omega
theorem unz_bits {n : Nat} (h : n < 18446744073709551616) : bits BinOp.xor IntKind.i64 ((n : Int) / 2) (wrap64 (-wrap64 (bits BinOp.and IntKind.u64 (n : Int) 1))) = unzz n := by
  rw [bits_and_1 n h]
  unfold unzz
  rcases Nat.mod_two_eq_zero_or_one n with h0 | h0
  · rw [h0, if_neg (by omega), show wrap64 (-wrap64 ((0 : Nat) : Int)) = 0 by unfold wrap64; omega, bits_xor_0 _ (by omega)]
    rw [Int.natCast_ediv]; rfl
  · rw [h0, if_pos rfl, show wrap64 (-wrap64 ((1 : Nat) : Int)) = -1 by unfold wrap64; omega, bits_xor_1 _ (by omega)]
    rw [Int.natCast_ediv]; rfl
set_option maxHeartbeats 1000000 in
theorem rdint_any (g : Nat) (p : Option Addr) (made : Bool) (st : Option (List UInt8)) (w : World) (h : RdS w g p made st) (hb : ∀ b, st = some b → b.length ≤ 10000000000000) :
    Calls Try.prog 30 #[.pointer p] w (RPost w g p made (.int .i64 (tiS st).1) (tiS st).2) := by
  have HR := Lib.hid h
  have HB := Lib.hid hb
  clear hb h
  have HU := tnS_u64 st
  unfold U64 at HU
  have HI := Lib.hid (show (tiS st).1 = unzz (tnS st).1 from rfl)
  have HJ := Lib.hid (show (tiS st).2 = (tnS st).2 from rfl)
  go_enter Try.func30, Try.ntmps30
  go_wp2_with (go_at_call 36; (with_reducible refine (rdnum_any g p made st _ HR.out HB.out).mono ?_); rintro e w1 ⟨rfl, hr1, hf1⟩; have R1 := Lib.hid hr1; have F1 := Lib.hid hf1; clear hr1 hf1)
  go_ret
  exact ⟨ret_int (unz_bits HU), R1.out, F1.out⟩
set_option maxHeartbeats 1000000 in
theorem rdtruth_any (g : Nat) (p : Option Addr) (made : Bool) (st : Option (List UInt8)) (w : World) (h : RdS w g p made st) (hb : ∀ b, st = some b → b.length ≤ 10000000000000) :
    Calls Try.prog 31 #[.pointer p] w (RPost w g p made (.bool (ttS st).1) (ttS st).2) := by
  have HR := Lib.hid h
  have HB := Lib.hid hb
  clear hb h
  have HT := Lib.hid (show ttS st = if (tnS st).1 ≤ 1 then (decide ((tnS st).1 = 1), (tnS st).2) else (false, none) from rfl)
  have HN := Lib.hid (rdnum_any g p made st w HR.out HB.out)
  generalize ttS st = T at HT ⊢
  generalize tnS st = N at HT HN
  obtain ⟨n, st1⟩ := N
  by_cases hn : n ≤ 1
  · have HT' : T = (decide (n = 1), st1) := by have := HT.out; simp only at this; rwa [if_pos hn] at this
    clear HT
    subst HT'
    have q0 : decide (1 < (n : Int)) = false := by simp; omega
    have q1 := Lib.hid (show ((n : Int) == 1) = decide (n = 1) by by_cases h1 : n = 1 <;> simp [h1]; omega)
    go_enter Try.func31, Try.ntmps31
    go_wp2_with (go_at_call 36; (with_reducible refine HN.out.mono ?_); rintro e w1 ⟨rfl, hr1, hf1⟩; have R1 := Lib.hid hr1; have F1 := Lib.hid hf1; clear hr1 hf1)
    go_ret
    exact ⟨ret_bool q1.out, R1.out, F1.out⟩
  · have HT' : T = (false, none) := by have := HT.out; simp only at this; rwa [if_neg hn] at this
    clear HT
    subst HT'
    have q0 : decide (1 < (n : Int)) = true := by simp; omega
    have q1 : ((n : Int) == 1) = false := by simp; omega
    go_enter Try.func31, Try.ntmps31
    go_wp2_with (first
      | (go_at_call 36; (with_reducible refine HN.out.mono ?_); rintro e w1 ⟨rfl, hr1, hf1⟩; have R1 := Lib.hid hr1; have F1 := Lib.hid hf1; clear hr1 hf1)
      | (go_at_call 60; (with_reducible refine (fail_any g p made _ _ R1.out).mono ?_); rintro e w4 ⟨rfl, hr4, hf4⟩; have R4 := Lib.hid hr4; have F4 := Lib.hid (F1.out.trans hf4 (fun _ _ h => h)); clear hr4 hf4))
    go_ret
    exact ⟨rfl, R4.out, F4.out⟩
set_option maxHeartbeats 1000000 in
theorem rdtext_any (g : Nat) (p : Option Addr) (made : Bool) (st : Option (List UInt8)) (w : World) (h : RdS w g p made st) (hb : ∀ b, st = some b → b.length ≤ 10000000000000) :
    Calls Try.prog 32 #[.pointer p] w (RPost w g p made (strV (txS st).1) (txS st).2) := by
  have HR := Lib.hid h
  have HB := Lib.hid hb
  have HU := Lib.hid (tnS_u64 st)
  have HM := Lib.hid (rem_le (st' := (tnS st).2) hb tnS_rem.1)
  clear hb h
  have HT := Lib.hid (show txS st = tk (tnS st).1 (tnS st).2 from rfl)
  have HN := Lib.hid (rdnum_any g p made st w HR.out HB.out)
  generalize txS st = T at HT ⊢
  generalize tnS st = N at HT HN HU HM
  obtain ⟨n, st1⟩ := N
  have HM : Hid (∀ b, st1 = some b → b.length ≤ 10000000000000) := HM
  have HU : Hid (((n : Nat) : Int) < 18446744073709551616) := Lib.hid (by have := HU.out; unfold U64 at this; simp only at this; omega)
  have HN : Hid (Calls Try.prog 36 #[.pointer p] w (RPost w g p made (.int .u64 (n : Int)) st1)) := HN
  have HT : Hid (T = tk n st1) := HT
  go_enter Try.func32, Try.ntmps32
  go_wp2_with (first
    | (go_at_call 36; (with_reducible refine HN.out.mono ?_); rintro e w1 ⟨rfl, hr1, hf1⟩; have R1 := Lib.hid hr1; have F1 := Lib.hid hf1; clear hr1 hf1)
    | (go_at_call 61; (with_reducible refine (take_any g p made _ _ _ R1.out (Int.natCast_nonneg _) HU.out HM.out).mono ?_); rintro e w4 ⟨rfl, hr4, hf4⟩; rw [Int.toNat_natCast] at hr4 ⊢; have R4 := Lib.hid hr4; have F4 := Lib.hid (F1.out.trans hf4 (fun _ _ h => h)); clear hr4 hf4))
  go_ret
  rw [HT.out]
  exact ⟨rfl, R4.out, F4.out⟩
theorem left_any (g : Nat) (p : Option Addr) (made : Bool) (st : Option (List UInt8)) (w : World) (h : RdS w g p made st) :
    Calls Try.prog 29 #[.pointer p] w fun e w' => e = .returned (.int .i64 (((st.getD []).length : Nat) : Int)) ∧ w = w' := by
  rcases h with ⟨rfl, hb⟩ | ⟨rfl, rfl, rfl⟩
  · have c1 : w.cell? ⟨g, 0, none⟩ = some (strV (st.getD [])) := hb.cell 0
    clear hb
    go_enter Try.func29, Try.ntmps29
    go_wp2
    go_ret
    exact ⟨rfl, rfl⟩
  · go_enter Try.func29, Try.ntmps29
    go_wp2
    go_ret
    exact ⟨rfl, rfl⟩
/-- What End tells. -/
def endS (made : Bool) (st : Option (List UInt8)) : Int := if made = true then (if st = some [] then 0 else 5) else 1
theorem end_any (g : Nat) (p : Option Addr) (made : Bool) (st : Option (List UInt8)) (w : World) (h : RdS w g p made st) :
    Calls Try.prog 28 #[.pointer p] w fun e w' => e = .returned (.int .i64 (endS made st)) ∧ w = w' := by
  rcases h with ⟨rfl, hb⟩ | ⟨rfl, rfl, rfl⟩
  · have c0 : w.cell? ⟨g, 0, none⟩ = some (strV (st.getD [])) := hb.cell 0
    have c1 : w.cell? ⟨g, 1, none⟩ = some (.bool st.isSome) := hb.cell 1
    have c2 : w.cell? ⟨g, 2, none⟩ = some (.bool made) := hb.cell 2
    clear hb
    cases made
    · go_enter Try.func28, Try.ntmps28
      go_wp2
      go_ret
      exact ⟨rfl, rfl⟩
    · cases st with
      | none =>
        have c1 : w.cell? ⟨g, 1, none⟩ = some (.bool false) := c1
        go_enter Try.func28, Try.ntmps28
        go_wp2
        go_ret
        exact ⟨rfl, rfl⟩
      | some b =>
        have c1 : w.cell? ⟨g, 1, none⟩ = some (.bool true) := c1
        cases b with
        | nil =>
          have c0 : w.cell? ⟨g, 0, none⟩ = some (strV []) := c0
          go_enter Try.func28, Try.ntmps28
          go_wp2
          go_ret
          exact ⟨rfl, rfl⟩
        | cons x b =>
          have c0 : w.cell? ⟨g, 0, none⟩ = some (strV (x :: b)) := c0
          go_enter Try.func28, Try.ntmps28
          go_wp2
          go_ret
          exact ⟨rfl, rfl⟩
  · go_enter Try.func28, Try.ntmps28
    go_wp2
    go_ret
    exact ⟨rfl, rfl⟩
end Go.Proofs.Ytijkfllolcgfhaa.Pack

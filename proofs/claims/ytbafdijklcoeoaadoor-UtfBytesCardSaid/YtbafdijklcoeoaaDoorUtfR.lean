/- Chapter 2, plain laws: characters of bytes, bytes of numbers, there and back. No program. -/
import Derived.Test.YtbafdijklcoeoaaDoorUtfQ
namespace Go.Proofs.YtbafdijklcoeoaaDoor.Utf
open Go.RowKit
set_option linter.unusedVariables false
set_option linter.unusedSimpArgs false

/-- What is encoded of a number. -/
def fixR (r : Int) : Int := if pointB r = true then r else 65533
theorem fixR_point {r : Int} (h : isPoint r) : fixR r = r := by unfold fixR; rw [if_pos ((pointB_iff r).2 h)]
theorem at_c0 (x : UInt8) (l : List UInt8) : at_ (x :: l) 0 = (x.toNat : Int) := rfl
theorem at_cs (x : UInt8) (l : List UInt8) (i : Nat) : at_ (x :: l) (i + 1) = at_ l i := rfl
theorem u8n {x : Int} (h : 0 ≤ x ∧ x ≤ 255) : (((UInt8.ofNat x.toNat).toNat : Nat) : Int) = x := by
  rw [UInt8.toNat_ofNat']
  omega
theorem oneL_fix (r : Int) : oneL r = oneL (fixR r) := by
  unfold fixR
  by_cases h : pointB r = true
  · rw [if_pos h]
  · rw [if_neg h]
    have h2 : ¬ (0 ≤ r ∧ r ≤ 1114111 ∧ (r < 55296 ∨ 57343 < r)) := fun g => h ((pointB_iff r).2 g)
    unfold oneL
    rw [Lib.encodeRuneZ_bad (by omega), Lib.encodeRuneZ_three (by omega)]
    rfl
theorem isPoint_fix (r : Int) : isPoint (fixR r) := by
  unfold fixR
  by_cases h : pointB r = true
  · rw [if_pos h]; exact (pointB_iff r).1 h
  · rw [if_neg h]; unfold isPoint; omega
set_option maxHeartbeats 2000000 in
theorem enc_first (r : Int) (h : isPoint r) (t : List UInt8) : okS (oneL r ++ t) = true ∧ begN (oneL r ++ t) = (oneL r).length ∧ rS (oneL r ++ t) = r := by
  unfold isPoint at h
  have hne : oneL r ++ t ≠ [] := by
    have := (Lib.encodeRuneZ_length r).1
    have e : (oneL r).length = (Lib.encodeRuneZ r).length := by unfold oneL; rw [List.length_map]
    intro g
    have := congrArg List.length g
    rw [List.length_append, List.length_nil] at this
    omega
  have hs := shape _ hne
  have q0 := lo_cases (at_ (oneL r ++ t) 0)
  have q1 := hi_cases (at_ (oneL r ++ t) 0)
  by_cases c1 : r ≤ 127
  · have e : oneL r = [UInt8.ofNat r.toNat] := by unfold oneL; rw [Lib.encodeRuneZ_one h.1 c1]; rfl
    rw [e] at hs q0 q1 hne ⊢
    have a0 : at_ ([UInt8.ofNat r.toNat] ++ t) 0 = r := u8n (by omega)
    rw [a0] at q0 q1
    cases hs with
    | one g hb hn => exact ⟨ok_of hb hn (by omega), hb, by rw [rS_one hne hb hn, a0]⟩
    | two g => rw [a0] at g; omega
    | three g => rw [a0] at g; omega
    | four g => rw [a0] at g; omega
    | bad hk g => rw [a0] at g; omega
  · by_cases c2 : r ≤ 2047
    · have e : oneL r = [UInt8.ofNat (192 + r / 64).toNat, UInt8.ofNat (128 + r % 64).toNat] := by unfold oneL; rw [Lib.encodeRuneZ_two (by omega) c2]; rfl
      rw [e] at hs q0 q1 hne ⊢
      have a0 : at_ ([UInt8.ofNat (192 + r / 64).toNat, UInt8.ofNat (128 + r % 64).toNat] ++ t) 0 = 192 + r / 64 := u8n (by omega)
      have a1 : at_ ([UInt8.ofNat (192 + r / 64).toNat, UInt8.ofNat (128 + r % 64).toNat] ++ t) 1 = 128 + r % 64 := u8n (by omega)
      cases hs with
      | one g hb hn => rw [a0] at g; omega
      | two g g1 g2 hb hn => exact ⟨ok_of hb hn (by omega), hb, by rw [rS_two g1 hb hn, a0, a1]; omega⟩
      | three g => rw [a0] at g; omega
      | four g => rw [a0] at g; omega
      | bad hk g _ _ h2 =>
        rw [a0, a1] at h2
        exact absurd (h2 (by omega)) (fun k => k ⟨by simp, by omega, by omega⟩)
    · by_cases c3 : r ≤ 65535
      · have e : oneL r = [UInt8.ofNat (224 + r / 4096).toNat, UInt8.ofNat (128 + r / 64 % 64).toNat, UInt8.ofNat (128 + r % 64).toNat] := by unfold oneL; rw [Lib.encodeRuneZ_three (by omega)]; rfl
        rw [e] at hs q0 q1 hne ⊢
        have a0 : at_ ([UInt8.ofNat (224 + r / 4096).toNat, UInt8.ofNat (128 + r / 64 % 64).toNat, UInt8.ofNat (128 + r % 64).toNat] ++ t) 0 = 224 + r / 4096 := u8n (by omega)
        have a1 : at_ ([UInt8.ofNat (224 + r / 4096).toNat, UInt8.ofNat (128 + r / 64 % 64).toNat, UInt8.ofNat (128 + r % 64).toNat] ++ t) 1 = 128 + r / 64 % 64 := u8n (by omega)
        have a2 : at_ ([UInt8.ofNat (224 + r / 4096).toNat, UInt8.ofNat (128 + r / 64 % 64).toNat, UInt8.ofNat (128 + r % 64).toNat] ++ t) 2 = 128 + r % 64 := u8n (by omega)
        rw [a0] at q0 q1
        cases hs with
        | one g hb hn => rw [a0] at g; omega
        | two g g1 g2 hb hn => rw [a0] at g; omega
        | three g g1 g2 g3 hb hn => exact ⟨ok_of hb hn (by omega), hb, by rw [rS_three g1 hb hn, a0, a1, a2]; omega⟩
        | four g => rw [a0] at g; omega
        | bad hk g _ _ h2 h3 =>
          rw [a0, a1, a2] at h3
          exact absurd (h3 (by omega)) (fun k => k ⟨by simp, by omega, by omega⟩)
      · have e : oneL r = [UInt8.ofNat (240 + r / 262144).toNat, UInt8.ofNat (128 + r / 4096 % 64).toNat, UInt8.ofNat (128 + r / 64 % 64).toNat, UInt8.ofNat (128 + r % 64).toNat] := by unfold oneL; rw [Lib.encodeRuneZ_four (by omega) (by omega)]; rfl
        rw [e] at hs q0 q1 hne ⊢
        have a0 : at_ ([UInt8.ofNat (240 + r / 262144).toNat, UInt8.ofNat (128 + r / 4096 % 64).toNat, UInt8.ofNat (128 + r / 64 % 64).toNat, UInt8.ofNat (128 + r % 64).toNat] ++ t) 0 = 240 + r / 262144 := u8n (by omega)
        have a1 : at_ ([UInt8.ofNat (240 + r / 262144).toNat, UInt8.ofNat (128 + r / 4096 % 64).toNat, UInt8.ofNat (128 + r / 64 % 64).toNat, UInt8.ofNat (128 + r % 64).toNat] ++ t) 1 = 128 + r / 4096 % 64 := u8n (by omega)
        have a2 : at_ ([UInt8.ofNat (240 + r / 262144).toNat, UInt8.ofNat (128 + r / 4096 % 64).toNat, UInt8.ofNat (128 + r / 64 % 64).toNat, UInt8.ofNat (128 + r % 64).toNat] ++ t) 2 = 128 + r / 64 % 64 := u8n (by omega)
        have a3 : at_ ([UInt8.ofNat (240 + r / 262144).toNat, UInt8.ofNat (128 + r / 4096 % 64).toNat, UInt8.ofNat (128 + r / 64 % 64).toNat, UInt8.ofNat (128 + r % 64).toNat] ++ t) 3 = 128 + r % 64 := u8n (by omega)
        rw [a0] at q0 q1
        cases hs with
        | one g hb hn => rw [a0] at g; omega
        | two g g1 g2 hb hn => rw [a0] at g; omega
        | three g => rw [a0] at g; omega
        | four g g1 g2 g3 g4 hb hn => exact ⟨ok_of hb hn (by omega), hb, by rw [rS_four g1 hb hn, a0, a1, a2, a3]; omega⟩
        | bad hk g _ _ h2 h3 h4 =>
          rw [a0, a1, a2, a3] at h4
          exact absurd (h4 (by omega)) (fun k => k ⟨by simp, by omega, by omega, by omega⟩)
theorem u8_eq {x : Int} {y : UInt8} (h : x = (y.toNat : Int)) : UInt8.ofNat x.toNat = y := by
  rw [h, Int.toNat_natCast]
  exact UInt8.ofNat_toNat
set_option maxHeartbeats 1000000 in
/-- The bytes of a well-formed character are its own. -/
theorem ok_own {l : List UInt8} (hl : l ≠ []) (h : okS l = true) : oneL (rS l) = l.take (nS l) := by
  have en : nS l = begN l := by unfold nS; rw [if_pos h]
  rw [en]
  have q0 := lo_cases (at_ l 0)
  have q1 := hi_cases (at_ l 0)
  have b0 := at_lt l 0
  cases shape l hl with
  | one g hb hn =>
    rw [hb, rS_one hl hb hn]
    unfold oneL
    rw [Lib.encodeRuneZ_one b0.1 g]
    match l, hl with
    | x0 :: t, _ =>
      simp only [List.map_cons, List.map_nil, List.take_succ_cons, List.take_zero, at_c0]
      rw [u8_eq rfl]
  | two g g1 g2 hb hn =>
    rw [hb, rS_two g1 hb hn]
    unfold oneL
    rw [Lib.encodeRuneZ_two (by omega) (by omega)]
    match l, hl, g1 with
    | [_], _, g1 => simp at g1
    | x0 :: x1 :: t, _, _ =>
      have e1 : at_ (x0 :: x1 :: t) 1 = (x1.toNat : Int) := rfl
      simp only [at_c0, e1, List.map_cons, List.map_nil, List.take_succ_cons, List.take_zero] at *
      rw [u8_eq (y := x0) (by omega), u8_eq (y := x1) (by omega)]
  | three g g1 g2 g3 hb hn =>
    rw [hb, rS_three g1 hb hn]
    unfold oneL
    rw [Lib.encodeRuneZ_three (by omega)]
    match l, hl, g1 with
    | [_], _, g1 => simp at g1
    | [_, _], _, g1 => simp at g1
    | x0 :: x1 :: x2 :: t, _, _ =>
      have e1 : at_ (x0 :: x1 :: x2 :: t) 1 = (x1.toNat : Int) := rfl
      have e2 : at_ (x0 :: x1 :: x2 :: t) 2 = (x2.toNat : Int) := rfl
      simp only [at_c0, e1, e2, List.map_cons, List.map_nil, List.take_succ_cons, List.take_zero] at *
      rw [u8_eq (y := x0) (by omega), u8_eq (y := x1) (by omega), u8_eq (y := x2) (by omega)]
  | four g g1 g2 g3 g4 hb hn =>
    rw [hb, rS_four g1 hb hn]
    unfold oneL
    rw [Lib.encodeRuneZ_four (by omega) (by omega)]
    match l, hl, g1 with
    | [_], _, g1 => simp at g1
    | [_, _], _, g1 => simp at g1
    | [_, _, _], _, g1 => simp at g1
    | x0 :: x1 :: x2 :: x3 :: t, _, _ =>
      have e1 : at_ (x0 :: x1 :: x2 :: x3 :: t) 1 = (x1.toNat : Int) := rfl
      have e2 : at_ (x0 :: x1 :: x2 :: x3 :: t) 2 = (x2.toNat : Int) := rfl
      have e3 : at_ (x0 :: x1 :: x2 :: x3 :: t) 3 = (x3.toNat : Int) := rfl
      simp only [at_c0, e1, e2, e3, List.map_cons, List.map_nil, List.take_succ_cons, List.take_zero] at *
      rw [u8_eq (y := x0) (by omega), u8_eq (y := x1) (by omega), u8_eq (y := x2) (by omega), u8_eq (y := x3) (by omega)]
  | bad hk => rw [h] at hk; cases hk
end Go.Proofs.YtbafdijklcoeoaaDoor.Utf

/- Chapter 2: the code point of well-formed bytes, walked. -/
import Derived.Test.YtbafdijklcoeoaaDoorUtfC
namespace Go.Proofs.YtbafdijklcoeoaaDoor.Utf
open Go.RowKit
set_option linter.unusedVariables false
set_option linter.unusedSimpArgs false

/-- What is left of the first byte. -/
def base (l : List UInt8) : Int := at_ l 0 - (if l.length = 2 then 192 else if l.length = 3 then 224 else 240)
/-- The number after so many bytes more. -/
def ptR (l : List UInt8) : Nat → Int
  | 0 => base l
  | j + 1 => 64 * ptR l j + at_ l (j + 1) - 128
/-- The code point. -/
def pointN (l : List UInt8) : Int := if l.length = 1 then at_ l 0 else ptR l (l.length - 1)
/-- Bytes of a form. -/
structure Form (l : List UInt8) : Prop where
  n0 : 1 ≤ l.length
  n4 : l.length ≤ 4
  b : l.length ≠ 1 → 0 ≤ base l ∧ base l ≤ 31
  c : ∀ i, 1 ≤ i → i < l.length → 128 ≤ at_ l i ∧ at_ l i ≤ 191
theorem Form.bound {l : List UInt8} (h : Form l) (h1 : l.length ≠ 1) : ∀ j, j < l.length → 0 ≤ ptR l j ∧ ptR l j < 32 * 64 ^ j
  | 0, _ => by have := h.b h1; show 0 ≤ base l ∧ base l < 32 * 64 ^ 0; omega
  | j + 1, hj => by
    have h2 := h.bound h1 j (by omega)
    have h3 := h.c (j + 1) (by omega) hj
    show 0 ≤ 64 * ptR l j + at_ l (j + 1) - 128 ∧ 64 * ptR l j + at_ l (j + 1) - 128 < 32 * 64 ^ (j + 1)
    rw [Int.pow_succ]
    omega
theorem Form.small {l : List UInt8} (h : Form l) (h1 : l.length ≠ 1) (j : Nat) (hj : j < l.length) : 0 ≤ ptR l j ∧ ptR l j < 8388608 := by
  obtain ⟨h2, h3⟩ := h.bound h1 j hj
  have hj3 : j ≤ 3 := by have := h.n4; omega
  refine ⟨h2, ?_⟩
  have : j = 0 ∨ j = 1 ∨ j = 2 ∨ j = 3 := by omega
  rcases this with rfl | rfl | rfl | rfl <;> (simp at h3; omega)
theorem wrap32_in {x : Int} (h : -2147483648 ≤ x ∧ x ≤ 2147483647) : IntKind.i32.wrap x = x := IntWalk.i32_in _ h
set_option maxHeartbeats 4000000 in
set_option maxRecDepth 20000 in
theorem point_any (l : List UInt8) (w : World) (h : Form l) :
    Calls Tryd.prog 22 #[.string ⟨l.toArray⟩] w fun e w' => e = .returned (.int .i32 (pointN l)) ∧ w = w' := by
  have gl : (⟨l.toArray⟩ : ByteArray).size = l.length := rfl
  have HF := Lib.hid h
  have n0 := h.n0
  have n4 := h.n4
  obtain ⟨x0, hx0⟩ : ∃ x, l[0]? = some x := ⟨_, List.getElem?_eq_getElem (by omega)⟩
  have I0 := str_get l 0 x0 hx0
  have x0l := UInt8.toNat_lt x0
  have HA := Lib.hid (at_some hx0)
  have b0 : (0 : Int) < (l.length : Int) := by omega
  have b0' : 0 < l.length := by omega
  have b1 : (l.length : Int) ≤ 4 := by omega
  have w0 : IntKind.i32.wrap (x0.toNat : Int) = (x0.toNat : Int) := wrap32_in (by omega)
  clear hx0 h
  by_cases h1 : l.length = 1
  · have q1 : decide (l.length = 1) = true := decide_eq_true h1
    have q2 : ((l.length : Int) == 1) = true := by simp; omega
    have HP := Lib.hid (show pointN l = (x0.toNat : Int) by unfold pointN; rw [if_pos h1]; exact HA.out)
    clear h1 n0 n4
    go_enter Tryd.func22, Tryd.ntmps22
    go_wp2
    go_ret
    exact ⟨by rw [HP.out]; rfl, rfl⟩
  · have q2 : ((l.length : Int) == 1) = false := by simp; omega
    have HP := Lib.hid (show pointN l = ptR l (l.length - 1) by unfold pointN; rw [if_neg h1])
    have HS := Lib.hid (HF.out.small h1)
    have HBd := Lib.hid (HF.out.b h1)
    have HBs := Lib.hid (show base l = (x0.toNat : Int) - (if l.length = 2 then 192 else if l.length = 3 then 224 else 240) by unfold base; rw [HA.out])
    have hlen : l.length = 2 ∨ l.length = 3 ∨ l.length = 4 := by omega
    have w1 : IntKind.i32.wrap ((x0.toNat : Int) - 192) = (x0.toNat : Int) - 192 := wrap32_in (by omega)
    have w2 : IntKind.i32.wrap ((x0.toNat : Int) - 224) = (x0.toNat : Int) - 224 := wrap32_in (by omega)
    have w3 : IntKind.i32.wrap ((x0.toNat : Int) - 240) = (x0.toNat : Int) - 240 := wrap32_in (by omega)
    have HLL := Lib.hid hlen
    rcases hlen with h2 | h2 | h2
    · have HB0 := Lib.hid (show base l = (x0.toNat : Int) - 192 by rw [HBs.out]; rw [if_pos h2])
      have qa : ((l.length : Int) == 2) = true := by simp; omega
      have HLE := Lib.hid h2
      clear n0 n4 h1 h2
      go_enter Tryd.func22, Tryd.ntmps22
      go_upto_region 9 with fail
      go_wp2
      go_loopw [3, 4] (fun r i wr => ∃ j : Nat, i = .int .i64 ((j + 1 : Nat) : Int) ∧ j + 1 ≤ l.length ∧ r = .int .i32 (ptR l j) ∧ wr = w) (fun _ i _ => l.length - (intOf i).toNat)
      case atStart => exact ⟨0, rfl, by omega, by show _ = Value.int IntKind.i32 (base l); rw [HB0.out], rfl⟩
      case round =>
        obtain ⟨j, rfl, hj, rfl, rfl⟩ := hrel
        by_cases hlt : j + 1 < l.length
        · obtain ⟨x, hx⟩ : ∃ x, l[j + 1]? = some x := ⟨_, List.getElem?_eq_getElem hlt⟩
          have IJ := str_get l (j + 1) x hx
          have HJ := Lib.hid (at_some hx)
          have xl := UInt8.toNat_lt x
          have s1 := (HS.out j (by omega)).1
          have s2 := (HS.out j (by omega)).2
          have HNX := Lib.hid (show ptR l (j + 1) = 64 * ptR l j + (x.toNat : Int) - 128 by show 64 * ptR l j + at_ l (j + 1) - 128 = _; rw [HJ.out])
          have s3 := (HS.out (j + 1) hlt).1
          have s4 := (HS.out (j + 1) hlt).2
          rw [HNX.out] at s3 s4
          generalize ptR l j = r at *
          have wa : IntKind.i32.wrap (64 * r) = 64 * r := wrap32_in (by omega)
          have wb : IntKind.i32.wrap (x.toNat : Int) = (x.toNat : Int) := wrap32_in (by omega)
          have wc' : IntKind.i32.wrap (64 * r + (x.toNat : Int)) = 64 * r + (x.toNat : Int) := wrap32_in (by omega)
          have wd : IntKind.i32.wrap (64 * r + (x.toNat : Int) - 128) = 64 * r + (x.toNat : Int) - 128 := wrap32_in (by omega)
          have k1 : ((j + 1 : Nat) : Int) < (l.length : Int) := by omega
          have k2 : (0 : Int) ≤ ((j + 1 : Nat) : Int) := by omega
          clear hx
          go_wp2
          go_roundw
          case rel => exact ⟨j + 1, by go_num, by omega, by rw [HNX.out], by first | rfl | trivial⟩
          case measure => simp [intOf]; omega
        · obtain rfl : j = l.length - 1 := by omega
          have k1 : decide (((l.length - 1 + 1 : Nat) : Int) < (l.length : Int)) = false := decide_eq_false (by omega)
          have k3 : decide (l.length - 1 + 1 < l.length) = false := decide_eq_false (by omega)
          go_wp2
          go_ret
          exact ⟨by rw [HP.out]; rfl, by first | rfl | trivial⟩
    · have HB0 := Lib.hid (show base l = (x0.toNat : Int) - 224 by rw [HBs.out]; rw [if_neg (by omega), if_pos h2])
      have qa : ((l.length : Int) == 2) = false := by simp; omega
      have qb : ((l.length : Int) == 3) = true := by simp; omega
      have HLE := Lib.hid h2
      clear n0 n4 h1 h2
      go_enter Tryd.func22, Tryd.ntmps22
      go_upto_region 9 with fail
      go_wp2
      go_loopw [3, 4] (fun r i wr => ∃ j : Nat, i = .int .i64 ((j + 1 : Nat) : Int) ∧ j + 1 ≤ l.length ∧ r = .int .i32 (ptR l j) ∧ wr = w) (fun _ i _ => l.length - (intOf i).toNat)
      case atStart => exact ⟨0, rfl, by omega, by show _ = Value.int IntKind.i32 (base l); rw [HB0.out], rfl⟩
      case round =>
        obtain ⟨j, rfl, hj, rfl, rfl⟩ := hrel
        by_cases hlt : j + 1 < l.length
        · obtain ⟨x, hx⟩ : ∃ x, l[j + 1]? = some x := ⟨_, List.getElem?_eq_getElem hlt⟩
          have IJ := str_get l (j + 1) x hx
          have HJ := Lib.hid (at_some hx)
          have xl := UInt8.toNat_lt x
          have s1 := (HS.out j (by omega)).1
          have s2 := (HS.out j (by omega)).2
          have HNX := Lib.hid (show ptR l (j + 1) = 64 * ptR l j + (x.toNat : Int) - 128 by show 64 * ptR l j + at_ l (j + 1) - 128 = _; rw [HJ.out])
          have s3 := (HS.out (j + 1) hlt).1
          have s4 := (HS.out (j + 1) hlt).2
          rw [HNX.out] at s3 s4
          generalize ptR l j = r at *
          have wa : IntKind.i32.wrap (64 * r) = 64 * r := wrap32_in (by omega)
          have wb : IntKind.i32.wrap (x.toNat : Int) = (x.toNat : Int) := wrap32_in (by omega)
          have wc' : IntKind.i32.wrap (64 * r + (x.toNat : Int)) = 64 * r + (x.toNat : Int) := wrap32_in (by omega)
          have wd : IntKind.i32.wrap (64 * r + (x.toNat : Int) - 128) = 64 * r + (x.toNat : Int) - 128 := wrap32_in (by omega)
          have k1 : ((j + 1 : Nat) : Int) < (l.length : Int) := by omega
          have k2 : (0 : Int) ≤ ((j + 1 : Nat) : Int) := by omega
          clear hx
          go_wp2
          go_roundw
          case rel => exact ⟨j + 1, by go_num, by omega, by rw [HNX.out], by first | rfl | trivial⟩
          case measure => simp [intOf]; omega
        · obtain rfl : j = l.length - 1 := by omega
          have k1 : decide (((l.length - 1 + 1 : Nat) : Int) < (l.length : Int)) = false := decide_eq_false (by omega)
          have k3 : decide (l.length - 1 + 1 < l.length) = false := decide_eq_false (by omega)
          go_wp2
          go_ret
          exact ⟨by rw [HP.out]; rfl, by first | rfl | trivial⟩
    · have HB0 := Lib.hid (show base l = (x0.toNat : Int) - 240 by rw [HBs.out]; rw [if_neg (by omega), if_neg (by omega)])
      have qa : ((l.length : Int) == 2) = false := by simp; omega
      have qb : ((l.length : Int) == 3) = false := by simp; omega
      have HLE := Lib.hid h2
      clear n0 n4 h1 h2
      go_enter Tryd.func22, Tryd.ntmps22
      go_upto_region 9 with fail
      go_wp2
      go_loopw [3, 4] (fun r i wr => ∃ j : Nat, i = .int .i64 ((j + 1 : Nat) : Int) ∧ j + 1 ≤ l.length ∧ r = .int .i32 (ptR l j) ∧ wr = w) (fun _ i _ => l.length - (intOf i).toNat)
      case atStart => exact ⟨0, rfl, by omega, by show _ = Value.int IntKind.i32 (base l); rw [HB0.out], rfl⟩
      case round =>
        obtain ⟨j, rfl, hj, rfl, rfl⟩ := hrel
        by_cases hlt : j + 1 < l.length
        · obtain ⟨x, hx⟩ : ∃ x, l[j + 1]? = some x := ⟨_, List.getElem?_eq_getElem hlt⟩
          have IJ := str_get l (j + 1) x hx
          have HJ := Lib.hid (at_some hx)
          have xl := UInt8.toNat_lt x
          have s1 := (HS.out j (by omega)).1
          have s2 := (HS.out j (by omega)).2
          have HNX := Lib.hid (show ptR l (j + 1) = 64 * ptR l j + (x.toNat : Int) - 128 by show 64 * ptR l j + at_ l (j + 1) - 128 = _; rw [HJ.out])
          have s3 := (HS.out (j + 1) hlt).1
          have s4 := (HS.out (j + 1) hlt).2
          rw [HNX.out] at s3 s4
          generalize ptR l j = r at *
          have wa : IntKind.i32.wrap (64 * r) = 64 * r := wrap32_in (by omega)
          have wb : IntKind.i32.wrap (x.toNat : Int) = (x.toNat : Int) := wrap32_in (by omega)
          have wc' : IntKind.i32.wrap (64 * r + (x.toNat : Int)) = 64 * r + (x.toNat : Int) := wrap32_in (by omega)
          have wd : IntKind.i32.wrap (64 * r + (x.toNat : Int) - 128) = 64 * r + (x.toNat : Int) - 128 := wrap32_in (by omega)
          have k1 : ((j + 1 : Nat) : Int) < (l.length : Int) := by omega
          have k2 : (0 : Int) ≤ ((j + 1 : Nat) : Int) := by omega
          clear hx
          go_wp2
          go_roundw
          case rel => exact ⟨j + 1, by go_num, by omega, by rw [HNX.out], by first | rfl | trivial⟩
          case measure => simp [intOf]; omega
        · obtain rfl : j = l.length - 1 := by omega
          have k1 : decide (((l.length - 1 + 1 : Nat) : Int) < (l.length : Int)) = false := decide_eq_false (by omega)
          have k3 : decide (l.length - 1 + 1 < l.length) = false := decide_eq_false (by omega)
          go_wp2
          go_ret
          exact ⟨by rw [HP.out]; rfl, by first | rfl | trivial⟩
end Go.Proofs.YtbafdijklcoeoaaDoor.Utf

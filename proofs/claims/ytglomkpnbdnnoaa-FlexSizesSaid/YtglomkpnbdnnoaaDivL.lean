/- bits.Div64, walked: quotient and rest of 128 bits by 64, where the high word is less than the divisor. -/
import Derived.Test.YtglomkpnbdnnoaaShelf
import Derived.Test.YtglomkpnbdnnoaaBase
import Derived.Test.YtglomkpnbdnnoaaDivT
namespace Go.Proofs.Ytglomkpnbdnnoaa.Div
open Go.RowKit
set_option linter.unusedVariables false

theorem u64_in (n : Int) (h0 : 0 ≤ n) (h1 : n < 18446744073709551616) : IntKind.u64.wrap n = n := by
  simp [IntKind.wrap, IntKind.bits, IntKind.signed]
  omega

theorem div_small (lo y : Nat) (hy : 0 < y) (hyM : y ≤ 18446744073709551615) (hl : lo ≤ 18446744073709551615) (w : World) :
    Calls Try.prog 46 #[.int .u64 0, .int .u64 lo, .int .u64 y] w fun e w' => e = .returned (.tuple #[.int .u64 ((lo / y : Nat) : Int), .int .u64 ((lo % y : Nat) : Int)]) ∧ Drawn w w' := by
  have q1 : (((y : Nat) : Int) == 0) = false := by rw [beq_eq_false_iff_ne]; omega
  have e1 : ((lo : Int) / (y : Int)) = ((lo / y : Nat) : Int) := by omega
  have e2 : ((lo : Int) % (y : Int)) = ((lo % y : Nat) : Int) := by omega
  have b1 : lo / y ≤ lo := Nat.div_le_self _ _
  have b2 : lo % y ≤ lo := Nat.mod_le _ _
  generalize lo / y = q at *
  generalize lo % y = r at *
  have y0 : (1 : Int) ≤ (y : Int) := by omega
  have E1 := Lib.hid e1
  clear e1
  have E2 := Lib.hid e2
  clear e2
  go_enter Try.func46, Try.ntmps46
  go_wp2
  go_quiet (fail)
  go_wp2
  go_ret2
  exact ⟨ret_int2 (by rw [E1.out, u64_in _ (by omega) (by omega)]) E2.out, ⟨⟨_, rfl⟩⟩⟩

theorem lz_any (x s : Nat) (hx : x ≤ 18446744073709551615) (hb : (64 : Int) - (Lib.bitLen x : Int) = (s : Int)) (w : World) :
    Calls Try.prog 52 #[.int .u64 x] w fun e w' => e = .returned (.int .i64 s) ∧ w = w' :=
  (Try.bits_LeadingZeros64 x w (by omega) (by omega)).mono fun e w' ⟨he, hw⟩ => ⟨by rw [he, Int.toNat_natCast, hb], hw.symm⟩
/-- The frame round the first loop: what is read later is told; 'c': whatever else lies there; 'u': the loop's own scratch. -/
def Fr1 (Y s A B U C D : Nat) (c u : Nat → Value) (q r : Nat) : Act :=
  ⟨#[(c 0), (c 1), .int .u64 (Y : Nat), (c 3), (c 4), (c 5), (c 6), (c 7), .int .u64 (s : Nat), .int .u64 (A : Nat), .int .u64 (B : Nat), .int .u64 (U : Nat), (c 12), .int .u64 (C : Nat), .int .u64 (D : Nat), .int .u64 (q : Nat), .int .u64 (r : Nat), (c 17), (c 18), (c 19), (c 20), (c 21), (c 22), (c 23), (c 24), (c 25), (c 26), (c 27), (c 28), (c 29), (c 30), (c 31), (c 32), (c 33), (c 34), (c 35), (c 36), (c 37), (c 38), (c 39), (c 40), (c 41), (c 42), (c 43), (c 44), (c 45), (c 46), (c 47), (c 48), (c 49), (c 50), (c 51), (c 52), (c 53), (c 54), (c 55), (c 56), (c 57), (c 58), (c 59), (c 60), (c 61), (c 62), (c 63), (c 64), (c 65), (c 66), (u 67), (u 68), (u 69), (u 70), (u 71), (u 72), (u 73), (u 74), (u 75), (u 76), (u 77), (u 78), (u 79), (u 80), (u 81), (u 82), (u 83), (u 84), (u 85), (c 86), (c 87), (c 88), (c 89), (c 90), (c 91), (c 92), (c 93), (c 94), (c 95), (c 96), (c 97), (c 98), (c 99), (c 100), (c 101), (c 102), (c 103), (c 104), (c 105), (c 106), (c 107), (c 108), (c 109), (c 110), (c 111), (c 112), (c 113), (c 114), (c 115), (c 116), (c 117), (c 118), (c 119), (c 120), (c 121), (c 122), (c 123), (c 124), (c 125), (c 126), (c 127), (c 128), (c 129), (c 130), (c 131), (c 132), (c 133), (c 134)], []⟩
def Fr2 (Y s A B U C D Q1 R1 : Nat) (c u : Nat → Value) (q r : Nat) : Act :=
  ⟨#[(c 0), (c 1), .int .u64 (Y : Nat), (c 3), (c 4), (c 5), (c 6), (c 7), .int .u64 (s : Nat), .int .u64 (A : Nat), .int .u64 (B : Nat), .int .u64 (U : Nat), (c 12), .int .u64 (C : Nat), .int .u64 (D : Nat), .int .u64 (Q1 : Nat), .int .u64 (r : Nat), .int .u64 (R1 : Nat), .int .u64 (q : Nat), (c 19), (c 20), (c 21), (c 22), (c 23), (c 24), (c 25), (c 26), (c 27), (c 28), (c 29), (c 30), (c 31), (c 32), (c 33), (c 34), (c 35), (c 36), (c 37), (c 38), (c 39), (c 40), (c 41), (c 42), (c 43), (c 44), (c 45), (c 46), (c 47), (c 48), (c 49), (c 50), (c 51), (c 52), (c 53), (c 54), (c 55), (c 56), (c 57), (c 58), (c 59), (c 60), (c 61), (c 62), (c 63), (c 64), (c 65), (c 66), (c 67), (c 68), (c 69), (c 70), (c 71), (c 72), (c 73), (c 74), (c 75), (c 76), (c 77), (c 78), (c 79), (c 80), (c 81), (c 82), (c 83), (c 84), (c 85), (c 86), (c 87), (c 88), (c 89), (c 90), (c 91), (c 92), (c 93), (c 94), (c 95), (c 96), (c 97), (c 98), (c 99), (c 100), (c 101), (u 102), (u 103), (u 104), (u 105), (u 106), (u 107), (u 108), (u 109), (u 110), (u 111), (u 112), (u 113), (u 114), (u 115), (u 116), (u 117), (u 118), (u 119), (u 120), (c 121), (c 122), (c 123), (c 124), (c 125), (c 126), (c 127), (c 128), (c 129), (c 130), (c 131), (c 132), (c 133), (c 134)], []⟩
def WI1 (Y s A B U C D : Nat) (w : World) (a : Act) (wr : World) : Prop := ∃ (c u : Nat → Value) (q r : Nat), a = Fr1 Y s A B U C D c u q r ∧ (r : Int) < 4294967296 ∧ (q : Int) ≤ 4294967297 ∧ Head A B C U q r ∧ Drawn w wr
def WX1 (Y s A B U C D : Nat) (w : World) (a : Act) (wr : World) : Prop := ∃ (c u : Nat → Value) (r : Nat), a = Fr1 Y s A B U C D c u (quo A B C U) r ∧ Drawn w wr
def WI2 (Y s A B U C D Q1 R1 : Nat) (w : World) (a : Act) (wr : World) : Prop := ∃ (c u : Nat → Value) (q r : Nat), a = Fr2 Y s A B U C D Q1 R1 c u q r ∧ (r : Int) < 4294967296 ∧ (q : Int) ≤ 4294967297 ∧ Head A B D R1 q r ∧ Drawn w wr
def WX2 (Y s A B U C D Q1 R1 : Nat) (w : World) (a : Act) (wr : World) : Prop := ∃ (c u : Nat → Value) (r : Nat), a = Fr2 Y s A B U C D Q1 R1 c u (quo A B D R1) r ∧ Drawn w wr
def mu1 (a : Act) (_ : World) : Nat := (intOf (a.tmps.getD 15 undef)).toNat
def mu2 (a : Act) (_ : World) : Nat := (intOf (a.tmps.getD 18 undef)).toNat
theorem WI1.mk' {Y s A B U C D : Nat} {w : World} {a : Act} {wr : World} (q r : Nat) (h : a = Fr1 Y s A B U C D (fun i => a.tmps.getD i undef) (fun i => a.tmps.getD i undef) q r) (hr : (r : Int) < 4294967296) (hq : (q : Int) ≤ 4294967297) (H : Head A B C U q r) (hd : Drawn w wr) : WI1 Y s A B U C D w a wr := ⟨_, _, q, r, h, hr, hq, H, hd⟩
theorem WX1.mk' {Y s A B U C D : Nat} {w : World} {a : Act} {wr : World} (q r : Nat) (h : a = Fr1 Y s A B U C D (fun i => a.tmps.getD i undef) (fun i => a.tmps.getD i undef) q r) (hq : q = quo A B C U) (hd : Drawn w wr) : WX1 Y s A B U C D w a wr := ⟨_, _, r, by rw [← hq]; exact h, hd⟩
theorem WI2.mk' {Y s A B U C D Q1 R1 : Nat} {w : World} {a : Act} {wr : World} (q r : Nat) (h : a = Fr2 Y s A B U C D Q1 R1 (fun i => a.tmps.getD i undef) (fun i => a.tmps.getD i undef) q r) (hr : (r : Int) < 4294967296) (hq : (q : Int) ≤ 4294967297) (H : Head A B D R1 q r) (hd : Drawn w wr) : WI2 Y s A B U C D Q1 R1 w a wr := ⟨_, _, q, r, h, hr, hq, H, hd⟩
theorem WX2.mk' {Y s A B U C D Q1 R1 : Nat} {w : World} {a : Act} {wr : World} (q r : Nat) (h : a = Fr2 Y s A B U C D Q1 R1 (fun i => a.tmps.getD i undef) (fun i => a.tmps.getD i undef) q r) (hq : q = quo A B D R1) (hd : Drawn w wr) : WX2 Y s A B U C D Q1 R1 w a wr := ⟨_, _, r, by rw [← hq]; exact h, hd⟩

def firstLoop : Code → Option Code
  | .loop c => some c
  | .seq a b => match firstLoop a with
    | some c => some c
    | none => firstLoop b
  | .block _ c => firstLoop c
  | .scope c => firstLoop c
  | .cond _ a b => match firstLoop a with
    | some c => some c
    | none => firstLoop b
  | _ => none
def blockLoop (n : Nat) : Code → Option Code
  | .block m c => if m = n then firstLoop c else blockLoop n c
  | .seq a b => match blockLoop n a with
    | some c => some c
    | none => blockLoop n b
  | .loop c => blockLoop n c
  | .scope c => blockLoop n c
  | .cond _ a b => match blockLoop n a with
    | some c => some c
    | none => blockLoop n b
  | _ => none
noncomputable def body1 : Code := ((Try.f46.body.bind (blockLoop 0)).getD .skip)
noncomputable def body2 : Code := ((Try.f46.body.bind (blockLoop 2)).getD .skip)

set_option maxHeartbeats 4000000 in
set_option maxRecDepth 1000000 in
theorem loop1 (Y s A B U C D : Nat) (w : World) (Q : Exit → Act → World → Prop) (HD : Hid (Dig A B C U)) (hx : ∀ a wr, WX1 Y s A B U C D w a wr → Q (.exit 0) a wr) (a0 : Act) (w0 : World) (h0 : WI1 Y s A B U C D w a0 w0) :
    (Code.loop body1).wp Try.prog Q a0 w0 := by
  have gA1 : (A : Int) < 4294967296 := by have := HD.out.a1; omega
  have gA0 : (2147483648 : Int) ≤ A := by have := HD.out.a0; omega
  have gB1 : (B : Int) < 4294967296 := by have := HD.out.b1; omega
  have gC1 : (C : Int) < 4294967296 := by have := HD.out.c1; omega
  refine wp_loop (WI1 Y s A B U C D w) mu1 h0 fun a wr hI => ?_
  obtain ⟨c, u, q, r, rfl, hr, hq, hH, hdw⟩ := hI
  have HH := Lib.hid hH
  clear hH h0
  generalize hI' : WI1 Y s A B U C D w = I at *
  have HI := Lib.hid hI'
  clear hI'
  conv => arg 2; whnf
  unfold Fr1
  obtain ⟨qb, hqb⟩ : ∃ qb, q * B = qb := ⟨_, rfl⟩
  obtain ⟨rr, hrr⟩ : ∃ rr, 4294967296 * r = rr := ⟨_, rfl⟩
  obtain ⟨rc, hrc⟩ : ∃ rc, 4294967296 * r + C = rc := ⟨_, rfl⟩
  have f3 : IntKind.u64.wrap (4294967296 * (r : Int)) = (rr : Int) := by rw [u64_in _ (by omega) (by omega)]; omega
  have f4 : IntKind.u64.wrap ((rr : Int) + (C : Int)) = (rc : Int) := by rw [u64_in _ (by omega) (by omega)]; omega
  have f1 : (q : Int) < 4294967296 → IntKind.u64.wrap ((q : Int) * (B : Int)) = (qb : Int) := fun h => by
    have h2 : qb ≤ 4294967295 * 4294967295 := by rw [← hqb]; exact Nat.mul_le_mul (by omega) (by omega)
    rw [← Int.natCast_mul, hqb, u64_in _ (by omega) (by omega)]
  have HQB := Lib.hid hqb
  have HRC := Lib.hid hrc
  clear hqb hrr hrc
  rcases Int.lt_or_le (q : Int) 4294967296 with c1 | c1
  · have f2 := f1 c1
    clear f1
    rcases Int.lt_or_le (rc : Int) (qb : Int) with c3 | c3
    · have C4 := Lib.hid (show 4294967296 ≤ q ∨ 4294967296 * r + C < q * B from .inr (by rw [HQB.out, HRC.out]; omega))
      have hq1 : (1 : Int) ≤ q := by have := (head_low HD.out HH.out C4.out).2; omega
      rcases Int.lt_or_le ((r : Int) + (A : Int)) 4294967296 with c2 | c2
      · have d2 : decide ((4294967296 : Int) ≤ (r : Int) + (A : Int)) = false := decide_eq_false (by omega)
        go_wp2
        rw [← HI.out]
        rw [show ((q : Int) - 1) = ((q - 1 : Nat) : Int) by omega, show ((r : Int) + (A : Int)) = ((r + A : Nat) : Int) by omega]
        exact ⟨WI1.mk' (q - 1) (r + A) (by kernel_rfl) (by omega) (by omega) (head_next HD.out HH.out C4.out (by omega)) hdw, by simp [mu1, intOf]; omega⟩
      · go_wp2
        rw [show ((q : Int) - 1) = ((q - 1 : Nat) : Int) by omega, show ((r : Int) + (A : Int)) = ((r + A : Nat) : Int) by omega]
        exact WX1.mk' (q - 1) (r + A) (by kernel_rfl) (head_break HD.out HH.out C4.out (by omega)) hdw
    · have HE := Lib.hid (head_exit HD.out HH.out (by rw [HQB.out, HRC.out]; omega))
      obtain ⟨e, rfl⟩ : ∃ e, rc = qb + e := ⟨rc - qb, by omega⟩
      clear c3
      iterate 34 (go_step)
      rename_i hK
      refine hK _ _ ?_
      refine wp_cond_split rfl (fun h => ?_) (fun h => ?_)
      · exfalso
        simp at h
        omega
      · apply wp_exit
        exact hx _ _ (WX1.mk' q r (by kernel_rfl) HE.out hdw)
  · have hq1 : (1 : Int) ≤ q := by omega
    clear f1 f3 f4
    rcases Int.lt_or_le ((r : Int) + (A : Int)) 4294967296 with c2 | c2
    · have d2 : decide ((4294967296 : Int) ≤ (r : Int) + (A : Int)) = false := decide_eq_false (by omega)
      go_wp2
      rw [← HI.out]
      rw [show ((q : Int) - 1) = ((q - 1 : Nat) : Int) by omega, show ((r : Int) + (A : Int)) = ((r + A : Nat) : Int) by omega]
      exact ⟨WI1.mk' (q - 1) (r + A) (by kernel_rfl) (by omega) (by omega) (head_next HD.out HH.out (.inl (by omega)) (by omega)) hdw, by simp [mu1, intOf]; omega⟩
    · go_wp2
      rw [show ((q : Int) - 1) = ((q - 1 : Nat) : Int) by omega, show ((r : Int) + (A : Int)) = ((r + A : Nat) : Int) by omega]
      exact WX1.mk' (q - 1) (r + A) (by kernel_rfl) (head_break HD.out HH.out (.inl (by omega)) (by omega)) hdw
set_option maxHeartbeats 4000000 in
set_option maxRecDepth 1000000 in
theorem loop2 (Y s A B U C D Q1 R1 : Nat) (w : World) (Q : Exit → Act → World → Prop) (HD : Hid (Dig A B D R1)) (hx : ∀ a wr, WX2 Y s A B U C D Q1 R1 w a wr → Q (.exit 2) a wr) (a0 : Act) (w0 : World) (h0 : WI2 Y s A B U C D Q1 R1 w a0 w0) :
    (Code.loop body2).wp Try.prog Q a0 w0 := by
  have gA1 : (A : Int) < 4294967296 := by have := HD.out.a1; omega
  have gA0 : (2147483648 : Int) ≤ A := by have := HD.out.a0; omega
  have gB1 : (B : Int) < 4294967296 := by have := HD.out.b1; omega
  have gC1 : (D : Int) < 4294967296 := by have := HD.out.c1; omega
  refine wp_loop (WI2 Y s A B U C D Q1 R1 w) mu2 h0 fun a wr hI => ?_
  obtain ⟨c, u, q, r, rfl, hr, hq, hH, hdw⟩ := hI
  have HH := Lib.hid hH
  clear hH h0
  generalize hI' : WI2 Y s A B U C D Q1 R1 w = I at *
  have HI := Lib.hid hI'
  clear hI'
  conv => arg 2; whnf
  unfold Fr2
  obtain ⟨qb, hqb⟩ : ∃ qb, q * B = qb := ⟨_, rfl⟩
  obtain ⟨rr, hrr⟩ : ∃ rr, 4294967296 * r = rr := ⟨_, rfl⟩
  obtain ⟨rc, hrc⟩ : ∃ rc, 4294967296 * r + D = rc := ⟨_, rfl⟩
  have f3 : IntKind.u64.wrap (4294967296 * (r : Int)) = (rr : Int) := by rw [u64_in _ (by omega) (by omega)]; omega
  have f4 : IntKind.u64.wrap ((rr : Int) + (D : Int)) = (rc : Int) := by rw [u64_in _ (by omega) (by omega)]; omega
  have f1 : (q : Int) < 4294967296 → IntKind.u64.wrap ((q : Int) * (B : Int)) = (qb : Int) := fun h => by
    have h2 : qb ≤ 4294967295 * 4294967295 := by rw [← hqb]; exact Nat.mul_le_mul (by omega) (by omega)
    rw [← Int.natCast_mul, hqb, u64_in _ (by omega) (by omega)]
  have HQB := Lib.hid hqb
  have HRC := Lib.hid hrc
  clear hqb hrr hrc
  rcases Int.lt_or_le (q : Int) 4294967296 with c1 | c1
  · have f2 := f1 c1
    clear f1
    rcases Int.lt_or_le (rc : Int) (qb : Int) with c3 | c3
    · have C4 := Lib.hid (show 4294967296 ≤ q ∨ 4294967296 * r + D < q * B from .inr (by rw [HQB.out, HRC.out]; omega))
      have hq1 : (1 : Int) ≤ q := by have := (head_low HD.out HH.out C4.out).2; omega
      rcases Int.lt_or_le ((r : Int) + (A : Int)) 4294967296 with c2 | c2
      · have d2 : decide ((4294967296 : Int) ≤ (r : Int) + (A : Int)) = false := decide_eq_false (by omega)
        go_wp2
        rw [← HI.out]
        rw [show ((q : Int) - 1) = ((q - 1 : Nat) : Int) by omega, show ((r : Int) + (A : Int)) = ((r + A : Nat) : Int) by omega]
        exact ⟨WI2.mk' (q - 1) (r + A) (by kernel_rfl) (by omega) (by omega) (head_next HD.out HH.out C4.out (by omega)) hdw, by simp [mu2, intOf]; omega⟩
      · go_wp2
        rw [show ((q : Int) - 1) = ((q - 1 : Nat) : Int) by omega, show ((r : Int) + (A : Int)) = ((r + A : Nat) : Int) by omega]
        exact WX2.mk' (q - 1) (r + A) (by kernel_rfl) (head_break HD.out HH.out C4.out (by omega)) hdw
    · have HE := Lib.hid (head_exit HD.out HH.out (by rw [HQB.out, HRC.out]; omega))
      obtain ⟨e, rfl⟩ : ∃ e, rc = qb + e := ⟨rc - qb, by omega⟩
      clear c3
      iterate 34 (go_step)
      rename_i hK
      refine hK _ _ ?_
      refine wp_cond_split rfl (fun h => ?_) (fun h => ?_)
      · exfalso
        simp at h
        omega
      · apply wp_exit
        exact hx _ _ (WX2.mk' q r (by kernel_rfl) HE.out hdw)
  · have hq1 : (1 : Int) ≤ q := by omega
    clear f1 f3 f4
    rcases Int.lt_or_le ((r : Int) + (A : Int)) 4294967296 with c2 | c2
    · have d2 : decide ((4294967296 : Int) ≤ (r : Int) + (A : Int)) = false := decide_eq_false (by omega)
      go_wp2
      rw [← HI.out]
      rw [show ((q : Int) - 1) = ((q - 1 : Nat) : Int) by omega, show ((r : Int) + (A : Int)) = ((r + A : Nat) : Int) by omega]
      exact ⟨WI2.mk' (q - 1) (r + A) (by kernel_rfl) (by omega) (by omega) (head_next HD.out HH.out (.inl (by omega)) (by omega)) hdw, by simp [mu2, intOf]; omega⟩
    · go_wp2
      rw [show ((q : Int) - 1) = ((q - 1 : Nat) : Int) by omega, show ((r : Int) + (A : Int)) = ((r + A : Nat) : Int) by omega]
      exact WX2.mk' (q - 1) (r + A) (by kernel_rfl) (head_break HD.out HH.out (.inl (by omega)) (by omega)) hdw
end Go.Proofs.Ytglomkpnbdnnoaa.Div

/- Chapter 23: the law FlexShares, walked. No condition but that numbers may come in. -/
import Derived.Test.YtglomkpnbdnnoaaFlexSh
namespace Go.Proofs.Ytglomkpnbdnnoaa.Flex
open Go.RowKit Go.Proofs.Ytglomkpnbdnnoaa.Unit Go.Proofs.Ytglomkpnbdnnoaa.Div
set_option linter.unusedVariables false
set_option linter.unusedSimpArgs false
attribute [local go_sem] max2_V max_two
structure ShareF (n : Int) (ws an : List Int) (er : Int) (m : Nat) : Prop where
  at_ : ∀ (j : Nat) x, an[j]? = some x → 0 ≤ x ∧ x ≤ 70368744177664 ∧ ∃ y, ws[j]? = some y ∧ (y = 0 → x = 0)
  s : ∀ j, j ≤ m → 0 ≤ sT an j ∧ sT an j ≤ 70368744177664
  fin : er = 2 ∨ (er = 0 ∧ sT an m = n)
  len : an.length = m
  le : m ≤ ws.length
theorem shareF (n : Int) (ws : List Int) : ShareF n ws (ansH n ws) (errH n ws) (ansH n ws).length := by
  by_cases h : okH n ws = true ∧ ¬ ws.sum = 0
  · have e1 : ansH n ws = shareL n ws := by unfold ansH; rw [if_pos h]
    have e2 : errH n ws = 0 := by unfold errH; rw [if_pos h]
    have h1 := h.1
    unfold okH at h1
    simp only [Bool.and_eq_true, Bool.not_eq_true', List.any_eq_false] at h1
    obtain ⟨n0, n1⟩ := wiB_in h1.1
    have hw : ∀ x ∈ ws, 0 ≤ x := fun x hx => (wiB_in (by have := h1.2 x hx; simpa using this)).1
    have hs : 1 ≤ ws.sum := by
      have h0 := sT_nonneg ws hw ws.length
      rw [sT_all _ _ (Nat.le_refl _)] at h0
      have := h.2
      omega
    rw [e1, e2]
    refine ⟨fun j x hx => ?_, fun j hj => ?_, .inr ⟨rfl, ?_⟩, rfl, by rw [shareL_len]; exact Nat.le_refl _⟩
    · have hj : j < ws.length := by have := (List.getElem?_eq_some_iff.1 hx).1; rwa [shareL_len] at this
      rw [shareL_at n ws j hj] at hx
      injection hx with hx
      subst hx
      refine ⟨shN_nonneg n ws n0 hw hs j, Int.le_trans (shN_le n ws n0 hw hs j) n1, _, List.getElem?_eq_getElem hj, fun hy => shN_none n ws j ?_⟩
      rw [List.getElem?_eq_getElem hj, hy]
    · rw [shareL_len] at hj
      rw [shareL_sT n ws hs j hj]
      have := cutN_bd n ws n0 hw hs j
      omega
    · rw [sT_all _ _ (Nat.le_refl _), shareL_sum n ws hs]
  · have e1 : ansH n ws = [] := by unfold ansH; rw [if_neg h]
    have e2 : errH n ws = 2 := by unfold errH; rw [if_neg h]
    rw [e1, e2]
    exact ⟨fun j x hx => by simp at hx, fun j hj => by simp [sT], .inl rfl, rfl, Nat.zero_le _⟩
set_option maxHeartbeats 16000000 in
set_option maxRecDepth 100000 in
theorem FlexShares_any (n : Int) (A : Option Addr) (k c : Nat) (ws : List Int) (w : World) (hr : Reads w w.heap.size 1 A k (ws.map (Value.int .i64))) :
    Calls Try.prog 4 #[.int .i64 n, .slice A k c] w fun e w' => e = .returned (.bool true) ∧ Below w.heap.size w w' := by
  have HH := Lib.hid (fun V => head_any V)
  by_cases hg : k ≤ 100
  · have q0 : decide ((100 : Int) < (k : Int)) = false := decide_eq_false (by omega)
    have kk : (k : Int) ≤ 100 := by omega
    have HSh := Lib.hid (Share_any n A k c ws (by omega) w hr)
    have HRf := Lib.hid (fun V (h : Below w.heap.size w V) => refShare_any n A k c ws (by omega) V ((hr.below h).more h.size))
    have HR := Lib.hid hr
    have hlk := len_int hr
    have SF := Lib.hid (shareF n ws)
    unfold PH at HSh HRf
    obtain ⟨an, han⟩ : ∃ an, ansH n ws = an := ⟨_, rfl⟩
    obtain ⟨er, her⟩ : ∃ er, errH n ws = er := ⟨_, rfl⟩
    rw [han, her] at HSh HRf SF
    obtain ⟨m, hm⟩ : ∃ m, an.length = m := ⟨_, rfl⟩
    rw [hm] at HSh HRf SF
    have hmk : m ≤ k := by have := SF.out.le; omega
    have HSa := Lib.hid (fun (A1 A2 : Option Addr) (c1 c2 : Nat) (V : World) (r1 : Reads V V.heap.size 1 A1 m (an.map (Value.int .i64))) (r2 : Reads V V.heap.size 1 A2 m (an.map (Value.int .i64))) =>
      (same_any A1 A2 m m c1 c2 V.heap.size an an V hm hm r1 r2 (by omega) (by omega)).mono fun e w' h => (⟨by rw [h.1]; unfold same64; simp, h.2.below⟩ : e = .returned (.bool true) ∧ Below V.heap.size V w'))
    have qe : (er != er) = false := by simp
    clear hr hlk han her hm
    go_enter Try.func4, Try.ntmps4
    go_wp2_with (first
      | (go_at_call 13; (with_reducible refine HSh.out.mono ?_); rintro e w1 ⟨⟨A1, c1, rfl, r⟩, b⟩; have R1 := Lib.hid r; have B1 := Lib.hid b; clear r b)
      | (go_at_call 14; (with_reducible refine (HRf.out w1 B1.out).mono ?_); rintro e w2 ⟨⟨A2, c2, rfl, r⟩, b⟩; have R2 := Lib.hid r; have R1' := Lib.hid ((R1.out.below b).more b.size); have B2 := Lib.hid (bel_trans B1.out b); clear r b)
      | (go_at_call 12; (with_reducible refine (HSa.out A1 A2 c1 c2 w2 R1'.out R2.out).mono ?_); rintro e w3 ⟨rfl, b⟩; have R3 := Lib.hid ((R1'.out.below b).more b.size); have B3 := Lib.hid (bel_trans B2.out b); clear b))
    clear HSh HRf HSa R1 R1' R2 B1 B2
    go_loopw [9, 10] (fun s i wr => ∃ j : Nat, i = .int .i64 j ∧ j ≤ m ∧ s = .int .i64 (sT an j) ∧ Hid (Below w3.heap.size w3 wr)) (fun _ i _ => m - (intOf i).toNat)
    case atStart => exact ⟨0, rfl, by omega, rfl, Lib.hid (Below.refl _ _)⟩
    case round =>
      obtain ⟨j, rfl, hj, rfl, HD⟩ := hrel
      by_cases hlt : j < m
      · have q1 : decide ((j : Int) < (m : Int)) = true := decide_eq_true (by omega)
        have q2 : decide ((j : Int) < (k : Int)) = true := decide_eq_true (by omega)
        have i0 : (0 : Int) ≤ (j : Int) := by omega
        have i1 : (j : Int) < (m : Int) := by omega
        have i2 : (j : Int) < (k : Int) := by omega
        have i3 : j < k := by omega
        obtain ⟨ad1, x, rfl, _, hx, cx⟩ := reads_int (R3.out.below HD.out) hlt
        obtain ⟨adw, y, rfl, _, hy, cy⟩ := reads_int (HR.out.below (bel_trans B3.out HD.out)) i3
        obtain ⟨x0, x1, y', hy', hyx⟩ := SF.out.at_ j x hx
        have ey : y' = y := by rw [hy] at hy'; injection hy' with hy'; exact hy'.symm
        rw [ey] at hyx
        have t0 : decide (x < 0) = false := decide_eq_false (by omega)
        have hs := SF.out.s j hj
        have HSs := Lib.hid (sT_succ an j x hx)
        have wS : IntKind.i64.wrap (sT an j + x) = sT an j + x := IntWalk.i64_in _ ⟨by omega, by omega⟩
        generalize sT an j = s at wS HSs
        clear hx hy hy' ey hs x0 x1 SF HR R3 B3
        by_cases hy0 : y = 0
        · have t1 : (y == 0) = true := by simpa using hy0
          have t2 : (x != 0) = false := by simpa using hyx hy0
          clear hyx hy0
          go_wp2
          go_roundw
          case rel => exact ⟨j + 1, by go_num, by omega, by rw [HSs.out], HD⟩
          case measure => simp [intOf]; omega
        · have t1 : (y == 0) = false := by simpa using hy0
          clear hyx hy0
          go_wp2
          go_roundw
          case rel => exact ⟨j + 1, by go_num, by omega, by rw [HSs.out], HD⟩
          case measure => simp [intOf]; omega
      · obtain rfl : m = j := by omega
        have q1 : decide ((m : Int) < (m : Int)) = false := decide_eq_false (by omega)
        have BE := Lib.hid (bel_trans B3.out HD.out)
        have hfin := SF.out.fin
        obtain ⟨s, hs⟩ : ∃ s, sT an m = s := ⟨_, rfl⟩
        rw [hs] at hfin ⊢
        clear SF HR R3 B3 HD hs qe
        rcases hfin with rfl | ⟨rfl, rfl⟩
        · go_wp2_with (go_at_call 9; (with_reducible refine (HH.out _).mono ?_); rintro e w9 ⟨rfl, b⟩; have T6 := Lib.hid (bel_trans BE.out b); clear b)
          go_ret
          exact ⟨rfl, T6.out⟩
        · go_wp2_with (go_at_call 9; (with_reducible refine (HH.out _).mono ?_); rintro e w9 ⟨rfl, b⟩; have T6 := Lib.hid (bel_trans BE.out b); clear b)
          go_ret
          exact ⟨rfl, T6.out⟩
  · have q0 : decide ((100 : Int) < (k : Int)) = true := decide_eq_true (by omega)
    clear hr
    go_enter Try.func4, Try.ntmps4
    go_wp2_with (go_at_call 9; (with_reducible refine (HH.out _).mono ?_); rintro e w9 ⟨rfl, b⟩; have T6 := Lib.hid b; clear b)
    go_ret
    exact ⟨rfl, T6.out⟩
end Go.Proofs.Ytglomkpnbdnnoaa.Flex

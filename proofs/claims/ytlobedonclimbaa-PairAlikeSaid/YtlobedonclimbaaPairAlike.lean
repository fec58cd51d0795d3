/- Chapter 9: PairAlike, walked: it returns true, for every input. No condition. -/
import Derived.Test.YtlobedonclimbaaPairE
namespace Go.Proofs.Ytlobedonclimbaa.Pair
open Go.RowKit
set_option linter.unusedVariables false
set_option linter.unusedSimpArgs false

set_option maxHeartbeats 16000000 in
set_option maxRecDepth 100000 in
theorem PairAlike_any (many x : Int) (k0 : 0 ≤ many) (k1 : many ≤ 255) (x0 : 0 ≤ x) (x1 : x ≤ 255) (w : World) :
    Calls Try.prog 8 #[.int .u8 many, .int .u8 x] w fun e w' => e = .returned (.bool true) ∧ Below w.heap.size w w' := by
  obtain ⟨i5, hi5, hx5, hy5, hw5⟩ := info_parts A_info5
  obtain ⟨n, hn, e0, e1⟩ := nat_mod many 100 k0 (by omega)
  obtain ⟨px', hp, e2, e3⟩ := nat_mod x 27 x0 (by omega)
  obtain ⟨px, hpx⟩ : ∃ px : Int, (px' : Int) = px := ⟨_, rfl⟩
  rw [hpx] at e2 e3
  have e0 : many % 100 = (n : Int) := e0
  have e1 : many.tmod 100 = (n : Int) := e1
  have e2 : x % 27 = px := e2
  have e3 : x.tmod 27 = px := e3
  have e4 : IntKind.i64.wrap (n : Int) = (n : Int) := by rw [IntKind.wrap_i64]; omega
  have e5 : IntKind.u8.wrap (n : Int) = (n : Int) := by rw [IntKind.wrap_u8]; omega
  have e6 : IntKind.u8.wrap px = px := by rw [IntKind.wrap_u8]; omega
  have TO := Lib.hid (tOP px (by omega) (by omega))
  have TB := Lib.hid (tBK px (by omega) (by omega))
  have q0 : ((n : Int) != (n : Int)) = false := by simp
  clear hp hpx
  go_enter Try.func8, Try.ntmps8
  go_wp2
  go_loopw [6, 7, 8] (fun l d i wr => ∃ (k : Nat) (v1 v2 : Value), i = .int .i64 k ∧ k ≤ n ∧ l = v1 ∧ d = v2 ∧ Hid (wr.ownsRow w.heap.size 5 1 v1 k (List.replicate k (.int .u8 0))) ∧ Hid (wr.ownsRow w.heap.size 5 1 v2 k (List.replicate k (.int .u8 25))) ∧ Hid (∀ r, v1.ownBlock = some r → v2.ownBlock ≠ some r) ∧ Hid (Below w.heap.size w wr)) (fun l d i wr => n - (intOf i).toNat)
  case atStart => exact ⟨0, _, _, rfl, by omega, rfl, rfl, Lib.hid (own_nil _ _ _ _), Lib.hid (own_nil _ _ _ _), Lib.hid (fun r h => by simp [Value.ownBlock] at h), Lib.hid (Below.refl _ _)⟩
  case round =>
    obtain ⟨k, v1, v2, rfl, hk, rfl, rfl, O1, O2, DD, B0⟩ := hrel
    by_cases hlt : k < n
    · go_wp2_with (first
        | (at_builtin; refine wpList_append_any _ rfl (.tmp 24) (.tmp 25) 22 rfl w.heap.size 5 i5 (.int .u8 0) 1 1 Try.underlying22 hi5 hx5 hy5 hw5 rfl (by decide) _ k _ rfl (O1.out.alloc _) _ _ 1 1 [.int .u8 0] rfl (reads_at _ _ _ _ 1 _ (by simp) rfl rfl) (by simp [Value.oneCell']) (by unfold maxLen; omega) (by omega) (by have := B0.out.size; simp; omega) ?_; intro u1 w1 hown1 hg1 hb1; obtain ⟨A1, c1, rfl⟩ := own_shape hown1; have P1 := Lib.hid hown1; have P2 := Lib.hid (own_kept' (O2.out.alloc (.cells #[.int .u8 0] 5)) hg1 (fun r h e => DD.out r e h)); have D1 := Lib.hid (apart_more' (O2.out.alloc (.cells #[.int .u8 0] 5)) hb1 DD.out); have PB := Lib.hid (bel_grown (bel_alloc B0.out (.cells #[.int .u8 0] 5)) (O1.out.alloc (.cells #[.int .u8 0] 5)) hg1); clear hown1 hg1 hb1)
        | (at_builtin; refine wpList_append_any _ rfl (.tmp 27) (.tmp 28) 22 rfl w.heap.size 5 i5 (.int .u8 0) 1 1 Try.underlying22 hi5 hx5 hy5 hw5 rfl (by decide) _ k _ rfl (P2.out.alloc _) _ _ 1 1 [.int .u8 25] rfl (reads_at _ _ _ _ 1 _ (by simp) rfl rfl) (by simp [Value.oneCell']) (by unfold maxLen; omega) (by omega) (by have := PB.out.size; simp; omega) ?_; intro u2 w2 hown2 hg2 hb2; obtain ⟨A2, c2, rfl⟩ := own_shape hown2; have R2 := Lib.hid hown2; have R1 := Lib.hid (own_kept' (P1.out.alloc (.cells #[.int .u8 25] 5)) hg2 (fun r h e => D1.out r h e)); have D2 := Lib.hid (apart_more' (P1.out.alloc (.cells #[.int .u8 25] 5)) hb2 (fun r h e => D1.out r e h)); have RB := Lib.hid (bel_grown (bel_alloc PB.out (.cells #[.int .u8 25] 5)) (P2.out.alloc (.cells #[.int .u8 25] 5)) hg2); clear hown2 hg2 hb2))
      go_roundw
      case rel => exact ⟨k + 1, _, _, by go_num, by omega, rfl, rfl, Lib.hid (by rw [List.replicate_succ']; exact R1.out), Lib.hid (by rw [List.replicate_succ']; exact R2.out), Lib.hid (fun r h e => D2.out r e h), RB⟩
      case measure => simp [intOf]; omega
    · obtain rfl : k = n := by omega
      obtain ⟨A1, c1, rfl⟩ := own_shape O1.out
      obtain ⟨A2, c2, rfl⟩ := own_shape O2.out
      have HB := Lib.hid (fun V (hV : Below _ _ V) => Breaks_any A1 k c1 (List.replicate k 0) (by simp) (by omega) V (by
        have := reads_go (own_reads O1.out) hV
        rwa [← List.map_replicate] at this))
      have HD := Lib.hid (fun V (hV : Below _ _ V) => Breaks_any A2 k c2 (List.replicate k 25) (by simp) (by omega) V (by
        have := reads_go (own_reads O2.out) hV
        rwa [← List.map_replicate] at this))
      go_wp2_with (first
        | (go_at_call 15; ((with_reducible refine (HB.out _ (Below.refl _ _)).mono ?_); rintro e w5 ⟨A5, c5, rfl, hR5, hb5⟩; have R5 := Lib.hid hR5; clear hR5))
        | (go_at_call 15; ((with_reducible refine (HD.out _ hb5).mono ?_); rintro e w6 ⟨A6, c6, rfl, hR6, hb6⟩; have R6 := Lib.hid hR6; have R5 := Lib.hid (reads_go R5.out hb6); have B6 := Lib.hid (bel_trans (bel_trans B0.out hb5) hb6); clear hR6 hb5 hb6)))
      go_loopw [11] (fun i wr => ∃ j : Nat, i = .int .i64 j ∧ j ≤ k ∧ w6 = wr) (fun i wr => k - (intOf i).toNat)
      case atStart => exact ⟨0, rfl, by omega, rfl⟩
      case round =>
        obtain ⟨j, rfl, hj, rfl⟩ := hrel
        by_cases hlt2 : j < k
        · obtain ⟨ad1, ad2, rfl, rfl, g1, g2⟩ := alike_cells R5.out R6.out hlt2
          have j0 : (0 : Int) ≤ j := by omega
          have j1 : (j : Int) < k := by omega
          rcases g2 with ⟨h0, g2⟩ | ⟨h0, g2⟩
          · have z0 : decide ((0 : Int) < (j : Int)) = false := decide_eq_false (by omega)
            have z1 : decide (0 < j) = false := decide_eq_false (by omega)
            clear h0
            go_wp2
            go_roundw
            case rel => exact ⟨j + 1, by go_num, by omega, trivial⟩
            case measure => simp [intOf]; omega
          · have z0 : (0 : Int) < (j : Int) := by omega
            go_wp2
            go_roundw
            case rel => exact ⟨j + 1, by go_num, by omega, trivial⟩
            case measure => simp [intOf]; omega
        · obtain rfl : j = k := by omega
          go_wp2_with (first
            | (go_at_call 15; ((with_reducible refine (Breaks_any _ 2 2 [0, 5] rfl (by decide) _ ?_).mono ?_); exact reads_at _ _ _ _ 2 _ (by simp) rfl rfl; rintro e w7 ⟨A7, c7, rfl, hR7, hb7⟩; rw [t05] at hR7; have R7 := Lib.hid hR7; have B7 := Lib.hid (bel_trans B6.out (bel_al hb7)); clear hR7 hb7))
            | (go_at_call 15; ((with_reducible refine (Breaks_any _ 2 2 [14, px] rfl (by decide) _ ?_).mono ?_); exact reads_at _ _ _ _ 2 _ (by simp) rfl rfl; rintro e w8 ⟨A8, c8, rfl, hR8, hb8⟩; rw [TO.out] at hR8; have R8 := Lib.hid hR8; have R7 := Lib.hid (reads_go R7.out (bel_al hb8)); have B8 := Lib.hid (bel_trans B7.out (bel_al hb8)); clear hR8 hb8))
            | (go_at_call 16; ((with_reducible refine (Must_any _ 2 2 [1, px] rfl (by decide) _ ?_).mono ?_); exact reads_at _ _ _ _ 2 _ (by simp) rfl rfl; rintro e w9 ⟨A9, c9, rfl, hR9, hb9⟩; rw [TB.out] at hR9; have R9 := Lib.hid hR9; have R7 := Lib.hid (reads_go R7.out (bel_al hb9)); have R8 := Lib.hid (reads_go R8.out (bel_al hb9)); have B9 := Lib.hid (bel_trans B8.out (bel_al hb9)); clear hR9 hb9))
            | (go_at_call 14; ((with_reducible refine (same1_any A7 _ 2 _ _ [false, false] (by decide) _ ?_ ?_).mono ?_); exact reads_go R7.out (bel_alloc (Below.refl _ _) _); exact reads_at _ _ _ _ 2 _ (by simp) rfl rfl; rintro e w10 ⟨rfl, hb10⟩; have R8 := Lib.hid (reads_go R8.out (bel_al hb10)); have R9 := Lib.hid (reads_go R9.out (bel_al hb10)); have B10 := Lib.hid (bel_trans B9.out (bel_al hb10)); clear hb10))
            | (go_at_call 14; ((with_reducible refine (same1_any A8 _ 2 _ _ [false, false] (by decide) _ ?_ ?_).mono ?_); exact reads_go R8.out (bel_alloc (Below.refl _ _) _); exact reads_at _ _ _ _ 2 _ (by simp) rfl rfl; rintro e w11 ⟨rfl, hb11⟩; have R9 := Lib.hid (reads_go R9.out (bel_al hb11)); have B11 := Lib.hid (bel_trans B10.out (bel_al hb11)); clear hb11))
            | (go_at_call 14; ((with_reducible refine (same1_any A9 _ 2 _ _ [false, true] (by decide) _ ?_ ?_).mono ?_); exact reads_go R9.out (bel_alloc (Below.refl _ _) _); exact reads_at _ _ _ _ 2 _ (by simp) rfl rfl; rintro e w12 ⟨rfl, hb12⟩; have B12 := Lib.hid (bel_trans B11.out (bel_al hb12)); clear hb12))
            | (go_at_call 10; refine (head_any _).mono ?_; rintro e w13 ⟨rfl, hb13⟩))
          go_ret
          exact ⟨rfl, bel_trans B12.out hb13⟩
end Go.Proofs.Ytlobedonclimbaa.Pair

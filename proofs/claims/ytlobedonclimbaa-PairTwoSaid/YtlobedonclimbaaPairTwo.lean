/- Chapter 9: PairTwo, walked: it returns true, for every input. No condition. -/
import Derived.Test.YtlobedonclimbaaPairE
import Derived.Test.YtlobedonclimbaaPairQ
namespace Go.Proofs.Ytlobedonclimbaa.Pair
open Go.RowKit
set_option linter.unusedVariables false
set_option linter.unusedSimpArgs false

set_option maxHeartbeats 16000000 in
set_option maxRecDepth 100000 in
theorem PairTwo_any (x a b : Int) (x0 : 0 ≤ x) (x1 : x ≤ 255) (a0 : 0 ≤ a) (a1 : a ≤ 255) (b0 : 0 ≤ b) (b1 : b ≤ 255) (w : World) :
    Calls Try.prog 4 #[.int .u8 x, .int .u8 a, .int .u8 b] w fun e w' => e = .returned (.bool true) ∧ Below w.heap.size w w' := by
  obtain ⟨i5, hi5, hx5, hy5, hw5⟩ := info_parts A_info5
  obtain ⟨px', hpx, e0, e1⟩ := nat_mod x 30 x0 (by omega)
  obtain ⟨px, hqx⟩ : ∃ p : Int, (px' : Int) = p := ⟨_, rfl⟩
  rw [hqx] at e0 e1
  have e0 : x % 30 = px := e0
  have e1 : x.tmod 30 = px := e1
  have fx : IntKind.u8.wrap px = px := by rw [IntKind.wrap_u8]; omega
  clear hpx hqx
  obtain ⟨pa', hpa, e2, e3⟩ := nat_mod a 30 a0 (by omega)
  obtain ⟨pa, hqa⟩ : ∃ p : Int, (pa' : Int) = p := ⟨_, rfl⟩
  rw [hqa] at e2 e3
  have e2 : a % 30 = pa := e2
  have e3 : a.tmod 30 = pa := e3
  have fa : IntKind.u8.wrap pa = pa := by rw [IntKind.wrap_u8]; omega
  clear hpa hqa
  obtain ⟨pb', hpb, e4, e5⟩ := nat_mod b 30 b0 (by omega)
  obtain ⟨pb, hqb⟩ : ∃ p : Int, (pb' : Int) = p := ⟨_, rfl⟩
  rw [hqb] at e4 e5
  have e4 : b % 30 = pb := e4
  have e5 : b.tmod 30 = pb := e5
  have fb : IntKind.u8.wrap pb = pb := by rw [IntKind.wrap_u8]; omega
  clear hpb hqb
  go_enter Try.func4, Try.ntmps4
  go_wp2
  go_loopw [7] (fun i wr => ∃ n : Nat, i = .int .i64 n ∧ n ≤ 3 ∧ Hid (Below w.heap.size w wr)) (fun i wr => 3 - (intOf i).toNat)
  case atStart => exact ⟨0, rfl, by omega, Lib.hid (Below.refl _ _)⟩
  case round =>
    obtain ⟨n, rfl, hn, B0⟩ := hrel
    obtain ⟨W0, hW0⟩ : ∃ W0, W0 = wr := ⟨_, rfl⟩
    subst hW0
    by_cases hlt : n < 3
    · obtain ⟨N, hN⟩ : ∃ N : Nat, 2 + n + 1 = N := ⟨_, rfl⟩
      obtain ⟨zs, hzs⟩ : ∃ zs : List Int, [px, pa] ++ List.replicate n 5 ++ [pb] = zs := ⟨_, rfl⟩
      have ZS := Lib.hid hzs
      have ZL := Lib.hid (show zs.length = N by rw [← hzs]; simp; omega)
      clear hzs
      have OWN0 := Lib.hid (World.ownsRow_lit (base := W0.heap.size) (e := 5) (size := 1) W0 #[.int .u8 px, .int .u8 pa] 2 (Nat.le_refl _) (by simp [maxLen]) (by simp))
      go_wp2
      go_loopw [8, 9] (fun l k ws => ∃ (j : Nat) (v : Value), k = .int .i64 j ∧ j ≤ n ∧ l = v ∧ Hid (ws.ownsRow W0.heap.size 5 1 v (2 + j) ([.int .u8 px, .int .u8 pa] ++ List.replicate j (.int .u8 5))) ∧ Hid (Below W0.heap.size W0 ws)) (fun l k ws => n - (intOf k).toNat)
      case atStart => exact ⟨0, _, rfl, by omega, rfl, Lib.hid (by simpa using OWN0.out), Lib.hid (bel_alloc (Below.refl _ _) _)⟩
      case round =>
        obtain ⟨j, v, rfl, hj, rfl, O1, B1⟩ := hrel
        by_cases h2 : j < n
        · go_wp2_with ((at_builtin; refine wpList_append_any _ rfl (.tmp 27) (.tmp 28) 22 rfl W0.heap.size 5 i5 (.int .u8 0) 1 1 Try.underlying22 hi5 hx5 hy5 hw5 rfl (by decide) _ (2 + j) _ rfl (O1.out.alloc _) _ _ 1 1 [.int .u8 5] rfl (reads_at _ _ _ _ 1 _ (by simp) rfl rfl) (by simp [Value.oneCell']) (by unfold maxLen; omega) (by omega) (by have := B1.out.size; simp; omega) ?_; intro u1 w1 hown1 hg1 hb1; obtain ⟨A1, c1, rfl⟩ := own_shape hown1; have P1 := Lib.hid hown1; have PB := Lib.hid (bel_grown (bel_alloc B1.out (.cells #[.int .u8 5] 5)) (O1.out.alloc (.cells #[.int .u8 5] 5)) hg1); clear hown1 hg1 hb1))
          go_roundw
          case rel => exact ⟨j + 1, _, by go_num, by omega, rfl, Lib.hid (by rw [List.replicate_succ', ← List.append_assoc]; exact P1.out), PB⟩
          case measure => simp [intOf]; omega
        · obtain rfl : j = n := by omega
          go_wp2_with (first
            | (at_builtin; refine wpList_append_any _ rfl (.tmp 30) (.tmp 33) 22 rfl W0.heap.size 5 i5 (.int .u8 0) 1 1 Try.underlying22 hi5 hx5 hy5 hw5 rfl (by decide) _ (2 + j) _ rfl (O1.out.alloc _) _ _ 1 1 [.int .u8 pb] rfl (reads_at _ _ _ _ 1 _ (by simp) rfl rfl) (by simp [Value.oneCell']) (by unfold maxLen; omega) (by omega) (by have := B1.out.size; simp; omega) ?_; intro u1 w1 hown1 hg1 hb1; obtain ⟨A1, c1, rfl, hcc, hRZ⟩ := own_to hown1 (show _ = N by omega) (show _ = zs.map (Value.int .u8) by rw [← ZS.out]; simp); have RZ := Lib.hid hRZ; have B2 := Lib.hid (bel_trans B0.out (bel_grown (bel_alloc B1.out (.cells #[.int .u8 pb] 5)) (O1.out.alloc (.cells #[.int .u8 pb] 5)) hg1)); clear hown1 hg1 hb1 hRZ)
            | (go_at_call 11; ((with_reducible refine (refAll_any A1 N c1 zs ZL.out (by omega) hcc _ RZ.out).mono ?_); rintro e w3 ⟨D1, d1, D2, d2, D3, d3, rfl, q1, q2, q3, hb3⟩; have Q1 := Lib.hid q1; have Q2 := Lib.hid q2; have RZ := Lib.hid (reads_go RZ.out hb3); have B3 := Lib.hid (bel_trans B2.out hb3); clear q1 q2 q3 hb3))
            | (go_at_call 13; ((with_reducible refine (Rules_any A1 N c1 zs ZL.out (by omega) _ RZ.out).mono ?_); rintro e w4 ⟨A4, c4, rfl, hR4, hb4⟩; have R4 := Lib.hid hR4; have Q1 := Lib.hid (reads_go Q1.out hb4); have Q2 := Lib.hid (reads_go Q2.out hb4); have RZ := Lib.hid (reads_go RZ.out hb4); have B4 := Lib.hid (bel_trans B3.out hb4); clear hR4 hb4))
            | (go_at_call 12; ((with_reducible refine (same8_any _ _ N _ _ (tellL 0 numR zs) (by omega) _ R4.out Q1.out).mono ?_); rintro e w5 ⟨rfl, hb5⟩; have Q2 := Lib.hid (reads_go Q2.out hb5); have RZ := Lib.hid (reads_go RZ.out hb5); have B5 := Lib.hid (bel_trans B4.out hb5); clear hb5))
            | (go_at_call 15; ((with_reducible refine (Breaks_any A1 N c1 zs ZL.out (by omega) _ RZ.out).mono ?_); rintro e w6 ⟨A6, c6, rfl, hR6, hb6⟩; have R6 := Lib.hid hR6; have Q2 := Lib.hid (reads_go Q2.out hb6); have B6 := Lib.hid (bel_trans B5.out hb6); clear hR6 hb6))
            | (go_at_call 14; ((with_reducible refine (same1_any _ _ N _ _ (tellL false mayR zs) (by omega) _ R6.out Q2.out).mono ?_); rintro e w7 ⟨rfl, hb7⟩; have B7 := Lib.hid (bel_trans B6.out hb7); clear hb7)))
          go_roundw
          case rel => exact ⟨j + 1, by go_num, by omega, B7⟩
          case measure => simp [intOf]; omega
    · obtain rfl : n = 3 := by omega
      go_wp2_with (go_at_call 10; refine (head_any _).mono ?_; rintro e w8 ⟨rfl, hb8⟩)
      go_ret
      exact ⟨rfl, bel_trans B0.out hb8⟩
end Go.Proofs.Ytlobedonclimbaa.Pair

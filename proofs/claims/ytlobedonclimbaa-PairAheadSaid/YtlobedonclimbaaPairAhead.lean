/- Chapter 9: PairAhead, walked: it returns true, for every row. No condition. -/
import Derived.Test.YtlobedonclimbaaPairY
namespace Go.Proofs.Ytlobedonclimbaa.Pair
open Go.RowKit
set_option linter.unusedVariables false

set_option maxHeartbeats 16000000 in
set_option maxRecDepth 100000 in
theorem PairAhead_any (A : Option Addr) (n c : Nat) (xs : List Int) (cut : Int) (k0 : 0 ≤ cut) (k1 : cut ≤ 255) (hl : xs.length = n) (hc : n ≤ c) (hm : c ≤ maxLen) (w : World) (hr : Reads w w.heap.size 1 A n (xs.map (Value.int .u8))) :
    Calls Try.prog 5 #[.slice A n c, .int .u8 cut] w fun e w' => e = .returned (.bool true) ∧ Below w.heap.size w w' := by
  unfold maxLen at hm
  rcases Nat.lt_or_ge 120 n with h | h
  · have HE := Lib.hid (show greatB n = true from decide_eq_true h)
    clear hr hl
    go_enter Try.func5, Try.ntmps5
    go_wp2_with (first
      | (go_at_call 9; refine (great_any _ _ _ (by omega) _).mono ?_; rintro e w' ⟨rfl, rfl⟩; rw [HE.out])
      | (go_at_call 10; refine (head_any _).mono ?_; rintro e w8 ⟨rfl, hb8⟩))
    go_ret
    exact ⟨rfl, hb8⟩
  · have HE := Lib.hid (show greatB n = false from decide_eq_false (by omega))
    have HB := Lib.hid (BreaksC_any A n c xs hl (by omega) w hr)
    have HM := Lib.hid (fun V (hV : Below w.heap.size w V) => Must_any A n c xs hl (by omega) V ((hr.below hV).more hV.size))
    have q0 : ((n : Int) != (n : Int)) = false := by simp
    rcases Nat.eq_zero_or_pos n with hn0 | hn1
    · have z0 : ((n : Int) == 0) = true := by rw [hn0]; rfl
      clear hr hl hn0
      go_enter Try.func5, Try.ntmps5
      go_wp2_with (first
        | (go_at_call 9; refine (great_any _ _ _ (by omega) _).mono ?_; rintro e w' ⟨rfl, rfl⟩; rw [HE.out])
        | (go_at_call 15; (with_reducible refine HB.out.mono ?_); rintro e w1 ⟨A1, c1, rfl, hc1, hR1, hb1⟩)
        | (go_at_call 16; (with_reducible refine (HM.out _ hb1).mono ?_); rintro e w2 ⟨A2, c2, rfl, hR2, hb2⟩)
        | (go_at_call 10; refine (head_any _).mono ?_; rintro e w8 ⟨rfl, hb8⟩))
      go_ret
      exact ⟨rfl, bel_trans (bel_trans hb1 hb2) hb8⟩
    · obtain ⟨m, hm0⟩ : ∃ m : Nat, cut.toNat % n = m := ⟨_, rfl⟩
      have hmn : m < n := by rw [← hm0]; exact Nat.mod_lt _ hn1
      have e0 : cut % (n : Int) = (m : Int) := by rw [← hm0, Int.natCast_emod, Int.toNat_of_nonneg k0]
      have e1 : cut.tmod (n : Int) = (m : Int) := by rw [Int.tmod_eq_emod_of_nonneg k0]; exact e0
      have z0 : ((n : Int) == 0) = false := by rw [beq_eq_false_iff_ne]; omega
      have z1 : ¬ (n : Int) = 0 := by omega
      obtain ⟨k, hk⟩ : ∃ k : Nat, m + 1 = k := ⟨_, rfl⟩
      have e2 : IntKind.i64.wrap (1 + (m : Int)) = (k : Int) := by rw [IntKind.wrap_i64]; omega
      have hkn : k ≤ n := by omega
      have e3 := top8 A n c k (by omega)
      have e4 : Hid (∀ A1 c1, n ≤ c1 → ∀ W, (Instr.slice 25 (.slice A1 n c1) none (some (.int .i64 (k : Int))) none).run Try.prog W = .ok (.slice A1 k c1) W) := Lib.hid (fun A1 c1 h => top1 A1 n c1 k (by omega))
      have HP := Lib.hid (fun V (hV : Below w.heap.size w V) => Breaks_any A k c (xs.take k) (by simp; omega) (by omega) V (((Reads.take8 hr (by omega)).below hV).more hV.size))
      have HL := Lib.hid hl
      clear hr hl hm0
      go_enter Try.func5, Try.ntmps5
      go_wp2_with (first
        | (go_at_call 9; refine (great_any _ _ _ (by omega) _).mono ?_; rintro e w' ⟨rfl, rfl⟩; rw [HE.out])
        | (go_at_call 15; (with_reducible refine HB.out.mono ?_); rintro e w1 ⟨A1, c1, rfl, hc1, hR1, hb1⟩; have R1 := Lib.hid hR1; clear hR1)
        | (go_at_call 16; (with_reducible refine (HM.out _ hb1).mono ?_); rintro e w2 ⟨A2, c2, rfl, hR2, hb2⟩; have R2 := Lib.hid hR2; clear hR2)
        | (go_at_call 15; (with_reducible refine (HP.out _ (bel_trans hb1 hb2)).mono ?_); rintro e w3 ⟨A3, c3, rfl, hR3, hb3⟩; have R3 := Lib.hid hR3; clear hR3))
      have r1 := Lib.hid (R1.out.below (bel_trans hb2 hb3))
      have r2 := Lib.hid (R2.out.below hb3)
      have e5 := e4.out A1 c1 hc1
      have hbw := Lib.hid (bel_trans (bel_trans hb1 hb2) hb3)
      have L1 := Lib.hid (show Reads w3 w3.heap.size 1 A1 k (((tellL false mayR xs).take k).map Value.bool) by
        rw [List.map_take]
        exact (Reads.cutTo r1.out hkn).more (bel_trans hb2 hb3).size)
      have L3 := Lib.hid (show Reads w3 w3.heap.size 1 A3 k (((tellL false mayR xs).take k).map Value.bool) by
        rw [← tell_take false mayR xs k (by rw [HL.out]; exact hkn)]
        exact R3.out)
      obtain ⟨ad0, hA0, _, g0⟩ := tell_cell Value.bool false mayR xs HL.out r1.out hn1
      rw [add_zero', if_pos rfl] at g0
      subst hA0
      clear hb1 hb2 hb3
      go_loopw [9] (fun i wr => ∃ j : Nat, i = .int .i64 j ∧ j ≤ n ∧ w3 = wr) (fun i wr => n - (intOf i).toNat)
      case atStart => exact ⟨0, rfl, by omega, rfl⟩
      case round =>
        obtain ⟨j, rfl, hj, rfl⟩ := hrel
        by_cases hlt : j < n
        · obtain ⟨ad1, ad2, e6, rfl, s, q, g2, g1, hsq⟩ := ahead_cells xs HL.out r1.out r2.out hlt
          cases e6
          have i0 : (0 : Int) ≤ j := by omega
          have i1 : (j : Int) < n := by omega
          rcases hsq with rfl | ⟨rfl, rfl⟩
          all_goals
            go_wp2
            go_roundw
            case rel => exact ⟨j + 1, by go_num, by omega, trivial⟩
            case measure => simp [intOf]; omega
        · obtain rfl : j = n := by omega
          go_wp2_with (first
            | (go_at_call 14; (with_reducible refine (same1_any _ _ k _ _ _ (by omega) _ L3.out L1.out).mono ?_); rintro e w4 ⟨rfl, hb4⟩)
            | (go_at_call 10; refine (head_any _).mono ?_; rintro e w8 ⟨rfl, hb8⟩))
          go_ret
          exact ⟨rfl, bel_trans (bel_trans hbw.out hb4) hb8⟩
end Go.Proofs.Ytlobedonclimbaa.Pair

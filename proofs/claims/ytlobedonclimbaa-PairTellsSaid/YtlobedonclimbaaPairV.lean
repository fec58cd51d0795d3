/- Chapter 9: PairTells, walked: it returns true, for every row. No condition. -/
import Derived.Test.YtlobedonclimbaaPairQ
import Derived.Test.YtlobedonclimbaaPairH
namespace Go.Proofs.Ytlobedonclimbaa.Pair
open Go.RowKit
set_option linter.unusedVariables false

set_option maxHeartbeats 16000000 in
set_option maxRecDepth 100000 in
theorem PairTells_any (A : Option Addr) (n c : Nat) (xs : List Int) (hl : xs.length = n) (hc : n ≤ c) (hm : c ≤ maxLen) (w : World) (hr : Reads w w.heap.size 1 A n (xs.map (Value.int .u8))) :
    Calls Try.prog 3 #[.slice A n c] w fun e w' => e = .returned (.bool true) ∧ Below w.heap.size w w' := by
  unfold maxLen at hm
  rcases Nat.lt_or_ge 120 n with h | h
  · have HE := Lib.hid (show greatB n = true from decide_eq_true h)
    clear hr hl
    go_enter Try.func3, Try.ntmps3
    go_wp2_with (first
      | (go_at_call 9; refine (great_any _ _ _ (by omega) _).mono ?_; rintro e w' ⟨rfl, rfl⟩; rw [HE.out])
      | (go_at_call 10; refine (head_any _).mono ?_; rintro e w8 ⟨rfl, hb8⟩))
    go_ret
    exact ⟨rfl, hb8⟩
  · have HE := Lib.hid (show greatB n = false from decide_eq_false (by omega))
    have HA := Lib.hid (refAll_any A n c xs hl (by omega) hc w hr)
    have HR := Lib.hid (fun V (hV : Below w.heap.size w V) => Rules_any A n c xs hl (by omega) V ((hr.below hV).more hV.size))
    have HB := Lib.hid (fun V (hV : Below w.heap.size w V) => Breaks_any A n c xs hl (by omega) V ((hr.below hV).more hV.size))
    have HM := Lib.hid (fun V (hV : Below w.heap.size w V) => Must_any A n c xs hl (by omega) V ((hr.below hV).more hV.size))
    clear hr hl
    go_enter Try.func3, Try.ntmps3
    go_wp2_with (first
      | (go_at_call 9; refine (great_any _ _ _ (by omega) _).mono ?_; rintro e w' ⟨rfl, rfl⟩; rw [HE.out])
      | (go_at_call 11; (with_reducible refine (HA.out).mono ?_); rintro e w1 ⟨D1, d1, D2, d2, D3, d3, rfl, q1, q2, q3, hb1⟩; have Q1 := Lib.hid q1; have Q2 := Lib.hid q2; have Q3 := Lib.hid q3; have B1 := Lib.hid hb1; clear q1 q2 q3 hb1)
      | (go_at_call 13; (with_reducible refine (HR.out _ B1.out).mono ?_); rintro e w2 ⟨A2, c2, rfl, hR2, hb2⟩; have R2 := Lib.hid hR2; have B2 := Lib.hid (bel_trans B1.out hb2); have C2 := Lib.hid (hb2); clear hR2 hb2)
      | (go_at_call 12; (with_reducible refine (same8_any _ _ n _ _ (tellL 0 numR xs) (by omega) _ ?_ ?_).mono ?_); exact R2.out; exact (Q1.out.below (C2.out)).more C2.out.size; rintro e w3 ⟨rfl, hb3⟩; have B3 := Lib.hid (bel_trans B2.out hb3); have C3 := Lib.hid (bel_trans C2.out hb3); clear hb3)
      | (go_at_call 15; (with_reducible refine (HB.out _ B3.out).mono ?_); rintro e w4 ⟨A4, c4, rfl, hR4, hb4⟩; have R4 := Lib.hid hR4; have B4 := Lib.hid (bel_trans B3.out hb4); have C4 := Lib.hid (bel_trans C3.out hb4); clear hR4 hb4)
      | (go_at_call 14; (with_reducible refine (same1_any _ _ n _ _ (tellL false mayR xs) (by omega) _ ?_ ?_).mono ?_); exact R4.out; exact (Q2.out.below (C4.out)).more C4.out.size; rintro e w5 ⟨rfl, hb5⟩; have B5 := Lib.hid (bel_trans B4.out hb5); have C5 := Lib.hid (bel_trans C4.out hb5); clear hb5)
      | (go_at_call 16; (with_reducible refine (HM.out _ B5.out).mono ?_); rintro e w6 ⟨A6, c6, rfl, hR6, hb6⟩; have R6 := Lib.hid hR6; have B6 := Lib.hid (bel_trans B5.out hb6); have C6 := Lib.hid (bel_trans C5.out hb6); clear hR6 hb6)
      | (go_at_call 14; (with_reducible refine (same1_any _ _ n _ _ (tellL false mustR xs) (by omega) _ ?_ ?_).mono ?_); exact R6.out; exact (Q3.out.below (C6.out)).more C6.out.size; rintro e w7 ⟨rfl, hb7⟩; have B7 := Lib.hid (bel_trans B6.out hb7); have C7 := Lib.hid (bel_trans C6.out hb7); clear hb7)
      | (go_at_call 10; refine (head_any _).mono ?_; rintro e w8 ⟨rfl, hb8⟩))
    go_ret
    exact ⟨rfl, bel_trans B7.out hb8⟩
end Go.Proofs.Ytlobedonclimbaa.Pair

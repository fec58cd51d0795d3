/- Chapter 2: the reference's Same, walked. No condition but bounds. -/
import Derived.Test.YtbafdijklcoeoaaDoorChar
import Derived.Test.YtbafdijklcoeoaaDoorUtfRa
namespace Go.Proofs.YtbafdijklcoeoaaDoor.Utf
open Go.RowKit
set_option linter.unusedVariables false
set_option linter.unusedSimpArgs false

set_option maxHeartbeats 4000000 in
set_option maxRecDepth 100000 in
theorem same_any (A A2 : Option Addr) (n m c d B : Nat) (xs ys : List Cr) (w : World) (hl : xs.length = n) (hm : ys.length = m) (hr : Reads w B 5 A n (crL xs)) (hs : Reads w B 5 A2 m (crL ys)) (hn : n ≤ 1000000000) (hn2 : m ≤ 1000000000) :
    Calls Tryd.prog 11 #[.slice A n c, .slice A2 m d] w fun e w' => e = .returned (.bool (sameCr xs ys)) ∧ Drawn w w' := by
  by_cases hnm : n = m
  · subst hnm
    have HL := Lib.hid hl
    have HM := Lib.hid hm
    have HR := Lib.hid hr
    have HS := Lib.hid hs
    clear hl hr hm hs
    have q0 : ((n : Int) != (n : Int)) = false := by simp
    go_enter Tryd.func11, Tryd.ntmps11
    go_wp2
    go_loopw [5] (fun i wr => ∃ k : Nat, k ≤ n ∧ i = .int .i64 k ∧ Hid (xs = ys ↔ xs.drop k = ys.drop k) ∧ Drawn w wr) (fun i wr => n - (intOf i).toNat)
    case atStart => exact ⟨0, by omega, rfl, Iff.rfl, Drawn.refl _⟩
    case round =>
      obtain ⟨k, hk, rfl, HK, ⟨m, rfl⟩⟩ := hrel
      by_cases hlt : k < n
      · obtain ⟨ad, x, rfl, _, hx, cx⟩ := reads_cr HR.out hlt
        obtain ⟨ad2, y, rfl, _, hy, cy⟩ := reads_cr HS.out hlt
        have ST := Lib.hid (step_cr xs ys k x y hx hy)
        clear hx hy
        obtain ⟨a0, a1, a2, a3, a4⟩ := cx
        obtain ⟨b0, b1, b2, b3, b4⟩ := cy
        have q1 : (k : Int) < (n : Int) := by omega
        have q2 : (0 : Int) ≤ k := by omega
        have NQ := fun (W : World) => neq_cr W x y
        obtain ⟨b, hb⟩ : ∃ b, decide (x = y) = b := ⟨_, rfl⟩
        rw [hb] at NQ
        have HB := Lib.hid hb
        clear hb
        obtain ⟨x0, x1, x2, x3, x4⟩ := x
        obtain ⟨y0, y1, y2, y3, y4⟩ := y
        simp only at NQ a0 a1 a2 a3 a4 b0 b1 b2 b3 b4
        cases b
        · go_wp2
          go_quiet (fail)
          go_wp2
          go_ret
          exact ⟨ret_bool (by rw [sameCr, decide_eq_false]; exact fun h => (of_decide_eq_false HB.out) (ST.out.1 (HK.out.1 h)).1), by first | exact ⟨⟨_, rfl⟩⟩ | exact Drawn.two _ _ _⟩
        · go_wp2
          go_quiet (fail)
          go_wp2
          go_roundw
          case rel => exact ⟨k + 1, by omega, by go_num, HK.out.trans (ST.out.trans ⟨fun h => h.2, fun h => ⟨of_decide_eq_true HB.out, h⟩⟩), ⟨⟨_, rfl⟩⟩⟩
          case measure => simp [intOf]; omega
      · obtain rfl : k = n := by omega
        go_wp2
        go_ret
        exact ⟨ret_bool (by rw [sameCr, decide_eq_true]; exact HK.out.2 (by rw [List.drop_of_length_le (by rw [HL.out]; omega), List.drop_of_length_le (by rw [HM.out]; omega)])), ⟨⟨_, rfl⟩⟩⟩
  · have q0 : ((n : Int) != (m : Int)) = true := by rw [bne_iff_ne]; omega
    have HF := Lib.hid (show sameCr xs ys = false from decide_eq_false fun h => hnm (by rw [← hl, ← hm, h]))
    clear hr hs
    go_enter Tryd.func11, Tryd.ntmps11
    go_wp2
    go_ret
    exact ⟨ret_bool HF.out.symm, Drawn.refl _⟩
end Go.Proofs.YtbafdijklcoeoaaDoor.Utf

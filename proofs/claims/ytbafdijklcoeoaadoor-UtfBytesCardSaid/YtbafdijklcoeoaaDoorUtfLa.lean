/- Chapter 2: UtfDecodes, walked. -/
import Derived.Test.YtbafdijklcoeoaaDoorUtfSa
namespace Go.Proofs.YtbafdijklcoeoaaDoor.Utf
open Go.RowKit
set_option linter.unusedVariables false
set_option linter.unusedSimpArgs false

theorem Tabs.three {w : World} (h : Tabs w) : 3 ≤ w.heap.size := by
  rcases Nat.lt_or_ge 2 w.heap.size with h' | h'
  · exact h'
  · have := h.sec 0 (by decide)
    simp [World.cell?, Array.getElem?_eq_none h'] at this
theorem refDecode_cr (l : List UInt8) (hl : l.length ≤ 1000000000) (w : World) (n : Nat) (cs : List Ch) (hc : chs l 0 = cs) (hn : cs.length = n) :
    Calls Tryd.prog 12 #[strV l] w fun e w' => ∃ A c, e = .returned (.slice A n c) ∧ w'.ownsRow w.heap.size 32 5 (.slice A n c) n (crL (cs.map toCr)) ∧ Below w.heap.size w w' := by
  refine (refDecode_any l hl w).mono ?_
  rintro e w' ⟨v, rfl, ho, hb⟩
  rw [chC_cr, hc, hn] at ho
  obtain ⟨A, c, rfl⟩ := own_shape ho
  exact ⟨A, c, rfl, ho, hb⟩
theorem ret_true (w : World) {b : Bool} (h : b = true) : Ending.returned (Value.bool b) = .returned (.bool true) := by rw [h]
set_option maxHeartbeats 4000000 in
set_option maxRecDepth 100000 in
theorem UtfDecodes_any (l : List UInt8) (hm : l.length ≤ 140737488351232) (w : World) (hT : Tabs w) :
    Calls Tryd.prog 3 #[strV l] w fun e w' => e = .returned (.bool true) ∧ Below w.heap.size w w' := by
  have gl : (⟨l.toArray⟩ : ByteArray).size = l.length := rfl
  have G0 := Lib.hid hT.three
  by_cases h : l.length ≤ 5000
  · have q1 : decide ((5000 : Int) < (l.length : Int)) = false := decide_eq_false (by omega)
    have q2 : ¬ (5000 < l.length) := by omega
    have hl : l.length ≤ 1000000000 := by omega
    obtain ⟨n, hn⟩ : ∃ n, (chs l 0).length = n := ⟨_, rfl⟩
    have ln : n ≤ 1000000000 := by have := chs_len l 0; omega
    have D1 := Lib.hid (fun (W : World) (h : Tabs W) => Decode_cr l hl W h h.three n (chs l 0) rfl hn)
    have D2 := Lib.hid (fun (W : World) => refDecode_cr l hl W n (chs l 0) rfl hn)
    have D3 := Lib.hid (fun (W : World) (h : Tabs W) => Count_any l hl W h h.three)
    have D4 := Lib.hid (fun (W : World) (h : Tabs W) => Valid_any l hl W h h.three)
    have D5 := Lib.hid (fun (W : World) => refValid_any l hl W)
    rw [hn] at D3
    have HS := Lib.hid (fun (A A2 : Option Addr) (c d : Nat) (W : World) (hr : Reads W W.heap.size 5 A n (crL ((chs l 0).map toCr))) (hs : Reads W W.heap.size 5 A2 n (crL ((chs l 0).map toCr))) => (same_any A A2 n n c d W.heap.size _ _ W (by rw [List.length_map, hn]) (by rw [List.length_map, hn]) hr hs ln ln).mono fun e w' h => (⟨by rw [h.1]; unfold sameCr; simp, h.2.below⟩ : e = .returned (.bool true) ∧ Below W.heap.size W w'))
    have T0 := Lib.hid hT
    generalize allOk (chs l 0) = ok at D4 D5
    generalize crL ((chs l 0).map toCr) = cells at D1 D2 HS
    have NN : ((n : Int) == (n : Int)) = true := by simp
    have OO : (ok == ok) = true := by simp
    have HH := Lib.hid (fun (W : World) (h : Tabs W) => head_any W h h.three)
    clear hT h hm hl hn
    go_enter Tryd.func3, Tryd.ntmps3
    go_wp2_with (first
      | (go_at_call 10; (with_reducible refine (D1.out _ T0.out).mono ?_); rintro e w1 ⟨A1, c1, rfl, o1, b1⟩; have O1 := Lib.hid o1; have T1 := Lib.hid (T0.out.below b1); have B1 := Lib.hid b1; clear o1 b1)
      | (go_at_call 12; (with_reducible refine (D2.out _).mono ?_); rintro e w2 ⟨A2, c2, rfl, o2, b2⟩; have O2 := Lib.hid o2; have T2 := Lib.hid (T1.out.below b2); have B2 := Lib.hid (bel_trans B1.out b2); have P1 := Lib.hid (own_below O1.out b2); clear o2 b2)
      | (go_at_call 11; (with_reducible refine (HS.out _ _ _ _ _ (own_reads P1.out) (own_reads O2.out)).mono ?_); rintro e w3 ⟨rfl, b3⟩; have T3 := Lib.hid (T2.out.below b3); have B3 := Lib.hid (bel_trans B2.out b3); clear b3)
      | (go_at_call 13; (with_reducible refine (D3.out _ T3.out).mono ?_); rintro e w4 ⟨rfl, b4⟩; have T4 := Lib.hid (T3.out.below b4); have B4 := Lib.hid (bel_trans B3.out b4); clear b4)
      | (go_at_call 14; (with_reducible refine (D4.out _ T4.out).mono ?_); rintro e w5 ⟨rfl, b5⟩; have T5 := Lib.hid (T4.out.below b5); have B5 := Lib.hid (bel_trans B4.out b5); clear b5)
      | (go_at_call 15; (with_reducible refine (D5.out _).mono ?_); rintro e w6 ⟨rfl, b6⟩; have T6 := Lib.hid (T5.out.below b6); have B6 := Lib.hid (bel_trans B5.out b6); clear b6)
      | (go_at_call 9; (with_reducible refine (HH.out _ T6.out).mono ?_); rintro e w7 ⟨rfl, b7⟩; have B7 := Lib.hid (bel_trans B6.out b7); clear b7))
    go_ret
    exact ⟨rfl, B7.out⟩
  · have q1 : decide ((5000 : Int) < (l.length : Int)) = true := decide_eq_true (by omega)
    have q2 : 5000 < l.length := by omega
    have HH := Lib.hid (fun (W : World) (h : Tabs W) => head_any W h h.three)
    have T0 := Lib.hid hT
    clear hT hm h
    go_enter Tryd.func3, Tryd.ntmps3
    go_wp2_with (go_at_call 9; (with_reducible refine (HH.out _ T0.out).mono ?_); rintro e w7 ⟨rfl, b7⟩; have B7 := Lib.hid b7; clear b7)
    go_ret
    exact ⟨rfl, B7.out⟩
end Go.Proofs.YtbafdijklcoeoaaDoor.Utf

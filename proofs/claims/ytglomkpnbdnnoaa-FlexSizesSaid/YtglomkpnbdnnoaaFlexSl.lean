/- Chapter 23: the law FlexSizes, walked. No condition but that numbers may come in. -/
import Derived.Test.YtglomkpnbdnnoaaFlexSs
namespace Go.Proofs.Ytglomkpnbdnnoaa.Flex
open Go.RowKit Go.Proofs.Ytglomkpnbdnnoaa.Unit Go.Proofs.Ytglomkpnbdnnoaa.Div
set_option linter.unusedVariables false
set_option linter.unusedSimpArgs false
set_option maxHeartbeats 16000000 in
set_option maxRecDepth 100000 in
theorem FlexSizes_any (A : Option Addr) (n c : Nat) (xs : List It) (room : Int) (w : World) (hr : Reads w w.heap.size 4 A n (itL xs)) :
    Calls Try.prog 3 #[.slice A n c, .int .i64 room] w fun e w' => e = .returned (.bool true) ∧ Below w.heap.size w w' := by
  have HH := Lib.hid (fun V => head_any V)
  by_cases hg : n ≤ 60
  · have q0 : decide ((60 : Int) < (n : Int)) = false := decide_eq_false (by omega)
    have HSz := Lib.hid (Sizes_any A n c xs hg room w hr)
    have HRf := Lib.hid (fun V (h : Below w.heap.size w V) => refSizes_any A n c xs hg room V ((hr.below h).more h.size))
    have hlen : (ansS xs room).length ≤ 60 := by
      unfold ansS
      split
      · rw [sizesL_len, len_it hr]; exact hg
      · simp
    unfold PS at HSz HRf
    obtain ⟨an, han⟩ : ∃ an, ansS xs room = an := ⟨_, rfl⟩
    obtain ⟨er, her⟩ : ∃ er, errS xs room = er := ⟨_, rfl⟩
    rw [han, her] at HSz HRf
    rw [han] at hlen
    obtain ⟨m, hm⟩ : ∃ m, an.length = m := ⟨_, rfl⟩
    rw [hm] at HSz HRf hlen
    have HSa := Lib.hid (fun (A1 A2 : Option Addr) (c1 c2 : Nat) (V : World) (r1 : Reads V V.heap.size 1 A1 m (an.map (Value.int .i64))) (r2 : Reads V V.heap.size 1 A2 m (an.map (Value.int .i64))) =>
      (same_any A1 A2 m m c1 c2 V.heap.size an an V hm hm r1 r2 (by omega) (by omega)).mono fun e w' h => (⟨by rw [h.1]; unfold same64; simp, h.2.below⟩ : e = .returned (.bool true) ∧ Below V.heap.size V w'))
    have qe : (er == er) = true := by simp
    clear hr han her hm hlen
    go_enter Try.func3, Try.ntmps3
    go_wp2_with (first
      | (go_at_call 10; (with_reducible refine HSz.out.mono ?_); rintro e w1 ⟨⟨A1, c1, rfl, r⟩, b⟩; have R1 := Lib.hid r; have B1 := Lib.hid b; clear r b)
      | (go_at_call 11; (with_reducible refine (HRf.out w1 B1.out).mono ?_); rintro e w2 ⟨⟨A2, c2, rfl, r⟩, b⟩; have R2 := Lib.hid r; have R1' := Lib.hid ((R1.out.below b).more b.size); have B2 := Lib.hid (bel_trans B1.out b); clear r b)
      | (go_at_call 12; (with_reducible refine (HSa.out A1 A2 c1 c2 w2 R1'.out R2.out).mono ?_); rintro e w3 ⟨rfl, b⟩; have B3 := Lib.hid (bel_trans B2.out b); clear b)
      | (go_at_call 9; (with_reducible refine (HH.out _).mono ?_); rintro e w9 ⟨rfl, b⟩; have T6 := Lib.hid (bel_trans B3.out b); clear b))
    go_ret
    exact ⟨rfl, T6.out⟩
  · have q0 : decide ((60 : Int) < (n : Int)) = true := decide_eq_true (by omega)
    clear hr
    go_enter Try.func3, Try.ntmps3
    go_wp2_with (go_at_call 9; (with_reducible refine (HH.out _).mono ?_); rintro e w9 ⟨rfl, b⟩; have T6 := Lib.hid b; clear b)
    go_ret
    exact ⟨rfl, T6.out⟩
end Go.Proofs.Ytglomkpnbdnnoaa.Flex

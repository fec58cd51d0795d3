/- Chapter 2: the program's Encode, walked. No condition but bounds. -/
import Derived.Test.YtbafdijklcoeoaaDoorUtfT
namespace Go.Proofs.YtbafdijklcoeoaaDoor.Utf
open Go.RowKit
set_option linter.unusedVariables false
set_option linter.unusedSimpArgs false

theorem cells_app (a b : List UInt8) : Lib.byteCells (a ++ b) = Lib.byteCells a ++ Lib.byteCells b := by unfold Lib.byteCells; rw [List.map_append]
theorem cells_one (x : Int) : Lib.runeCells x = Lib.byteCells (oneL x) := (Lib.byteCells_encodeRune x).symm
theorem cells_len (a : List UInt8) : (Lib.byteCells a).length = a.length := by unfold Lib.byteCells; rw [List.length_map]
theorem isB_fresh (w : World) : Lib.IsBuilder 44 5 w.heap.size w.heap.size (Lib.byteCells []) (w.alloc (.cells #[.pointer none, .slice none 0 0] 44)) := Lib.fresh_isBuilder _ _ w
set_option maxHeartbeats 4000000 in
set_option maxRecDepth 20000 in
theorem Encode_any (A : Option Addr) (n c : Nat) (xs : List Int) (w : World) (hr : Reads w w.heap.size 1 A n (xs.map (Value.int .i32))) (hx : xs.length = n) (h0 : ∀ x ∈ xs, -2147483648 ≤ x ∧ x ≤ 2147483647) (hn : n ≤ 1000000) :
    Calls Tryd.prog 16 #[.slice A n c] w fun e w' => e = .returned (strV (encL xs)) ∧ Below w.heap.size w w' := by
  have HR := Lib.hid hr
  have HX := Lib.hid hx
  have H0 := Lib.hid h0
  have hn1 : (n : Int) ≤ 1000000 := by omega
  have HI := Lib.hid (isB_fresh w)
  have HB0 := Lib.hid (bel_alloc (Below.refl w.heap.size w) (.cells #[.pointer none, .slice none 0 0] 44))
  clear hr hx h0
  go_enter Tryd.func16, Tryd.ntmps16
  go_wp2_with (fail)
  go_loopw [5, 8] (fun r i wr => ∃ j : Nat, i = .int .i64 j ∧ j ≤ n ∧ Hid (Lib.IsBuilder 44 5 w.heap.size w.heap.size (Lib.byteCells (encN xs j)) wr) ∧ Hid (Below w.heap.size w wr)) (fun _ i _ => n - (intOf i).toNat)
  case atStart => exact ⟨0, rfl, Nat.zero_le _, HI, HB0⟩
  case round =>
    obtain ⟨j, rfl, hj, HI1, HB⟩ := hrel
    by_cases hlt : j < n
    · obtain ⟨ad, u, rfl, hb, hxu, hc⟩ := HR.out.at_ hlt
      rw [List.getElem?_map] at hxu
      obtain ⟨x, hxj, rfl⟩ := Option.map_eq_some_iff.1 hxu
      have c0 : wr.cell? (ad.add j) = some (.int .i32 x) := (HB.out.cell (by rw [block_of_add]; exact hb)).trans hc
      have HS := Lib.hid (encN_succ hxj)
      have HW := Lib.hid (WriteRune_any w.heap.size w.heap.size (Lib.byteCells (encN xs j)) x (H0.out x (List.mem_of_getElem? hxj)).1 (H0.out x (List.mem_of_getElem? hxj)).2 wr HI1.out (by rw [cells_len]; have := encN_len xs j; omega) HB.out.size)
      rw [cells_one, ← cells_app, ← HS.out] at HW
      clear hxu hc hxj
      go_wp2_with (go_at_call 23; refine HW.out.mono ?_; rintro e w3 ⟨rfl, hi3, hb3⟩; have HI3 := Lib.hid hi3; have HB3 := Lib.hid (HB.out.trans hb3); clear hb3 hi3)
      go_roundw
      case rel => exact ⟨j + 1, by go_num, by omega, HI3, HB3⟩
      case measure => simp [intOf]; omega
    · obtain rfl : j = n := by omega
      have HE := Lib.hid (show encN xs j = encL xs by rw [← HX.out]; exact encN_encL xs)
      rw [HE.out] at HI1
      have HW := Lib.hid (Tryd.Builder_String_any w.heap.size w.heap.size (encL xs) wr HI1.out HB.out.size)
      go_wp2_with (go_at_call 24; refine HW.out.mono ?_; rintro e w3 ⟨rfl, hb3⟩; have HB3 := Lib.hid (HB.out.trans hb3); clear hb3)
      go_ret
      exact ⟨rfl, HB3.out⟩
end Go.Proofs.YtbafdijklcoeoaaDoor.Utf

/- Chapter 19: shift.Shift, its table of ways, shift.Moved, and the reference's Shift, walked. No condition. -/
import Derived.Test.YtdjbcbdgcejcmaaMay
import Derived.Test.YtdjbcbdgcejcmaaHalf
import Derived.Great.Walk
import Derived.Great.BuildSlice
import Derived.Great.CaseRows
import Derived.Deep.WholeRow
namespace Go.Proofs.Ytdjbcbdgcejcmaa.Unit
open Go.RowKit Go.Proofs.Ytdjbcbdgcejcmaa.Div Go.Great
set_option linter.unusedVariables false

def waysC : Array Value := #[.func (.func 16) #[] #[], .int .u8 0, .func (.func 17) #[] #[], .int .u8 0, .func (.func 19) #[] #[], .int .u8 0, .func (.func 20) #[] #[], .int .u8 0, .func (.func 21) #[] #[], .int .u8 0,
  .func (.func 22) #[] #[], .int .u8 0, .func (.func 24) #[] #[], .int .u8 0, .func (.func 25) #[] #[], .int .u8 0, .func (.func 16) #[] #[], .int .u8 1, .func (.func 16) #[] #[], .int .u8 2]
def waysZ : Array Value := #[.nilFunc, .int .u8 0, .nilFunc, .int .u8 0, .nilFunc, .int .u8 0, .nilFunc, .int .u8 0, .nilFunc, .int .u8 0, .nilFunc, .int .u8 0, .nilFunc, .int .u8 0, .nilFunc, .int .u8 0, .nilFunc, .int .u8 0, .nilFunc, .int .u8 0]
set_option maxHeartbeats 1000000 in
theorem ways_any (w : World) : Calls Try.prog 10 #[] w fun e w' => e = .returned (.agg waysC) ∧ Below w.heap.size w w' := by
  go_enter Try.func10, Try.ntmps10
  go_wp2_with ((refine wpList_store_rowTo rfl 41 _ _ rfl rfl w.heap.size waysC (by rfl) (by rfl) 41 waysZ (heap_alloc_new w _) (by kernel_rfl) (by kernel_rfl) (by kernel_rfl) ?_); rw [World.setRow_alloc_new])

  refine bodyPost_ret (v := .agg waysC) (results_cell_row rfl _ _ w.heap.size 41 waysC (0, 0) (.array 10 40) rfl (heap_alloc_new w _) (by kernel_rfl) rfl (by kernel_rfl)) rfl ⟨rfl, bel_alloc (Below.refl _ _) _⟩

/-! ### may -/
def allU (l : List Int) : Bool := l.all mayU
theorem allU_take (l : List Int) (k : Nat) (h : k < l.length) : allU (l.take (k + 1)) = (allU (l.take k) && mayU (l[k]?.getD 0)) := by
  simp only [allU]
  rw [List.take_succ_eq_append_getElem h, List.getElem?_eq_getElem h, List.all_append]
  simp
theorem allU_not (l : List Int) (k : Nat) (h : k < l.length) (hx : mayU (l[k]?.getD 0) = false) : allU l = false := by
  rw [List.getElem?_eq_getElem h] at hx
  exact List.all_eq_false.2 ⟨_, List.getElem_mem h, by simpa using hx⟩
theorem reads_int {w : World} {A : Option Addr} {n k : Nat} {xs : List Int} (hl : xs.length = n) (hr : Reads w w.heap.size 1 A n (xs.map (Value.int .i64))) (hk : k < n) : ∃ ad, A = some ad ∧ ad.block < w.heap.size ∧ w.cell? (ad.add k) = some (.int .i64 (xs[k]?.getD 0)) := by
  obtain ⟨ad, u, rfl, hb, hu, hc⟩ := hr.at_ hk
  refine ⟨ad, rfl, hb, ?_⟩
  rw [hc, ← hu, List.getElem?_map, List.getElem?_eq_getElem (by omega)]
  rfl

set_option maxHeartbeats 1000000 in
theorem shMay_any (A : Option Addr) (n c : Nat) (xs : List Int) (w : World) (hl : xs.length = n) (hr : Reads w w.heap.size 1 A n (xs.map (Value.int .i64))) (hn : n ≤ 1000000) :
    Calls Try.prog 11 #[.slice A n c] w fun e w' => e = .returned (.bool (allU xs)) ∧ Drawn w w' := by
  have HL := Lib.hid hl
  have HR := Lib.hid hr
  clear hl hr
  go_enter Try.func11, Try.ntmps11
  go_wp2
  go_loopw [7] (fun i wr => ∃ k : Nat, i = .int .i64 k ∧ k ≤ n ∧ Hid (allU (xs.take k) = true) ∧ Drawn w wr) (fun i wr => n - (intOf i).toNat)
  case atStart => exact ⟨0, rfl, by omega, Lib.hid rfl, Drawn.refl _⟩
  case round =>
    obtain ⟨k, rfl, hk, HA, ⟨m, rfl⟩⟩ := hrel
    by_cases hlt : k < n
    · obtain ⟨ad, rfl, _, hc0⟩ := reads_int HL.out HR.out hlt
      have TK := Lib.hid (allU_take xs k (by rw [HL.out]; exact hlt))
      have TN := Lib.hid (allU_not xs k (by rw [HL.out]; exact hlt))
      generalize xs[k]?.getD 0 = x at hc0 TK TN
      cases hm : mayU x with
      | true =>
        have HM := Lib.hid hm
        clear hm
        go_wp2_with (go_at_call 26; refine (unitMay_any _ _).mono ?_; rintro e w1 ⟨rfl, rfl⟩; rw [HM.out])
        go_roundw
        case rel => exact ⟨k + 1, by go_num, by omega, Lib.hid (by rw [TK.out, HA.out, HM.out]; rfl), ⟨⟨_, rfl⟩⟩⟩
        case measure => simp [intOf]; omega
      | false =>
        have HF := Lib.hid (TN.out hm)
        have HM := Lib.hid hm
        clear hm
        go_wp2_with (go_at_call 26; refine (unitMay_any _ _).mono ?_; rintro e w1 ⟨rfl, rfl⟩; rw [HM.out])
        go_ret
        exact ⟨ret_bool HF.out.symm, ⟨⟨_, rfl⟩⟩⟩
    · obtain rfl : k = n := by omega
      have hA := HA.out
      rw [List.take_of_length_le (by rw [HL.out]; omega)] at hA
      have HF := Lib.hid hA
      clear hA
      go_wp2
      go_ret
      exact ⟨ret_bool HF.out.symm, ⟨⟨_, rfl⟩⟩⟩
set_option maxHeartbeats 1000000 in
theorem rMay_any (A : Option Addr) (n c : Nat) (xs : List Int) (w : World) (hl : xs.length = n) (hr : Reads w w.heap.size 1 A n (xs.map (Value.int .i64))) (hn : n ≤ 1000000) :
    Calls Try.prog 12 #[.slice A n c] w fun e w' => e = .returned (.bool (allU xs)) ∧ Drawn w w' := by
  have HL := Lib.hid hl
  have HR := Lib.hid hr
  clear hl hr
  go_enter Try.func12, Try.ntmps12
  go_wp2
  go_loopw [3] (fun i wr => ∃ k : Nat, i = .int .i64 k ∧ k ≤ n ∧ Hid (allU (xs.take k) = true) ∧ Drawn w wr) (fun i wr => n - (intOf i).toNat)
  case atStart => exact ⟨0, rfl, by omega, Lib.hid rfl, Drawn.refl _⟩
  case round =>
    obtain ⟨k, rfl, hk, HA, ⟨m, rfl⟩⟩ := hrel
    by_cases hlt : k < n
    · obtain ⟨ad, rfl, _, hc0⟩ := reads_int HL.out HR.out hlt
      have TK := Lib.hid (allU_take xs k (by rw [HL.out]; exact hlt))
      have TN := Lib.hid (allU_not xs k (by rw [HL.out]; exact hlt))
      generalize xs[k]?.getD 0 = x at hc0 TK TN
      cases hm : mayU x with
      | true =>
        have HM := Lib.hid hm
        clear hm
        go_wp2_with (go_at_call 27; refine (refMay_any _ _).mono ?_; rintro e w1 ⟨rfl, rfl⟩; rw [HM.out])
        go_roundw
        case rel => exact ⟨k + 1, by go_num, by omega, Lib.hid (by rw [TK.out, HA.out, HM.out]; rfl), ⟨⟨_, rfl⟩⟩⟩
        case measure => simp [intOf]; omega
      | false =>
        have HF := Lib.hid (TN.out hm)
        have HM := Lib.hid hm
        clear hm
        go_wp2_with (go_at_call 27; refine (refMay_any _ _).mono ?_; rintro e w1 ⟨rfl, rfl⟩; rw [HM.out])
        go_ret
        exact ⟨ret_bool HF.out.symm, ⟨⟨_, rfl⟩⟩⟩
    · obtain rfl : k = n := by omega
      have hA := HA.out
      rw [List.take_of_length_le (by rw [HL.out]; omega)] at hA
      have HF := Lib.hid hA
      clear hA
      go_wp2
      go_ret
      exact ⟨ret_bool HF.out.symm, ⟨⟨_, rfl⟩⟩⟩
end Go.Proofs.Ytdjbcbdgcejcmaa.Unit

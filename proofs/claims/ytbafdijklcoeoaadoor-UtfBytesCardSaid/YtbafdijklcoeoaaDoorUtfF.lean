/- Chapter 2: the bytes of numbers, by the reference, walked. No condition but bounds. -/
import Derived.Test.YtbafdijklcoeoaaDoorUtfE
namespace Go.Proofs.YtbafdijklcoeoaaDoor.Utf
open Go.RowKit
set_option linter.unusedVariables false
set_option linter.unusedSimpArgs false

theorem str_app (a b : List UInt8) : (⟨a.toArray⟩ : ByteArray) ++ ⟨b.toArray⟩ = ⟨(a ++ b).toArray⟩ := by
  apply ByteArray.ext
  simp
/-- The bytes of the first numbers. -/
def encN (xs : List Int) (j : Nat) : List UInt8 := (xs.take j).flatMap oneL
theorem encN_succ {xs : List Int} {j : Nat} {x : Int} (h : xs[j]? = some x) : encN xs (j + 1) = encN xs j ++ oneL x := by
  obtain ⟨hj, rfl⟩ := List.getElem?_eq_some_iff.1 h
  unfold encN
  rw [List.take_succ_eq_append_getElem hj, List.flatMap_append, List.flatMap_cons, List.flatMap_nil, List.append_nil]
theorem oneL_len (x : Int) : (oneL x).length ≤ 4 := by
  unfold oneL Lib.encodeRuneZ
  rw [List.length_map]
  repeat' split
  all_goals simp
theorem encN_len (xs : List Int) (j : Nat) : (encN xs j).length ≤ 4 * j := by
  have key : ∀ l : List Int, (l.flatMap oneL).length ≤ 4 * l.length := by
    intro l
    induction l with
    | nil => simp
    | cons x l ih => rw [List.flatMap_cons, List.length_append, List.length_cons]; have := oneL_len x; omega
  have := key (xs.take j)
  have h2 := List.length_take_le j xs
  unfold encN
  omega
set_option maxHeartbeats 4000000 in
theorem refEncode_any (A : Option Addr) (n c : Nat) (xs : List Int) (w : World) (hr : Reads w w.heap.size 1 A n (xs.map (Value.int .i32))) (hx : xs.length = n) (h0 : ∀ x ∈ xs, -2147483648 ≤ x ∧ x ≤ 2147483647) (hn : n ≤ 1000000) :
    Calls Tryd.prog 17 #[.slice A n c] w fun e w' => e = .returned (strV (encN xs n)) ∧ Below w.heap.size w w' := by
  have HR := Lib.hid hr
  have HX := Lib.hid hx
  have H0 := Lib.hid h0
  have hn1 : (n : Int) ≤ 1000000 := by omega
  have S1 := str_app
  clear hr hx h0
  go_enter Tryd.func17, Tryd.ntmps17
  go_wp2_with (fail)
  go_loopw [3, 4] (fun s i wr => ∃ j : Nat, i = .int .i64 j ∧ j ≤ n ∧ s = strV (encN xs j) ∧ Hid (Below w.heap.size w wr)) (fun _ i _ => n - (intOf i).toNat)
  case atStart => exact ⟨0, rfl, Nat.zero_le _, by simp [encN], Lib.hid (Below.refl _ _)⟩
  case round =>
    obtain ⟨j, rfl, hj, rfl, HB⟩ := hrel
    by_cases hlt : j < n
    · obtain ⟨ad, u, rfl, hb, hxu, hc⟩ := HR.out.at_ hlt
      rw [List.getElem?_map] at hxu
      obtain ⟨x, hxj, rfl⟩ := Option.map_eq_some_iff.1 hxu
      have c0 : wr.cell? (ad.add j) = some (.int .i32 x) := (HB.out.cell (by rw [block_of_add]; exact hb)).trans hc
      have HC := Lib.hid (fun W => one_any x W (H0.out x (List.mem_of_getElem? hxj)))
      have HS := Lib.hid (encN_succ hxj)
      have HL := encN_len xs (j + 1)
      rw [HS.out, List.length_append] at HL
      have l1 : (((encN xs j).length + (oneL x).length : Nat) : Int) ≤ 4000000 := by omega
      clear hxu hc hxj HL
      go_wp2_with (go_at_call 25; refine (HC.out _).mono ?_; rintro e w3 ⟨rfl, hb3⟩; have HB3 := Lib.hid (bel_trans HB.out hb3); clear hb3)
      go_roundw
      case rel => exact ⟨j + 1, by go_num, by omega, by rw [HS.out], HB3⟩
      case measure => simp [intOf]; omega
    · obtain rfl : j = n := by omega
      go_wp2_with (fail)
      go_ret
      exact ⟨rfl, HB.out⟩
end Go.Proofs.YtbafdijklcoeoaaDoor.Utf

/- Chapter 9: equal lists are found the same; the head of the laws. No condition but bounds. -/
import Derived.Test.YtlobedonclimbaaPairU
namespace Go.Proofs.Ytlobedonclimbaa.Pair
open Go.RowKit
set_option linter.unusedVariables false

theorem reads_any {w : World} {A : Option Addr} {n k B : Nat} {xs : List Value} (hr : Reads w B 1 A n xs) (hk : k < n) : ∃ ad u, A = some ad ∧ ad.block < B ∧ xs[k]? = some u ∧ w.cell? (ad.add k) = some u := hr.at_ hk
set_option maxHeartbeats 4000000 in
theorem same8_any (A B : Option Addr) (n c d : Nat) (xs : List Int) (hn : n ≤ 1000000) (w : World) (h1 : Reads w w.heap.size 1 A n (xs.map (Value.int .u8))) (h2 : Reads w w.heap.size 1 B n (xs.map (Value.int .u8))) :
    Calls Try.prog 12 #[.slice A n c, .slice B n d] w fun e w' => e = .returned (.bool true) ∧ Below w.heap.size w w' := by
  have R1 := Lib.hid h1
  have R2 := Lib.hid h2
  have HL := Lib.hid (show xs.length = n by have := h1.1; simpa using this)
  clear h1 h2
  have q0 : ((n : Int) != (n : Int)) = false := by simp
  go_enter Try.func12, Try.ntmps12
  go_wp2
  go_loopw [5] (fun i wr => ∃ k : Nat, i = .int .i64 k ∧ k ≤ n ∧ Drawn w wr) (fun i wr => n - (intOf i).toNat)
  case atStart => exact ⟨0, rfl, by omega, Drawn.refl _⟩
  case round =>
    obtain ⟨k, rfl, hk, hd⟩ := hrel
    by_cases hlt : k < n
    · have hx : xs[k]? = some (xs[k]'(by rw [HL.out]; exact hlt)) := List.getElem?_eq_getElem (by rw [HL.out]; exact hlt)
      obtain ⟨a1, u1, rfl, _, e1, g1⟩ := R1.out.at_ hlt
      obtain ⟨a2, u2, rfl, _, e2, g2⟩ := R2.out.at_ hlt
      rw [List.getElem?_map, hx] at e1 e2
      cases e1
      cases e2
      generalize xs[k]'(by rw [HL.out]; exact hlt) = x at g1 g2
      clear hx
      obtain ⟨m, rfl⟩ := hd
      have g1 : (w.drewN m).cell? (a1.add k) = some (Value.int .u8 x) := g1
      have g2 : (w.drewN m).cell? (a2.add k) = some (Value.int .u8 x) := g2
      have i0 : (0 : Int) ≤ k := by omega
      have i1 : (k : Int) < n := by omega
      have q1 : (x != x) = false := by simp
      obtain ⟨V, hV⟩ : ∃ V, w.drewN m = V := ⟨_, rfl⟩
      have HV := Lib.hid hV
      rw [hV] at g1 g2 ⊢
      clear hV
      go_wp2
      go_quiet (fail)
      go_wp2
      go_roundw
      case rel => exact ⟨k + 1, by go_num, by omega, ⟨⟨m + nq, by rw [← HV.out, World.drewN_drewN]⟩⟩⟩
      case measure => simp [intOf]; omega
    · obtain rfl : k = n := by omega
      go_wp2
      go_ret
      exact ⟨rfl, hd.below⟩
set_option maxHeartbeats 4000000 in
theorem same1_any (A B : Option Addr) (n c d : Nat) (xs : List Bool) (hn : n ≤ 1000000) (w : World) (h1 : Reads w w.heap.size 1 A n (xs.map (Value.bool))) (h2 : Reads w w.heap.size 1 B n (xs.map (Value.bool))) :
    Calls Try.prog 14 #[.slice A n c, .slice B n d] w fun e w' => e = .returned (.bool true) ∧ Below w.heap.size w w' := by
  have R1 := Lib.hid h1
  have R2 := Lib.hid h2
  have HL := Lib.hid (show xs.length = n by have := h1.1; simpa using this)
  clear h1 h2
  have q0 : ((n : Int) != (n : Int)) = false := by simp
  go_enter Try.func14, Try.ntmps14
  go_wp2
  go_loopw [5] (fun i wr => ∃ k : Nat, i = .int .i64 k ∧ k ≤ n ∧ Drawn w wr) (fun i wr => n - (intOf i).toNat)
  case atStart => exact ⟨0, rfl, by omega, Drawn.refl _⟩
  case round =>
    obtain ⟨k, rfl, hk, hd⟩ := hrel
    by_cases hlt : k < n
    · have hx : xs[k]? = some (xs[k]'(by rw [HL.out]; exact hlt)) := List.getElem?_eq_getElem (by rw [HL.out]; exact hlt)
      obtain ⟨a1, u1, rfl, _, e1, g1⟩ := R1.out.at_ hlt
      obtain ⟨a2, u2, rfl, _, e2, g2⟩ := R2.out.at_ hlt
      rw [List.getElem?_map, hx] at e1 e2
      cases e1
      cases e2
      generalize xs[k]'(by rw [HL.out]; exact hlt) = x at g1 g2
      clear hx
      obtain ⟨m, rfl⟩ := hd
      have g1 : (w.drewN m).cell? (a1.add k) = some (Value.bool x) := g1
      have g2 : (w.drewN m).cell? (a2.add k) = some (Value.bool x) := g2
      have i0 : (0 : Int) ≤ k := by omega
      have i1 : (k : Int) < n := by omega
      have q1 : (x != x) = false := by simp
      obtain ⟨V, hV⟩ : ∃ V, w.drewN m = V := ⟨_, rfl⟩
      have HV := Lib.hid hV
      rw [hV] at g1 g2 ⊢
      clear hV
      go_wp2
      go_quiet (fail)
      go_wp2
      go_roundw
      case rel => exact ⟨k + 1, by go_num, by omega, ⟨⟨m + nq, by rw [← HV.out, World.drewN_drewN]⟩⟩⟩
      case measure => simp [intOf]; omega
    · obtain rfl : k = n := by omega
      go_wp2
      go_ret
      exact ⟨rfl, hd.below⟩
end Go.Proofs.Ytlobedonclimbaa.Pair

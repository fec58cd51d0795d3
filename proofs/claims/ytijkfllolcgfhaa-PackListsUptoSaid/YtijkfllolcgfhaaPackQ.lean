/- Chapter 3: lists held against each other, walked. No condition but bounds. -/
import Derived.Test.YtijkfllolcgfhaaPackTl
namespace Go.Proofs.Ytijkfllolcgfhaa.Pack
open Go.RowKit
set_option linter.unusedVariables false
set_option linter.unusedSimpArgs false

/-- The answer says whether the lists are the same. -/
def SPost {α : Type} (xs ys : List α) (w : World) (e : Ending) (w' : World) : Prop := ∃ b : Bool, e = .returned (.bool b) ∧ (b = true ↔ xs = ys) ∧ Below w.heap.size w w'
theorem str_ne {a b : ByteArray} (h : a ≠ b) : (a.toList == b.toList) = false := by
  have key : ∀ s : ByteArray, s.toList = s.data.toList := fun s => by simp [ByteArray.toList_eq]
  rw [beq_eq_false_iff_ne]
  intro e
  rw [key, key] at e
  exact h (ByteArray.ext (Array.toList_inj.1 e))
theorem take_next {α : Type} {xs ys : List α} {k : Nat} {x y : α} (hx : xs[k]? = some x) (hy : ys[k]? = some y) (h : xs.take k = ys.take k) : xs.take (k + 1) = ys.take (k + 1) ↔ x = y := by
  obtain ⟨h1, rfl⟩ := List.getElem?_eq_some_iff.1 hx
  obtain ⟨h2, rfl⟩ := List.getElem?_eq_some_iff.1 hy
  rw [List.take_succ_eq_append_getElem h1, List.take_succ_eq_append_getElem h2, h]
  constructor
  · intro e
    have := List.append_cancel_left e
    simpa using this
  · intro e; rw [e]
set_option maxHeartbeats 4000000 in
theorem same_nums (A A' : Option Addr) (n n' c c' B : Nat) (xs ys : List Int) (hn : n ≤ 9000000000000000) (hn' : n' ≤ 9000000000000000) (w : World) (h1 : Reads w B 1 A n (xs.map (Value.int .u64))) (h2 : Reads w B 1 A' n' (ys.map (Value.int .u64))) (hB : B ≤ w.heap.size) :
    Calls Try.prog 54 #[.slice A n c, .slice A' n' c'] w (SPost xs ys w) := by
  have HX := Lib.hid (show xs.length = n by have := h1.1; simpa using this)
  have HY := Lib.hid (show ys.length = n' by have := h2.1; simpa using this)
  have R1 := Lib.hid h1
  have R2 := Lib.hid h2
  have HB := Lib.hid hB
  have hn1 : (n : Int) ≤ 9000000000000000 := by omega
  have hn2 : (n' : Int) ≤ 9000000000000000 := by omega
  clear h1 h2 hB hn hn'
  by_cases hne : n = n'
  · subst hne
    have q0 : ((n : Int) != (n : Int)) = false := by simp
    go_enter Try.func54, Try.ntmps54
    go_wp2
    go_loopw [5] (fun i wr => ∃ k : Nat, i = .int .i64 k ∧ k ≤ n ∧ Hid (xs.take k = ys.take k) ∧ Drawn w wr) (fun i wr => n - (intOf i).toNat)
    case atStart => exact ⟨0, rfl, by omega, Lib.hid rfl, Drawn.refl _⟩
    case round =>
      obtain ⟨k, rfl, hk, HE, hd⟩ := hrel
      by_cases hlt : k < n
      · obtain ⟨a1, x, rfl, b1, hx, g1⟩ := reads_f R1.out hlt
        obtain ⟨a2, y, rfl, b2, hy, g2⟩ := reads_f R2.out hlt
        have HT := Lib.hid (take_next hx hy HE.out)
        have HNX := Lib.hid (show x ≠ y → xs ≠ ys from fun hxy e => by subst e; rw [hx] at hy; exact hxy (Option.some.inj hy))
        clear hx hy b1 b2
        obtain ⟨m, rfl⟩ := hd
        have g1 : (w.drewN m).cell? (a1.add k) = some (Value.int .u64 x) := g1
        have g2 : (w.drewN m).cell? (a2.add k) = some (Value.int .u64 y) := g2
        have i0 : (0 : Int) ≤ k := by omega
        have i1 : (k : Int) < n := by omega
        obtain ⟨V, hV⟩ : ∃ V, w.drewN m = V := ⟨_, rfl⟩
        have HV := Lib.hid hV
        rw [hV] at g1 g2 ⊢
        clear hV
        by_cases hxy : x = y
        · subst hxy
          have q1 : (x != x) = false := by simp
          go_wp2
          go_quiet (fail)
          go_wp2
          go_roundw
          case rel => exact ⟨k + 1, by go_num, by omega, Lib.hid (HT.out.2 (by trivial)), ⟨⟨m + nq, by rw [← HV.out, World.drewN_drewN]⟩⟩⟩
          case measure => simp [intOf]; omega
        · have q1 : (x != y) = true := by simpa using hxy
          have HXY := Lib.hid hxy
          clear hxy
          go_wp2
          go_quiet (fail)
          go_wp2
          go_ret
          exact ⟨false, rfl, ⟨(fun h => by cases h), (fun h => absurd h (HNX.out HXY.out))⟩, by rw [← HV.out]; exact bel_drewN (bel_drewN (Below.refl _ _) _) _⟩
      · obtain rfl : k = n := by omega
        have hE := HE.out
        rw [List.take_of_length_le (by rw [HX.out]; omega), List.take_of_length_le (by rw [HY.out]; omega)] at hE
        have HF := Lib.hid hE
        clear hE
        go_wp2
        go_ret
        exact ⟨true, rfl, ⟨fun _ => HF.out, fun _ => rfl⟩, hd.below⟩
  · have q0 : ((n : Int) != (n' : Int)) = true := by simp; omega
    have HNN := Lib.hid hne
    clear hne
    go_enter Try.func54, Try.ntmps54
    go_wp2
    go_ret
    exact ⟨false, rfl, ⟨(fun h => by cases h), (fun h => by subst h; exact absurd (HX.out.symm.trans HY.out) HNN.out)⟩, Below.refl _ _⟩
set_option maxHeartbeats 4000000 in
theorem same_ints (A A' : Option Addr) (n n' c c' B : Nat) (xs ys : List Int) (hn : n ≤ 9000000000000000) (hn' : n' ≤ 9000000000000000) (w : World) (h1 : Reads w B 1 A n (xs.map (Value.int .i64))) (h2 : Reads w B 1 A' n' (ys.map (Value.int .i64))) (hB : B ≤ w.heap.size) :
    Calls Try.prog 56 #[.slice A n c, .slice A' n' c'] w (SPost xs ys w) := by
  have HX := Lib.hid (show xs.length = n by have := h1.1; simpa using this)
  have HY := Lib.hid (show ys.length = n' by have := h2.1; simpa using this)
  have R1 := Lib.hid h1
  have R2 := Lib.hid h2
  have HB := Lib.hid hB
  have hn1 : (n : Int) ≤ 9000000000000000 := by omega
  have hn2 : (n' : Int) ≤ 9000000000000000 := by omega
  clear h1 h2 hB hn hn'
  by_cases hne : n = n'
  · subst hne
    have q0 : ((n : Int) != (n : Int)) = false := by simp
    go_enter Try.func56, Try.ntmps56
    go_wp2
    go_loopw [5] (fun i wr => ∃ k : Nat, i = .int .i64 k ∧ k ≤ n ∧ Hid (xs.take k = ys.take k) ∧ Drawn w wr) (fun i wr => n - (intOf i).toNat)
    case atStart => exact ⟨0, rfl, by omega, Lib.hid rfl, Drawn.refl _⟩
    case round =>
      obtain ⟨k, rfl, hk, HE, hd⟩ := hrel
      by_cases hlt : k < n
      · obtain ⟨a1, x, rfl, b1, hx, g1⟩ := reads_f R1.out hlt
        obtain ⟨a2, y, rfl, b2, hy, g2⟩ := reads_f R2.out hlt
        have HT := Lib.hid (take_next hx hy HE.out)
        have HNX := Lib.hid (show x ≠ y → xs ≠ ys from fun hxy e => by subst e; rw [hx] at hy; exact hxy (Option.some.inj hy))
        clear hx hy b1 b2
        obtain ⟨m, rfl⟩ := hd
        have g1 : (w.drewN m).cell? (a1.add k) = some (Value.int .i64 x) := g1
        have g2 : (w.drewN m).cell? (a2.add k) = some (Value.int .i64 y) := g2
        have i0 : (0 : Int) ≤ k := by omega
        have i1 : (k : Int) < n := by omega
        obtain ⟨V, hV⟩ : ∃ V, w.drewN m = V := ⟨_, rfl⟩
        have HV := Lib.hid hV
        rw [hV] at g1 g2 ⊢
        clear hV
        by_cases hxy : x = y
        · subst hxy
          have q1 : (x != x) = false := by simp
          go_wp2
          go_quiet (fail)
          go_wp2
          go_roundw
          case rel => exact ⟨k + 1, by go_num, by omega, Lib.hid (HT.out.2 (by trivial)), ⟨⟨m + nq, by rw [← HV.out, World.drewN_drewN]⟩⟩⟩
          case measure => simp [intOf]; omega
        · have q1 : (x != y) = true := by simpa using hxy
          have HXY := Lib.hid hxy
          clear hxy
          go_wp2
          go_quiet (fail)
          go_wp2
          go_ret
          exact ⟨false, rfl, ⟨(fun h => by cases h), (fun h => absurd h (HNX.out HXY.out))⟩, by rw [← HV.out]; exact bel_drewN (bel_drewN (Below.refl _ _) _) _⟩
      · obtain rfl : k = n := by omega
        have hE := HE.out
        rw [List.take_of_length_le (by rw [HX.out]; omega), List.take_of_length_le (by rw [HY.out]; omega)] at hE
        have HF := Lib.hid hE
        clear hE
        go_wp2
        go_ret
        exact ⟨true, rfl, ⟨fun _ => HF.out, fun _ => rfl⟩, hd.below⟩
  · have q0 : ((n : Int) != (n' : Int)) = true := by simp; omega
    have HNN := Lib.hid hne
    clear hne
    go_enter Try.func56, Try.ntmps56
    go_wp2
    go_ret
    exact ⟨false, rfl, ⟨(fun h => by cases h), (fun h => by subst h; exact absurd (HX.out.symm.trans HY.out) HNN.out)⟩, Below.refl _ _⟩
set_option maxHeartbeats 4000000 in
theorem same_texts (A A' : Option Addr) (n n' c c' B : Nat) (xs ys : List ByteArray) (hn : n ≤ 9000000000000000) (hn' : n' ≤ 9000000000000000) (w : World) (h1 : Reads w B 1 A n (xs.map (Value.string))) (h2 : Reads w B 1 A' n' (ys.map (Value.string))) (hB : B ≤ w.heap.size) :
    Calls Try.prog 58 #[.slice A n c, .slice A' n' c'] w (SPost xs ys w) := by
  have HX := Lib.hid (show xs.length = n by have := h1.1; simpa using this)
  have HY := Lib.hid (show ys.length = n' by have := h2.1; simpa using this)
  have R1 := Lib.hid h1
  have R2 := Lib.hid h2
  have HB := Lib.hid hB
  have hn1 : (n : Int) ≤ 9000000000000000 := by omega
  have hn2 : (n' : Int) ≤ 9000000000000000 := by omega
  clear h1 h2 hB hn hn'
  by_cases hne : n = n'
  · subst hne
    have q0 : ((n : Int) != (n : Int)) = false := by simp
    go_enter Try.func58, Try.ntmps58
    go_wp2
    go_loopw [5] (fun i wr => ∃ k : Nat, i = .int .i64 k ∧ k ≤ n ∧ Hid (xs.take k = ys.take k) ∧ Drawn w wr) (fun i wr => n - (intOf i).toNat)
    case atStart => exact ⟨0, rfl, by omega, Lib.hid rfl, Drawn.refl _⟩
    case round =>
      obtain ⟨k, rfl, hk, HE, hd⟩ := hrel
      by_cases hlt : k < n
      · obtain ⟨a1, x, rfl, b1, hx, g1⟩ := reads_f R1.out hlt
        obtain ⟨a2, y, rfl, b2, hy, g2⟩ := reads_f R2.out hlt
        have HT := Lib.hid (take_next hx hy HE.out)
        have HNX := Lib.hid (show x ≠ y → xs ≠ ys from fun hxy e => by subst e; rw [hx] at hy; exact hxy (Option.some.inj hy))
        clear hx hy b1 b2
        obtain ⟨m, rfl⟩ := hd
        have g1 : (w.drewN m).cell? (a1.add k) = some (Value.string x) := g1
        have g2 : (w.drewN m).cell? (a2.add k) = some (Value.string y) := g2
        have i0 : (0 : Int) ≤ k := by omega
        have i1 : (k : Int) < n := by omega
        obtain ⟨V, hV⟩ : ∃ V, w.drewN m = V := ⟨_, rfl⟩
        have HV := Lib.hid hV
        rw [hV] at g1 g2 ⊢
        clear hV
        by_cases hxy : x = y
        · subst hxy
          have q2 : (x.toList == x.toList) = true := by simp
          go_wp2
          go_quiet (fail)
          go_wp2
          go_roundw
          case rel => exact ⟨k + 1, by go_num, by omega, Lib.hid (HT.out.2 (by trivial)), ⟨⟨m + nq, by rw [← HV.out, World.drewN_drewN]⟩⟩⟩
          case measure => simp [intOf]; omega
        · have q2 : (x.toList == y.toList) = false := str_ne hxy
          have HXY := Lib.hid hxy
          clear hxy
          go_wp2
          go_quiet (fail)
          go_wp2
          go_ret
          exact ⟨false, rfl, ⟨(fun h => by cases h), (fun h => absurd h (HNX.out HXY.out))⟩, by rw [← HV.out]; exact bel_drewN (bel_drewN (Below.refl _ _) _) _⟩
      · obtain rfl : k = n := by omega
        have hE := HE.out
        rw [List.take_of_length_le (by rw [HX.out]; omega), List.take_of_length_le (by rw [HY.out]; omega)] at hE
        have HF := Lib.hid hE
        clear hE
        go_wp2
        go_ret
        exact ⟨true, rfl, ⟨fun _ => HF.out, fun _ => rfl⟩, hd.below⟩
  · have q0 : ((n : Int) != (n' : Int)) = true := by simp; omega
    have HNN := Lib.hid hne
    clear hne
    go_enter Try.func58, Try.ntmps58
    go_wp2
    go_ret
    exact ⟨false, rfl, ⟨(fun h => by cases h), (fun h => by subst h; exact absurd (HX.out.symm.trans HY.out) HNN.out)⟩, Below.refl _ _⟩
end Go.Proofs.Ytijkfllolcgfhaa.Pack

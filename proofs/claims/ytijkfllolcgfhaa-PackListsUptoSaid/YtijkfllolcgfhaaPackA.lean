/- Chapter 3: the small functions of PackApart, walked. No condition but bounds. -/
import Derived.Test.YtijkfllolcgfhaaPackH
namespace Go.Proofs.Ytijkfllolcgfhaa.Pack
open Go.RowKit
set_option linter.unusedVariables false
set_option linter.unusedSimpArgs false

abbrev wrC : Array Value := #[.slice none 0 0, .bool true]
/-- Two new writers. -/
structure WW (w W : World) (r1 r2 : Option Nat) (l1 l2 : List UInt8) : Prop where
  a : WrS W w.heap.size r1 (some ⟨w.heap.size, 0, none⟩) (some l1)
  b : WrS W (w.heap.size + 1) r2 (some ⟨w.heap.size + 1, 0, none⟩) (some l2)
  n1 : ∀ k, r1 = some k → w.heap.size + 2 ≤ k
  n2 : ∀ k, r2 = some k → w.heap.size + 2 ≤ k
  ne : ∀ k, r1 = some k → r2 ≠ some k
  bel : Below w.heap.size w W
  sz : w.heap.size + 2 ≤ W.heap.size
section
variable {w W W' : World} {r1 r2 r' : Option Nat} {l1 l2 l' : List UInt8}
theorem WW.new (w : World) : WW w ((w.alloc (.cells wrC 67)).alloc (.cells wrC 67)) none none [] [] := by
  refine ⟨(new_wr w).below (bel_alloc (Below.refl _ _) _), ?_, (fun k e => by cases e), (fun k e => by cases e), (fun k e => by cases e), bel_alloc (bel_alloc (Below.refl _ _) _) _, by simp⟩
  have := new_wr (w.alloc (.cells wrC 67))
  rwa [World.size_alloc] at this
theorem WW.stepA (h : WW w W r1 r2 l1 l2) (hs : WrS W' w.heap.size r' (some ⟨w.heap.size, 0, none⟩) (some l')) (hf : WF true w.heap.size r1 W r' W') : WW w W' r' r2 l' l2 := by
  have hz := h.sz
  have hlow : ∀ k, WSet true w.heap.size r1 k → w.heap.size ≤ k := fun k hk => by
    rcases hk.2 with rfl | h1
    · exact Nat.le_refl _
    · have := h.n1 k h1; omega
  refine ⟨hs, h.b.far hf.far (fun hk => ?_) (fun k hk hs' => ?_), fun k hk => ?_, h.n2, fun k hk => ?_, h.bel.trans (hf.far.to_below (by omega) hlow), Nat.le_trans hz hf.far.size⟩
  · rcases hk.2 with h1 | h1
    · omega
    · have := h.n1 _ h1; omega
  · rcases hs'.2 with h1 | h1
    · have := h.n2 k hk; omega
    · exact h.ne k h1 hk
  · rcases hf.row with rfl | ⟨j, rfl, hj⟩
    · exact h.n1 k hk
    · cases hk; omega
  · rcases hf.row with rfl | ⟨j, rfl, hj⟩
    · exact h.ne k hk
    · cases hk
      intro e
      have := h.b.r_lt _ e
      omega
theorem WW.stepB (h : WW w W r1 r2 l1 l2) (hs : WrS W' (w.heap.size + 1) r' (some ⟨w.heap.size + 1, 0, none⟩) (some l')) (hf : WF true (w.heap.size + 1) r2 W r' W') : WW w W' r1 r' l1 l' := by
  have hz := h.sz
  have hlow : ∀ k, WSet true (w.heap.size + 1) r2 k → w.heap.size ≤ k := fun k hk => by
    rcases hk.2 with rfl | h1
    · omega
    · have := h.n2 k h1; omega
  refine ⟨h.a.far hf.far (fun hk => ?_) (fun k hk hs' => ?_), hs, h.n1, fun k hk => ?_, fun k hk e => ?_, h.bel.trans (hf.far.to_below (by omega) hlow), Nat.le_trans hz hf.far.size⟩
  · rcases hk.2 with h1 | h1
    · omega
    · have := h.n2 _ h1; omega
  · rcases hs'.2 with h1 | h1
    · have := h.n1 k hk; omega
    · exact h.ne k hk h1
  · rcases hf.row with rfl | ⟨j, rfl, hj⟩
    · exact h.n2 k hk
    · cases hk; omega
  · rcases hf.row with rfl | ⟨j, rfl, hj⟩
    · exact h.ne k hk e
    · cases e
      have := h.a.r_lt _ hk
      omega
theorem WW.below (h : WW w W r1 r2 l1 l2) (hb : Below W.heap.size W W') : WW w W' r1 r2 l1 l2 := ⟨h.a.below hb, h.b.below hb, h.n1, h.n2, h.ne, bel_trans h.bel hb, Nat.le_trans h.sz hb.size⟩
end
set_option maxHeartbeats 4000000 in
theorem one_any (n : Int) (s : ByteArray) (w : World) (h0 : 0 ≤ n) (hn : n < 18446744073709551616) (hs : s.size ≤ 1000) :
    Calls Try.prog 11 #[.int .u64 n, .string s] w fun e w' => e = .returned (.tuple #[strV (numB n.toNat), strV (textB s)]) ∧ Below w.heap.size w w' := by
  have HN := Lib.hid hn
  have M := Lib.hid (WW.new w)
  clear hn
  go_enter Try.func11, Try.ntmps11
  go_wp2_with (first
    | (go_at_call 15; refine (new_any _).mono ?_; rintro e w' ⟨rfl, rfl⟩)
    | (go_at_call 21; (with_reducible refine (num_any _ _ _ _ n _ M.out.a h0 HN.out (len_some (by decide))).mono ?_); rintro e w1 h; obtain ⟨rfl, r1, hs1, hf1⟩ := wstep h; have M1 := Lib.hid (M.out.stepA hs1 hf1); clear hs1 hf1 h)
    | (go_at_call 23; (with_reducible refine (text_any _ _ _ _ s _ M1.out.b (by omega) (len_some (by decide))).mono ?_); rintro e w2 h; obtain ⟨rfl, r2, hs2, hf2⟩ := wstep h; have M2 := Lib.hid (M1.out.stepB hs2 hf2); clear hs2 hf2 h)
    | (go_at_call 17; (with_reducible refine (bytes_lit _ _ _ _ (numB n.toNat) _ M2.out.a rfl).mono ?_); rintro e w' ⟨rfl, rfl⟩)
    | (go_at_call 17; (with_reducible refine (bytes_lit _ _ _ _ (textB s) _ M2.out.b rfl).mono ?_); rintro e w' ⟨rfl, rfl⟩))
  go_ret2
  exact ⟨rfl, M2.out.bel⟩
set_option maxHeartbeats 4000000 in
theorem ints_two (n m : Int) (w : World) (h0 : -9223372036854775808 ≤ n ∧ n ≤ 9223372036854775807) (h1 : -9223372036854775808 ≤ m ∧ m ≤ 9223372036854775807) :
    Calls Try.prog 12 #[.int .i64 n, .int .i64 m] w fun e w' => (∃ k : Int, e = .returned (.tuple #[.bool (numB (zz n) == numB (zz m)), .int .i64 k])) ∧ Below w.heap.size w w' := by
  have H0 := Lib.hid h0
  have H1 := Lib.hid h1
  have M := Lib.hid (WW.new w)
  have l1 := numB_len (zz_u64 (n := n) h0)
  have l2 := numB_len (zz_u64 (n := m) h1)
  clear h0 h1
  go_enter Try.func12, Try.ntmps12
  go_wp2_with (first
    | (go_at_call 15; refine (new_any _).mono ?_; rintro e w' ⟨rfl, rfl⟩)
    | (go_at_call 22; (with_reducible refine (int_any _ _ _ _ n _ M.out.a H0.out.1 H0.out.2 (len_some (by decide))).mono ?_); rintro e w1 h; obtain ⟨rfl, r1, hs1, hf1⟩ := wstep h; have M1 := Lib.hid (M.out.stepA hs1 hf1); clear hs1 hf1 h)
    | (go_at_call 22; (with_reducible refine (int_any _ _ _ _ m _ M1.out.b H1.out.1 H1.out.2 (len_some (by decide))).mono ?_); rintro e w2 h; obtain ⟨rfl, r2, hs2, hf2⟩ := wstep h; have M2 := Lib.hid (M1.out.stepB hs2 hf2); clear hs2 hf2 h)
    | (go_at_call 17; (with_reducible refine (bytes_lit _ _ _ _ (numB (zz n)) _ M2.out.a rfl).mono ?_); rintro e w' ⟨rfl, rfl⟩)
    | (go_at_call 17; (with_reducible refine (bytes_lit _ _ _ _ (numB (zz m)) _ M2.out.b rfl).mono ?_); rintro e w' ⟨rfl, rfl⟩))
  go_ret2
  exact ⟨⟨_, rfl⟩, M2.out.bel⟩
/-- Does a text stand at the beginning of another one? -/
def begB (a b : List UInt8) : Bool := decide (a.length ≤ b.length) && (b.take a.length == a)
theorem begB_no {a b : List UInt8} (h : ∀ r, b ≠ a ++ r) : begB a b = false := by
  unfold begB
  rw [Bool.and_eq_false_iff]
  right
  rw [beq_eq_false_iff_ne]
  intro e
  have := (List.take_append_drop a.length b).symm
  rw [e] at this
  exact h _ this
set_option maxHeartbeats 4000000 in
theorem begins_any (a b : List UInt8) (w : World) (ha : a.length ≤ 1000000) (hb : b.length ≤ 1000000) :
    Calls Try.prog 13 #[strV a, strV b] w fun e w' => e = .returned (.bool (begB a b)) ∧ w = w' := by
  have ga : (⟨a.toArray⟩ : ByteArray).size = a.length := rfl
  have gb : (⟨b.toArray⟩ : ByteArray).size = b.length := rfl
  have ha' : (a.length : Int) ≤ 1000000 := by omega
  have hb' : (b.length : Int) ≤ 1000000 := by omega
  have S1 := str_take b
  by_cases h : a.length ≤ b.length
  · have q0 : decide (a.length ≤ b.length) = true := by simpa using h
    have h' : (a.length : Int) ≤ b.length := by omega
    have h0 : (0 : Int) ≤ a.length := by omega
    have e9 := Lib.hid (show begB a b = (b.take a.length == a) by unfold begB; rw [q0, Bool.true_and])
    clear ha hb
    go_enter Try.func13, Try.ntmps13
    go_wp2
    go_ret
    exact ⟨ret_bool e9.out.symm, rfl⟩
  · have q0 : decide (a.length ≤ b.length) = false := by simpa using h
    have e9 := Lib.hid (show begB a b = false by unfold begB; rw [q0, Bool.false_and])
    clear ha hb h
    go_enter Try.func13, Try.ntmps13
    go_wp2
    go_ret
    exact ⟨ret_bool e9.out.symm, rfl⟩
end Go.Proofs.Ytijkfllolcgfhaa.Pack

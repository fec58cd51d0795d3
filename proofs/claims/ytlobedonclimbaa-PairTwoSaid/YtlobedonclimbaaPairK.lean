/- Chapter 9: the reference's counts, walked. No condition but bounds. -/
import Derived.Test.YtlobedonclimbaaPairU
namespace Go.Proofs.Ytlobedonclimbaa.Pair
open Go.RowKit
set_option linter.unusedVariables false

theorem isL_hit' (c : Int) (xs : List Int) (k : Nat) (h : k < xs.length) (e : (xs[k]?.getD 0 == c) = true) : isL c xs = true :=
  isL_hit c xs k h (by rw [beq_iff_eq] at e ⊢; exact e.symm)
theorem beq_comm_int (a b : Int) : (a == b) = (b == a) := by
  by_cases h : a = b
  · subst h; rfl
  · rw [beq_eq_false_iff_ne.2 h, beq_eq_false_iff_ne.2 (Ne.symm h)]
set_option maxHeartbeats 1000000 in
theorem in_any (A : Option Addr) (n cap : Nat) (xs : List Int) (c : Int) (B : Nat) (w : World) (hl : xs.length = n) (hn : n ≤ 1000000) (hr : Reads w B 1 A n (xs.map (Value.int .u8))) :
    Calls Try.prog 24 #[.int .u8 c, .slice A n cap] w fun e w' => e = .returned (.bool (isL c xs)) ∧ w = w' := by
  have HL := Lib.hid hl
  have HR := Lib.hid hr
  clear hl hr
  go_enter Try.func24, Try.ntmps24
  go_wp2
  go_loopw [5] (fun i wr => ∃ k : Nat, i = .int .i64 k ∧ k ≤ n ∧ Hid (isL c (xs.take k) = false) ∧ w = wr) (fun i wr => n - (intOf i).toNat)
  case atStart => exact ⟨0, rfl, by omega, Lib.hid rfl, rfl⟩
  case round =>
    obtain ⟨k, rfl, hk, HA, rfl⟩ := hrel
    by_cases hlt : k < n
    · obtain ⟨ad, rfl, _, hc0⟩ := reads_kind HL.out HR.out hlt
      have TK := Lib.hid (isL_take c xs k (by rw [HL.out]; exact hlt))
      have TN := Lib.hid (isL_hit' c xs k (by rw [HL.out]; exact hlt))
      generalize xs[k]?.getD 0 = x at hc0 TK TN
      cases hm : (x == c)
      · have HK : Hid (isL c (xs.take (k + 1)) = false) := Lib.hid (by rw [TK.out, HA.out, beq_comm_int, hm]; rfl)
        go_wp2
        go_roundw
        case rel => exact ⟨k + 1, by go_num, by omega, HK, trivial⟩
        case measure => simp [intOf]; omega
      · have HF := Lib.hid (TN.out hm)
        go_wp2
        go_ret
        exact ⟨ret_bool HF.out.symm, rfl⟩
    · obtain rfl : k = n := by omega
      have hA := HA.out
      rw [List.take_of_length_le (by rw [HL.out]; omega)] at hA
      have HF := Lib.hid hA
      clear hA
      go_wp2
      go_ret
      exact ⟨ret_bool HF.out.symm, rfl⟩
theorem in_cs (w : World) (cs : Array Value) (b n cap : Nat) (c : Int) (h : w.heap.size = b ∧ cs.toList = (cs.toList.map intOf).map (Value.int .u8) ∧ cs.size = n ∧ n ≤ 1000000) :
    Calls Try.prog 24 #[.int .u8 c, .slice (some ⟨b, 0, none⟩) n cap] (w.alloc (.cells cs 5)) fun e w' => e = .returned (.bool (isL c (cs.toList.map intOf))) ∧ w.alloc (.cells cs 5) = w' :=
  in_any _ n cap (cs.toList.map intOf) c _ _ (by simpa using h.2.2.1) h.2.2.2 (lit_at w cs b n _ h.1 h.2.1 (by simpa using h.2.2.1))

/-- What the k-th character counts as, and whether it clings. -/
def cN (xs : List Int) (k : Nat) : Int := (finalP pl0 (xs.take (k + 1))).b
def gN (xs : List Int) (k : Nat) : Bool := (finalP pl0 (xs.take (k + 1))).cl
theorem finalP_b (xs : List Int) (k : Nat) (h : k ≤ xs.length) : (finalP pl0 (xs.take k)).b = if k = 0 then 255 else cN xs (k - 1) := by
  by_cases h0 : k = 0
  · subst h0; rfl
  · rw [if_neg h0, cN, show k - 1 + 1 = k by omega]
theorem cN_step (xs : List Int) (k : Nat) (h : k < xs.length) : cN xs k = (cnt (xs[k]?.getD 0) (if k = 0 then 255 else cN xs (k - 1))).1 ∧ gN xs k = (cnt (xs[k]?.getD 0) (if k = 0 then 255 else cN xs (k - 1))).2 := by
  rw [← finalP_b xs k (by omega)]
  unfold cN gN
  rw [final_take xs k h]
  exact ⟨rfl, rfl⟩
theorem reads_at (w : World) (t : TypeId) (cs : Array Value) (b n : Nat) (xs : List Value) (hb : w.heap.size = b) (h : cs.toList = xs) (hn : xs.length = n) :
    Reads (w.alloc (.cells cs t)) (w.alloc (.cells cs t)).heap.size 1 (some ⟨b, 0, none⟩) n xs := by
  subst hb
  exact reads_new w t cs n xs h hn
theorem own_ne2 {W : World} {b1 b2 e1 e2 s1 s2 n1 n2 : Nat} {v1 v2 : Value} {x1 x2 : List Value} (h1 : W.ownsRow b1 e1 s1 v1 n1 x1) (h2 : W.ownsRow b2 e2 s2 v2 n2 x2) (hne : e1 ≠ e2) : v1.ownBlock = none ∨ v1.ownBlock ≠ v2.ownBlock := by
  rcases h1.2 with ⟨rfl, _⟩ | ⟨g1, c1, k1, rfl, _, hh1, _⟩
  · exact .inl rfl
  · refine .inr fun e => ?_
    rcases h2.2 with ⟨rfl, _⟩ | ⟨g2, c2, k2, rfl, _, hh2, _⟩
    · simp [Value.ownBlock] at e
    · simp only [Value.ownBlock, Option.some.injEq] at e
      subst e
      rw [hh1] at hh2
      injection hh2 with hh2
      injection hh2 with _ ht
      exact hne ht
theorem own_at {W : World} {base e n k : Nat} {A : Option Addr} {cp : Nat} {xs : List Value} {u : Value} (h : W.ownsRow base e 1 (.slice A n cp) n xs) (hk : xs[k]? = some u) : ∃ ad, A = some ad ∧ W.cell? (ad.add k) = some u := by
  have hlt : k < n := by
    have := (List.getElem?_eq_some_iff.1 hk).1
    have := h.1
    omega
  have hr := Reads.of_own h
  obtain ⟨ad, hA, _, hc⟩ := hr.2 (by omega)
  exact ⟨ad, hA, hc k u hk⟩
end Go.Proofs.Ytlobedonclimbaa.Pair

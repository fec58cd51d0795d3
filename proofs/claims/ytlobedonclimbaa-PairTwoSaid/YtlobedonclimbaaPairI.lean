/- Chapter 9: a class among some, pairs among some, what a class counts as: walked. No condition but bounds. -/
import Derived.Test.YtlobedonclimbaaMore
import Derived.Test.YtlobedonclimbaaPairS
import Derived.Test.YtlobedonclimbaaProg
import Derived.Deep.DrawnRows
namespace Go.Proofs.Ytlobedonclimbaa.Pair
open Go.RowKit
set_option linter.unusedVariables false

theorem reads_kind {w : World} {A : Option Addr} {n k B : Nat} {xs : List Int} {f : Int → Value} (hl : xs.length = n) (hr : Reads w B 1 A n (xs.map f)) (hk : k < n) : ∃ ad, A = some ad ∧ ad.block < B ∧ w.cell? (ad.add k) = some (f (xs[k]?.getD 0)) := by
  obtain ⟨ad, u, rfl, hb, hu, hc⟩ := hr.at_ hk
  refine ⟨ad, rfl, hb, ?_⟩
  rw [hc, ← hu, List.getElem?_map, List.getElem?_eq_getElem (by omega)]
  rfl
theorem isL_append (c : Int) (l m : List Int) : isL c (l ++ m) = (isL c l || isL c m) := by
  induction l with
  | nil => rfl
  | cons x l ih => simp [isL, ih, Bool.or_assoc]
theorem isL_take (c : Int) (xs : List Int) (k : Nat) (h : k < xs.length) : isL c (xs.take (k + 1)) = (isL c (xs.take k) || c == xs[k]?.getD 0) := by
  rw [List.take_succ_eq_append_getElem h, isL_append, List.getElem?_eq_getElem h]
  simp [isL]
theorem isL_hit (c : Int) (xs : List Int) (k : Nat) (h : k < xs.length) (e : (c == xs[k]?.getD 0) = true) : isL c xs = true := by
  have : xs = xs.take (k + 1) ++ xs.drop (k + 1) := (List.take_append_drop _ _).symm
  rw [this, isL_append, isL_take c xs k h, e]
  simp
/-- Where a class stands, or -1. -/
def IdxPost (c : Int) (xs : List Int) (w : World) (e : Ending) (w' : World) : Prop := ∃ r : Int, e = .returned (.int .i64 r) ∧ Hid (decide (0 ≤ r) = isL c xs) ∧ w = w'
set_option maxHeartbeats 1000000 in
theorem index_any (A : Option Addr) (n cap : Nat) (xs : List Int) (c : Int) (B : Nat) (w : World) (hl : xs.length = n) (hn : n ≤ 1000000) (hr : Reads w B 1 A n (xs.map (Value.int .u8))) :
    Calls Try.prog 62 #[.slice A n cap, .int .u8 c] w (IdxPost c xs w) := by
  have HL := Lib.hid hl
  have HR := Lib.hid hr
  clear hl hr
  go_enter Try.func62, Try.ntmps62
  go_wp2
  go_loopw [5, 8] (fun s i wr => ∃ k : Nat, i = .int .i64 k ∧ k ≤ n ∧ Hid (isL c (xs.take k) = false) ∧ w = wr) (fun s i wr => n - (intOf i).toNat)
  case atStart => exact ⟨0, rfl, by omega, Lib.hid rfl, rfl⟩
  case round =>
    obtain ⟨k, rfl, hk, HA, rfl⟩ := hrel
    by_cases hlt : k < n
    · obtain ⟨ad, rfl, _, hc0⟩ := reads_kind HL.out HR.out hlt
      have TK := Lib.hid (isL_take c xs k (by rw [HL.out]; exact hlt))
      have TN := Lib.hid (isL_hit c xs k (by rw [HL.out]; exact hlt))
      generalize xs[k]?.getD 0 = x at hc0 TK TN
      cases hm : (c == x)
      · have HK : Hid (isL c (xs.take (k + 1)) = false) := Lib.hid (by rw [TK.out, HA.out, hm]; rfl)
        go_wp2
        go_roundw
        case rel => exact ⟨k + 1, by go_num, by omega, HK, trivial⟩
        case measure => simp [intOf]; omega
      · have HF := Lib.hid (TN.out hm)
        go_wp2
        go_ret
        exact ⟨k, rfl, Lib.hid (by rw [HF.out]; simp), rfl⟩
    · obtain rfl : k = n := by omega
      have hA := HA.out
      rw [List.take_of_length_le (by rw [HL.out]; omega)] at hA
      have HF := Lib.hid hA
      clear hA
      go_wp2
      go_ret
      exact ⟨-1, rfl, Lib.hid (by rw [HF.out]; rfl), rfl⟩
theorem contains_any (A : Option Addr) (n cap : Nat) (xs : List Int) (c : Int) (B : Nat) (w : World) (hl : xs.length = n) (hn : n ≤ 1000000) (hr : Reads w B 1 A n (xs.map (Value.int .u8))) :
    Calls Try.prog 61 #[.slice A n cap, .int .u8 c] w fun e w' => e = .returned (.bool (isL c xs)) ∧ w = w' := by
  have HC := Lib.hid (index_any A n cap xs c B w hl hn hr)
  clear hl hr
  go_enter Try.func61, Try.ntmps61
  go_wp2_with (go_at_call 62; refine HC.out.mono ?_; rintro e w' ⟨r, rfl, H, rfl⟩)
  go_ret
  exact ⟨ret_bool H.out, rfl⟩
theorem is_any (A : Option Addr) (n cap : Nat) (xs : List Int) (c : Int) (B : Nat) (w : World) (hl : xs.length = n) (hn : n ≤ 1000000) (hr : Reads w B 1 A n (xs.map (Value.int .u8))) :
    Calls Try.prog 36 #[.int .u8 c, .slice A n cap] w fun e w' => e = .returned (.bool (isL c xs)) ∧ w = w' := by
  have HC := Lib.hid (contains_any A n cap xs c B w hl hn hr)
  clear hl hr
  go_enter Try.func36, Try.ntmps36
  go_wp2_with (go_at_call 61; refine HC.out.mono ?_; rintro e w' ⟨rfl, rfl⟩)
  go_ret
  exact ⟨rfl, rfl⟩
/-- A slice literal of small numbers, read as a list. -/
theorem lit_reads (w : World) (cs : Array Value) (n : Nat) (xs : List Int) (h : cs.toList = xs.map (Value.int .u8)) (hn : xs.length = n) :
    Reads (w.alloc (.cells cs 5)) (w.alloc (.cells cs 5)).heap.size 1 (some ⟨w.heap.size, 0, none⟩) n (xs.map (Value.int .u8)) :=
  reads_new w _ cs n _ h (by simpa using hn)
/-- The same, the block's number given. -/
theorem lit_at (w : World) (cs : Array Value) (b n : Nat) (xs : List Int) (hb : w.heap.size = b) (h : cs.toList = xs.map (Value.int .u8)) (hn : xs.length = n) :
    Reads (w.alloc (.cells cs 5)) (w.alloc (.cells cs 5)).heap.size 1 (some ⟨b, 0, none⟩) n (xs.map (Value.int .u8)) := by
  subst hb
  exact lit_reads w cs n xs h hn
/-- A class among those of a slice literal. -/
theorem is_cs (w : World) (cs : Array Value) (b n cap : Nat) (c : Int) (h : w.heap.size = b ∧ cs.toList = (cs.toList.map intOf).map (Value.int .u8) ∧ cs.size = n ∧ n ≤ 1000000) :
    Calls Try.prog 36 #[.int .u8 c, .slice (some ⟨b, 0, none⟩) n cap] (w.alloc (.cells cs 5)) fun e w' => e = .returned (.bool (isL c (cs.toList.map intOf))) ∧ w.alloc (.cells cs 5) = w' :=
  is_any _ n cap (cs.toList.map intOf) c _ _ (by simpa using h.2.2.1) h.2.2.2 (lit_at w cs b n _ h.1 h.2.1 (by simpa using h.2.2.1))

abbrev plV (p : Pl) : Value := .agg #[.int .u8 p.a, .int .u8 p.o, .int .u8 p.b, .bool p.cl]
abbrev plC (p : Pl) : Array Value := #[.int .u8 p.a, .int .u8 p.o, .int .u8 p.b, .bool p.cl]
set_option maxHeartbeats 4000000 in
theorem counts_any (c a : Int) (w : World) : Calls Try.prog 60 #[.int .u8 c, .int .u8 a] w fun e w' => e = .returned (.tuple #[.int .u8 (cnt c a).1, .bool (cnt c a).2]) ∧ Below w.heap.size w w' := by
  by_cases h1 : c = 20
  · have HE := Lib.hid (show cnt c a = (19, false) by unfold cnt; rw [if_pos h1])
    subst h1
    go_enter Try.func60, Try.ntmps60
    go_wp2
    go_ret2
    exact ⟨by rw [HE.out]; rfl, Below.refl _ _⟩
  · have q1 : (c == 20) = false := by simpa using h1
    by_cases h2 : 26 < c
    · have HE := Lib.hid (show cnt c a = (0, false) by unfold cnt; rw [if_neg h1, if_pos h2])
      clear h1
      go_enter Try.func60, Try.ntmps60
      go_wp2
      go_ret2
      exact ⟨by rw [HE.out]; rfl, Below.refl _ _⟩
    · by_cases h3 : c = 9
      · subst h3
        cases h4 : isL a [255, 1, 2, 3, 4, 5, 6]
        · have HE := Lib.hid (show cnt 9 a = (a, true) by unfold cnt; rw [if_neg h1, if_neg h2, if_neg (by decide), h4]; rfl)
          have H4 := Lib.hid h4
          clear h1 h4
          go_enter Try.func60, Try.ntmps60
          go_wp2_with (go_at_call 36; refine (is_any _ _ _ [255, 1, 2, 3, 4, 5, 6] _ _ _ rfl (by decide) (lit_reads _ _ _ _ rfl rfl)).mono ?_; rintro e w' ⟨rfl, rfl⟩; rw [H4.out])
          go_ret2
          exact ⟨by rw [HE.out]; rfl, bel_alloc (Below.refl _ _) _⟩
        · have HE := Lib.hid (show cnt 9 a = (0, false) by unfold cnt; rw [if_neg h1, if_neg h2, if_neg (by decide), h4]; rfl)
          have H4 := Lib.hid h4
          clear h1 h4
          go_enter Try.func60, Try.ntmps60
          go_wp2_with (go_at_call 36; refine (is_any _ _ _ [255, 1, 2, 3, 4, 5, 6] _ _ _ rfl (by decide) (lit_reads _ _ _ _ rfl rfl)).mono ?_; rintro e w' ⟨rfl, rfl⟩; rw [H4.out])
          go_ret2
          exact ⟨by rw [HE.out]; rfl, bel_alloc (Below.refl _ _) _⟩
      · have HE := Lib.hid (show cnt c a = (c, false) by unfold cnt; rw [if_neg h1, if_neg h2, if_pos h3])
        have q3 : (c != 9) = true := by simpa using h3
        clear h1 h3
        go_enter Try.func60, Try.ntmps60
        go_wp2
        go_ret2
        exact ⟨by rw [HE.out]; rfl, Below.refl _ _⟩
end Go.Proofs.Ytlobedonclimbaa.Pair

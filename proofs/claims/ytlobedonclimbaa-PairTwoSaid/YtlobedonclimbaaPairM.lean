/- Chapter 9: the reference's last rules, walked. No condition but bounds. -/
import Derived.Test.YtlobedonclimbaaPairL
namespace Go.Proofs.Ytlobedonclimbaa.Pair
open Go.RowKit
set_option linter.unusedVariables false

def amL (a b : Int) : List (Int × Int) → Bool
  | [] => false
  | x :: l => (x.1 == a && x.2 == b) || amL a b l
def encD (x : Int × Int) : List Value := [.int .u8 x.1, .int .u8 x.2]
def pairsOf : List Value → List (Int × Int)
  | x :: y :: l => (intOf x, intOf y) :: pairsOf l
  | _ => []
theorem amL_step (a b : Int) (l : List (Int × Int)) (k : Nat) (h : k < l.length) : amL a b (l.drop k) = ((l[k].1 == a && l[k].2 == b) || amL a b (l.drop (k + 1))) := by
  rw [List.drop_eq_getElem_cons h]
  rfl
theorem flat2_get (l : List (Int × Int)) (k d : Nat) (hd : d < 2) (h : k < l.length) : (l.flatMap encD)[k * 2 + d]? = (encD l[k])[d]? := by
  induction l generalizing k with
  | nil => simp at h
  | cons x l ih =>
    cases k with
    | zero =>
      rw [List.flatMap_cons, List.getElem?_append_left (by simp [encD]; omega)]
      simp
    | succ k =>
      rw [List.flatMap_cons, List.getElem?_append_right (by simp [encD]; omega)]
      rw [show (k + 1) * 2 + d - (encD x).length = k * 2 + d by simp [encD]; omega, ih k (by simpa using h)]
      rfl
set_option maxHeartbeats 4000000 in
theorem among_any (B : Nat) (cs : Array Value) (n cap : Nat) (l : List (Int × Int)) (a b : Int) (w : World) (hl : l.length = n) (hn : n ≤ 1000000) (hr : Blk w B 59 cs) (hcs : cs.toList = l.flatMap encD) :
    Calls Try.prog 31 #[.int .u8 a, .int .u8 b, .slice (some ⟨B, 0, none⟩) n cap] w fun e w' => e = .returned (.bool (amL a b l)) ∧ w = w' := by
  have HL := Lib.hid hl
  have HR := Lib.hid hr
  have HC := Lib.hid hcs
  clear hl hr hcs
  go_enter Try.func31, Try.ntmps31
  go_wp2
  go_loopw [7] (fun i wr => ∃ k : Nat, i = .int .i64 k ∧ k ≤ n ∧ Hid (amL a b l = amL a b (l.drop k)) ∧ w = wr) (fun i wr => n - (intOf i).toNat)
  case atStart => exact ⟨0, rfl, by omega, Lib.hid rfl, rfl⟩
  case round =>
    obtain ⟨k, rfl, hk, HA, rfl⟩ := hrel
    by_cases hlt : k < n
    · have hkl : k < l.length := by rw [HL.out]; exact hlt
      have TK := Lib.hid (amL_step a b l k hkl)
      have g0 : w.cell? ⟨B, k * 2, none⟩ = some (.int .u8 l[k].1) := by rw [HR.out.cell, ← Array.getElem?_toList, HC.out, ← Nat.add_zero (k * 2), flat2_get l k 0 (by omega) hkl]; rfl
      have g1 : w.cell? ⟨B, k * 2 + 1, none⟩ = some (.int .u8 l[k].2) := by rw [HR.out.cell, ← Array.getElem?_toList, HC.out, flat2_get l k 1 (by omega) hkl]; rfl
      generalize l[k] = y at g0 g1 TK
      obtain ⟨y1, y2⟩ := y
      have i0 : (0 : Int) ≤ k := by omega
      have i1 : (k : Int) < n := by omega
      simp only at g0 g1 TK
      clear hkl
      cases h1 : (y1 == a)
      · have HK : Hid (amL a b l = amL a b (l.drop (k + 1))) := Lib.hid (by rw [HA.out, TK.out, h1]; simp)
        go_wp2
        go_roundw
        case rel => exact ⟨k + 1, by go_num, by omega, HK, trivial⟩
        case measure => simp [intOf]; omega
      · cases h2 : (y2 == b)
        · have HK : Hid (amL a b l = amL a b (l.drop (k + 1))) := Lib.hid (by rw [HA.out, TK.out, h1, h2]; simp)
          go_wp2
          go_roundw
          case rel => exact ⟨k + 1, by go_num, by omega, HK, trivial⟩
          case measure => simp [intOf]; omega
        · have HF : Hid (amL a b l = true) := Lib.hid (by rw [HA.out, TK.out, h1, h2]; rfl)
          go_wp2
          go_ret
          exact ⟨ret_bool HF.out.symm, rfl⟩
    · have HF : Hid (amL a b l = false) := Lib.hid (by rw [HA.out, List.drop_of_length_le (by rw [HL.out]; omega)]; rfl)
      obtain rfl : k = n := by omega
      go_wp2
      go_ret
      exact ⟨ret_bool HF.out.symm, rfl⟩
/-- The same over a slice literal. -/
theorem am_cs (w : World) (cs : Array Value) (b n cap : Nat) (x y : Int) (h : w.heap.size = b ∧ cs.toList = (pairsOf cs.toList).flatMap encD ∧ (pairsOf cs.toList).length = n ∧ n ≤ 1000000) :
    Calls Try.prog 31 #[.int .u8 x, .int .u8 y, .slice (some ⟨b, 0, none⟩) n cap] (w.alloc (.cells cs 59)) fun e w' => e = .returned (.bool (amL x y (pairsOf cs.toList))) ∧ w.alloc (.cells cs 59) = w' := by
  obtain ⟨h1, h2, h3, h4⟩ := h
  subst h1
  exact among_any w.heap.size cs n cap _ x y _ h3 h4 (Blk.new w _ cs) h2
def lastS (a b : Int) : Int × Bool :=
  if amL a b [(0, 22), (22, 0), (23, 25), (25, 24)] then (23, false) else if amL a b [(23, 0), (24, 0), (0, 23), (0, 24)] then (24, false) else if amL a b [(15, 24), (15, 23), (22, 24), (22, 23), (24, 14), (24, 22), (23, 14), (23, 22), (13, 22), (18, 22), (22, 22)] then (25, false) else
    if a == 0 && b == 0 then (28, false) else if a == 18 && b == 0 then (29, false) else (31, true)
set_option maxHeartbeats 8000000 in
set_option maxRecDepth 100000 in
theorem last_any (a b : Int) (w : World) : Calls Try.prog 25 #[.int .u8 a, .int .u8 b] w fun e w' => e = .returned (.tuple #[.int .u8 (lastS a b).1, .bool (lastS a b).2]) ∧ Below w.heap.size w w' := by
  obtain ⟨s0, q0⟩ : ∃ s, amL a b [(0, 22), (22, 0), (23, 25), (25, 24)] = s := ⟨_, rfl⟩
  obtain ⟨s1, q1⟩ : ∃ s, amL a b [(23, 0), (24, 0), (0, 23), (0, 24)] = s := ⟨_, rfl⟩
  obtain ⟨s2, q2⟩ : ∃ s, amL a b [(15, 24), (15, 23), (22, 24), (22, 23), (24, 14), (24, 22), (23, 14), (23, 22), (13, 22), (18, 22), (22, 22)] = s := ⟨_, rfl⟩
  have HS : lastS a b = if s0 then (23, false) else if s1 then (24, false) else if s2 then (25, false) else if a == 0 && b == 0 then (28, false) else if a == 18 && b == 0 then (29, false) else (31, true) := by rw [← q0, ← q1, ← q2]; rfl
  have S0 := Lib.hid q0
  have S1 := Lib.hid q1
  have S2 := Lib.hid q2
  have HE := Lib.hid HS
  clear q0 q1 q2 HS
  cases s0
  · cases s1
    · cases s2
      · cases h1 : (a == 0)
        · cases h2 : (a == 18)
          · have HE := Lib.hid (show lastS a b = (31, true) by rw [HE.out, h1, h2]; rfl)
            go_enter Try.func25, Try.ntmps25
            go_wp2_with (go_at_call 31; (with_reducible refine (am_cs _ _ _ _ _ _ _ ?_).mono ?_); exact ⟨by simp, rfl, rfl, by decide⟩; rintro e w' ⟨rfl, rfl⟩; first | rw [show amL a b (pairsOf (#[.int .u8 0, .int .u8 22, .int .u8 22, .int .u8 0, .int .u8 23, .int .u8 25, .int .u8 25, .int .u8 24] : Array Value).toList) = _ from S0.out] | rw [show amL a b (pairsOf (#[.int .u8 23, .int .u8 0, .int .u8 24, .int .u8 0, .int .u8 0, .int .u8 23, .int .u8 0, .int .u8 24] : Array Value).toList) = _ from S1.out] | rw [show amL a b (pairsOf (#[.int .u8 15, .int .u8 24, .int .u8 15, .int .u8 23, .int .u8 22, .int .u8 24, .int .u8 22, .int .u8 23, .int .u8 24, .int .u8 14, .int .u8 24, .int .u8 22, .int .u8 23, .int .u8 14, .int .u8 23, .int .u8 22, .int .u8 13, .int .u8 22, .int .u8 18, .int .u8 22, .int .u8 22, .int .u8 22] : Array Value).toList) = _ from S2.out])
            go_ret2
            exact ⟨by rw [HE.out]; rfl, by repeat (first | with_reducible refine bel_alloc ?_ _ | with_reducible exact Below.refl _ _)⟩
          · cases h3 : (b == 0)
            · have HE := Lib.hid (show lastS a b = (31, true) by rw [HE.out, h1, h2, h3]; rfl)
              go_enter Try.func25, Try.ntmps25
              go_wp2_with (go_at_call 31; (with_reducible refine (am_cs _ _ _ _ _ _ _ ?_).mono ?_); exact ⟨by simp, rfl, rfl, by decide⟩; rintro e w' ⟨rfl, rfl⟩; first | rw [show amL a b (pairsOf (#[.int .u8 0, .int .u8 22, .int .u8 22, .int .u8 0, .int .u8 23, .int .u8 25, .int .u8 25, .int .u8 24] : Array Value).toList) = _ from S0.out] | rw [show amL a b (pairsOf (#[.int .u8 23, .int .u8 0, .int .u8 24, .int .u8 0, .int .u8 0, .int .u8 23, .int .u8 0, .int .u8 24] : Array Value).toList) = _ from S1.out] | rw [show amL a b (pairsOf (#[.int .u8 15, .int .u8 24, .int .u8 15, .int .u8 23, .int .u8 22, .int .u8 24, .int .u8 22, .int .u8 23, .int .u8 24, .int .u8 14, .int .u8 24, .int .u8 22, .int .u8 23, .int .u8 14, .int .u8 23, .int .u8 22, .int .u8 13, .int .u8 22, .int .u8 18, .int .u8 22, .int .u8 22, .int .u8 22] : Array Value).toList) = _ from S2.out])
              go_ret2
              exact ⟨by rw [HE.out]; rfl, by repeat (first | with_reducible refine bel_alloc ?_ _ | with_reducible exact Below.refl _ _)⟩
            · have HE := Lib.hid (show lastS a b = (29, false) by rw [HE.out, h1, h2, h3]; rfl)
              go_enter Try.func25, Try.ntmps25
              go_wp2_with (go_at_call 31; (with_reducible refine (am_cs _ _ _ _ _ _ _ ?_).mono ?_); exact ⟨by simp, rfl, rfl, by decide⟩; rintro e w' ⟨rfl, rfl⟩; first | rw [show amL a b (pairsOf (#[.int .u8 0, .int .u8 22, .int .u8 22, .int .u8 0, .int .u8 23, .int .u8 25, .int .u8 25, .int .u8 24] : Array Value).toList) = _ from S0.out] | rw [show amL a b (pairsOf (#[.int .u8 23, .int .u8 0, .int .u8 24, .int .u8 0, .int .u8 0, .int .u8 23, .int .u8 0, .int .u8 24] : Array Value).toList) = _ from S1.out] | rw [show amL a b (pairsOf (#[.int .u8 15, .int .u8 24, .int .u8 15, .int .u8 23, .int .u8 22, .int .u8 24, .int .u8 22, .int .u8 23, .int .u8 24, .int .u8 14, .int .u8 24, .int .u8 22, .int .u8 23, .int .u8 14, .int .u8 23, .int .u8 22, .int .u8 13, .int .u8 22, .int .u8 18, .int .u8 22, .int .u8 22, .int .u8 22] : Array Value).toList) = _ from S2.out])
              go_ret2
              exact ⟨by rw [HE.out]; rfl, by repeat (first | with_reducible refine bel_alloc ?_ _ | with_reducible exact Below.refl _ _)⟩
        · cases h3 : (b == 0)
          · have h2 : (a == 18) = false := by rw [beq_iff_eq] at h1; subst h1; rfl
            have HE := Lib.hid (show lastS a b = (31, true) by rw [HE.out, h1, h2, h3]; rfl)
            go_enter Try.func25, Try.ntmps25
            go_wp2_with (go_at_call 31; (with_reducible refine (am_cs _ _ _ _ _ _ _ ?_).mono ?_); exact ⟨by simp, rfl, rfl, by decide⟩; rintro e w' ⟨rfl, rfl⟩; first | rw [show amL a b (pairsOf (#[.int .u8 0, .int .u8 22, .int .u8 22, .int .u8 0, .int .u8 23, .int .u8 25, .int .u8 25, .int .u8 24] : Array Value).toList) = _ from S0.out] | rw [show amL a b (pairsOf (#[.int .u8 23, .int .u8 0, .int .u8 24, .int .u8 0, .int .u8 0, .int .u8 23, .int .u8 0, .int .u8 24] : Array Value).toList) = _ from S1.out] | rw [show amL a b (pairsOf (#[.int .u8 15, .int .u8 24, .int .u8 15, .int .u8 23, .int .u8 22, .int .u8 24, .int .u8 22, .int .u8 23, .int .u8 24, .int .u8 14, .int .u8 24, .int .u8 22, .int .u8 23, .int .u8 14, .int .u8 23, .int .u8 22, .int .u8 13, .int .u8 22, .int .u8 18, .int .u8 22, .int .u8 22, .int .u8 22] : Array Value).toList) = _ from S2.out])
            go_ret2
            exact ⟨by rw [HE.out]; rfl, by repeat (first | with_reducible refine bel_alloc ?_ _ | with_reducible exact Below.refl _ _)⟩
          · have HE := Lib.hid (show lastS a b = (28, false) by rw [HE.out, h1, h3]; rfl)
            go_enter Try.func25, Try.ntmps25
            go_wp2_with (go_at_call 31; (with_reducible refine (am_cs _ _ _ _ _ _ _ ?_).mono ?_); exact ⟨by simp, rfl, rfl, by decide⟩; rintro e w' ⟨rfl, rfl⟩; first | rw [show amL a b (pairsOf (#[.int .u8 0, .int .u8 22, .int .u8 22, .int .u8 0, .int .u8 23, .int .u8 25, .int .u8 25, .int .u8 24] : Array Value).toList) = _ from S0.out] | rw [show amL a b (pairsOf (#[.int .u8 23, .int .u8 0, .int .u8 24, .int .u8 0, .int .u8 0, .int .u8 23, .int .u8 0, .int .u8 24] : Array Value).toList) = _ from S1.out] | rw [show amL a b (pairsOf (#[.int .u8 15, .int .u8 24, .int .u8 15, .int .u8 23, .int .u8 22, .int .u8 24, .int .u8 22, .int .u8 23, .int .u8 24, .int .u8 14, .int .u8 24, .int .u8 22, .int .u8 23, .int .u8 14, .int .u8 23, .int .u8 22, .int .u8 13, .int .u8 22, .int .u8 18, .int .u8 22, .int .u8 22, .int .u8 22] : Array Value).toList) = _ from S2.out])
            go_ret2
            exact ⟨by rw [HE.out]; rfl, by repeat (first | with_reducible refine bel_alloc ?_ _ | with_reducible exact Below.refl _ _)⟩
      · go_enter Try.func25, Try.ntmps25
        go_wp2_with (go_at_call 31; (with_reducible refine (am_cs _ _ _ _ _ _ _ ?_).mono ?_); exact ⟨by simp, rfl, rfl, by decide⟩; rintro e w' ⟨rfl, rfl⟩; first | rw [show amL a b (pairsOf (#[.int .u8 0, .int .u8 22, .int .u8 22, .int .u8 0, .int .u8 23, .int .u8 25, .int .u8 25, .int .u8 24] : Array Value).toList) = _ from S0.out] | rw [show amL a b (pairsOf (#[.int .u8 23, .int .u8 0, .int .u8 24, .int .u8 0, .int .u8 0, .int .u8 23, .int .u8 0, .int .u8 24] : Array Value).toList) = _ from S1.out] | rw [show amL a b (pairsOf (#[.int .u8 15, .int .u8 24, .int .u8 15, .int .u8 23, .int .u8 22, .int .u8 24, .int .u8 22, .int .u8 23, .int .u8 24, .int .u8 14, .int .u8 24, .int .u8 22, .int .u8 23, .int .u8 14, .int .u8 23, .int .u8 22, .int .u8 13, .int .u8 22, .int .u8 18, .int .u8 22, .int .u8 22, .int .u8 22] : Array Value).toList) = _ from S2.out])
        go_ret2
        exact ⟨by rw [HE.out]; rfl, by repeat (first | with_reducible refine bel_alloc ?_ _ | with_reducible exact Below.refl _ _)⟩
    · go_enter Try.func25, Try.ntmps25
      go_wp2_with (go_at_call 31; (with_reducible refine (am_cs _ _ _ _ _ _ _ ?_).mono ?_); exact ⟨by simp, rfl, rfl, by decide⟩; rintro e w' ⟨rfl, rfl⟩; first | rw [show amL a b (pairsOf (#[.int .u8 0, .int .u8 22, .int .u8 22, .int .u8 0, .int .u8 23, .int .u8 25, .int .u8 25, .int .u8 24] : Array Value).toList) = _ from S0.out] | rw [show amL a b (pairsOf (#[.int .u8 23, .int .u8 0, .int .u8 24, .int .u8 0, .int .u8 0, .int .u8 23, .int .u8 0, .int .u8 24] : Array Value).toList) = _ from S1.out] | rw [show amL a b (pairsOf (#[.int .u8 15, .int .u8 24, .int .u8 15, .int .u8 23, .int .u8 22, .int .u8 24, .int .u8 22, .int .u8 23, .int .u8 24, .int .u8 14, .int .u8 24, .int .u8 22, .int .u8 23, .int .u8 14, .int .u8 23, .int .u8 22, .int .u8 13, .int .u8 22, .int .u8 18, .int .u8 22, .int .u8 22, .int .u8 22] : Array Value).toList) = _ from S2.out])
      go_ret2
      exact ⟨by rw [HE.out]; rfl, by repeat (first | with_reducible refine bel_alloc ?_ _ | with_reducible exact Below.refl _ _)⟩
  · go_enter Try.func25, Try.ntmps25
    go_wp2_with (go_at_call 31; (with_reducible refine (am_cs _ _ _ _ _ _ _ ?_).mono ?_); exact ⟨by simp, rfl, rfl, by decide⟩; rintro e w' ⟨rfl, rfl⟩; first | rw [show amL a b (pairsOf (#[.int .u8 0, .int .u8 22, .int .u8 22, .int .u8 0, .int .u8 23, .int .u8 25, .int .u8 25, .int .u8 24] : Array Value).toList) = _ from S0.out] | rw [show amL a b (pairsOf (#[.int .u8 23, .int .u8 0, .int .u8 24, .int .u8 0, .int .u8 0, .int .u8 23, .int .u8 0, .int .u8 24] : Array Value).toList) = _ from S1.out] | rw [show amL a b (pairsOf (#[.int .u8 15, .int .u8 24, .int .u8 15, .int .u8 23, .int .u8 22, .int .u8 24, .int .u8 22, .int .u8 23, .int .u8 24, .int .u8 14, .int .u8 24, .int .u8 22, .int .u8 23, .int .u8 14, .int .u8 23, .int .u8 22, .int .u8 13, .int .u8 22, .int .u8 18, .int .u8 22, .int .u8 22, .int .u8 22] : Array Value).toList) = _ from S2.out])
    go_ret2
    exact ⟨by rw [HE.out]; rfl, by repeat (first | with_reducible refine bel_alloc ?_ _ | with_reducible exact Below.refl _ _)⟩
end Go.Proofs.Ytlobedonclimbaa.Pair

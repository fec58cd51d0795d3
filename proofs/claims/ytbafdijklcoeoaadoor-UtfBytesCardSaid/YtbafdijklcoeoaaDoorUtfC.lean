/- Chapter 2: how many bytes are the beginning of well-formed ones, walked. No condition but bounds. -/
import Derived.Test.YtbafdijklcoeoaaDoorUtfB
namespace Go.Proofs.YtbafdijklcoeoaaDoor.Utf
open Go.RowKit
set_option linter.unusedVariables false
set_option linter.unusedSimpArgs false

theorem str_get (l : List UInt8) (i : Nat) (x : UInt8) (h : l[i]? = some x) : ∀ h', (⟨l.toArray⟩ : ByteArray)[i]'h' = x := by
  intro h'
  obtain ⟨h1, h2⟩ := List.getElem?_eq_some_iff.1 h
  exact h2
/-- The byte at a place, 0 beside the text. -/
def at_ (l : List UInt8) (i : Nat) : Int := (((l[i]?).getD 0).toNat : Int)
/-- So many bytes from the k-th on. -/
def begGo (n : Nat) (l : List UInt8) : Nat → Nat → Nat
  | 0, k => k
  | f + 1, k => if k < n ∧ k < l.length ∧ (k = 0 ∨ mayN (at_ l 0) k (at_ l k) = true) then begGo n l f (k + 1) else k
def begN (l : List UInt8) : Nat := begGo (longN (at_ l 0)) l 5 0
theorem longN_le (c : Int) : longN c ≤ 4 := by
  unfold longN
  repeat' split
  all_goals omega
theorem at_some {l : List UInt8} {i : Nat} {x : UInt8} (h : l[i]? = some x) : at_ l i = (x.toNat : Int) := by unfold at_; rw [h]; rfl
set_option maxHeartbeats 4000000 in
set_option maxRecDepth 20000 in
theorem begins_any (l : List UInt8) (w : World) (h0 : l ≠ []) (hl : l.length ≤ 1000000000000) :
    Calls Tryd.prog 20 #[.string ⟨l.toArray⟩] w fun e w' => e = .returned (.int .i64 ((begN l : Nat) : Int)) ∧ Drawn w w' := by
  have gl : (⟨l.toArray⟩ : ByteArray).size = l.length := rfl
  obtain ⟨x0, hx0⟩ : ∃ x, l[0]? = some x := ⟨_, List.getElem?_eq_getElem (List.length_pos_iff.2 h0)⟩
  have I0 := str_get l 0 x0 hx0
  have b0 : (0 : Int) < (l.length : Int) := by have := List.length_pos_iff.2 h0; omega
  have b0' : 0 < l.length := List.length_pos_iff.2 h0
  have bl : (l.length : Int) ≤ 1000000000000 := by omega
  have HA := Lib.hid (at_some hx0)
  have x0l := UInt8.toNat_lt x0
  have HM := Lib.hid (fun (i c : Int) (W : World) (h0 : 0 ≤ c) (h1 : c ≤ 255) => may_any (x0.toNat : Int) i c W ⟨by omega, by omega⟩ h0 h1)
  have HLo := Lib.hid (fun W => long_any (x0.toNat : Int) W (by omega) (by omega))
  obtain ⟨n, hn⟩ : ∃ n, longN (x0.toNat : Int) = n := ⟨_, rfl⟩
  have HN := Lib.hid (show n ≤ 4 by rw [← hn]; exact longN_le _)
  have HB := Lib.hid (show begN l = begGo n l 5 0 by unfold begN; rw [HA.out, hn])
  have HL2 : Hid (∀ W, Calls Tryd.prog 21 #[.int .u8 (x0.toNat : Int)] W fun e w' => e = .returned (.int .i64 ((n : Nat) : Int)) ∧ W = w') := Lib.hid (fun W => hn ▸ HLo.out W)
  clear h0 hl hx0 hn HLo x0l
  go_enter Tryd.func20, Tryd.ntmps20
  go_wp2_with (go_at_call 21; (with_reducible refine (HL2.out _).mono ?_); rintro e w' ⟨rfl, rfl⟩)
  go_loopw [4] (fun k wr => ∃ j : Nat, k = .int .i64 j ∧ j ≤ n ∧ j ≤ l.length ∧ Hid (begGo n l (5 - j) j = begN l) ∧ Hid (Drawn w wr)) (fun k _ => n - (intOf k).toNat)
  case atStart => exact ⟨0, rfl, Nat.zero_le _, Nat.zero_le _, Lib.hid HB.out.symm, Lib.hid (Drawn.refl _)⟩
  case round =>
    obtain ⟨j, rfl, hj, hjl, HG, HD⟩ := hrel
    obtain ⟨f, hf⟩ : ∃ f, 5 - j = f + 1 := ⟨4 - j, by have := HN.out; omega⟩
    have HS := Lib.hid (show (if j < n ∧ j < l.length ∧ (j = 0 ∨ mayN (at_ l 0) j (at_ l j) = true) then begGo n l f (j + 1) else j) = begN l by have := HG.out; rw [hf] at this; exact this)
    have HF := Lib.hid hf
    clear hf
    by_cases g1 : j < n
    · have q1 : decide (j < n) = true := decide_eq_true g1
      by_cases g2 : j < l.length
      · have q2 : decide (j < l.length) = true := decide_eq_true g2
        rcases Nat.eq_zero_or_pos j with g3 | g3
        · subst g3
          have HE := Lib.hid (show begGo n l f 1 = begN l by have := HS.out; rwa [if_pos ⟨g1, g2, .inl rfl⟩] at this)
          have q3 : decide (0 < n) = true := q1
          go_upto_region 3 with fail
          go_quiet (fail)
          go_wp2
          go_roundw
          case rel => exact ⟨1, by go_num, by omega, by omega, Lib.hid (by rw [show 5 - 1 = f by have := HF.out; omega]; exact HE.out), Lib.hid (HD.out.step nq)⟩
          case measure => simp [intOf]; omega
        · obtain ⟨x, hx⟩ : ∃ x, l[j]? = some x := ⟨_, List.getElem?_eq_getElem g2⟩
          have IJ := str_get l j x hx
          have HAJ := Lib.hid (at_some hx)
          have xl := UInt8.toNat_lt x
          have k1 : (0 : Int) ≤ (j : Int) := by omega
          have k2 : (j : Int) < (l.length : Int) := by omega
          have q4 : ((j : Int) == 0) = false := by simp; omega
          have q5 : (j == 0) = false := by simp; omega
          obtain ⟨b, hb⟩ : ∃ b, mayN (x0.toNat : Int) j (x.toNat : Int) = b := ⟨_, rfl⟩
          have HMJ := Lib.hid (fun W => hb ▸ HM.out j (x.toNat : Int) W (by omega) (by omega))
          have HBJ := Lib.hid (show mayN (at_ l 0) j (at_ l j) = b by rw [HA.out, HAJ.out]; exact hb)
          clear hx hb
          go_upto_region 3 with fail
          go_quiet ((go_at_call 29; exact Calls.quiet_of_same ((HMJ.out _).mono fun _ _ ⟨a, b⟩ => ⟨a, b.symm⟩)))
          cases b
          · have HE := Lib.hid (show j = begN l by have := HS.out; rwa [if_neg (fun h => by rcases h.2.2 with h | h; omega; rw [HBJ.out] at h; cases h)] at this)
            go_wp2
            go_ret
            exact ⟨by rw [← HE.out]; rfl, HD.out.step nq⟩
          · have HE := Lib.hid (show begGo n l f (j + 1) = begN l by have := HS.out; rwa [if_pos ⟨g1, g2, .inr HBJ.out⟩] at this)
            go_wp2
            go_roundw
            case rel => exact ⟨j + 1, by go_num, by omega, by omega, Lib.hid (by rw [show 5 - (j + 1) = f by have := HF.out; omega]; exact HE.out), Lib.hid (HD.out.step nq)⟩
            case measure => simp [intOf]; omega
      · have q2 : decide (j < l.length) = false := decide_eq_false g2
        have HE := Lib.hid (show j = begN l by have := HS.out; rwa [if_neg (fun h => g2 h.2.1)] at this)
        go_upto_region 3 with fail
        go_quiet (fail)
        go_wp2
        go_ret
        exact ⟨by rw [← HE.out]; rfl, HD.out.step nq⟩
    · have q1 : decide (j < n) = false := decide_eq_false g1
      have HE := Lib.hid (show j = begN l by have := HS.out; rwa [if_neg (fun h => g1 h.1)] at this)
      go_upto_region 3 with fail
      go_quiet (fail)
      go_wp2
      go_ret
      exact ⟨by rw [← HE.out]; rfl, HD.out.step nq⟩
end Go.Proofs.YtbafdijklcoeoaaDoor.Utf

/- Chapter 2: the reference's Valid and Decode, walked. No condition but bounds. -/
import Derived.Test.YtbafdijklcoeoaaDoorUtfY
namespace Go.Proofs.YtbafdijklcoeoaaDoor.Utf
open Go.RowKit
set_option linter.unusedVariables false
set_option linter.unusedSimpArgs false

theorem at_drop (l : List UInt8) (k : Nat) (x : UInt8) (h : l[k]? = some x) : at_ (l.drop k) 0 = (x.toNat : Int) := by
  unfold at_
  rw [List.getElem?_drop, Nat.add_zero, h]
  rfl
theorem str_cut (l : List UInt8) (k m : Nat) : (⟨l.toArray⟩ : ByteArray).extract k (k + m) = ⟨((l.drop k).take m).toArray⟩ := by
  apply ByteArray.ext
  simp
theorem allOk_false {l : List UInt8} {pre : List Ch} {c : Ch} {t : List Ch} (h : chs l 0 = (pre ++ [c]) ++ t) (hc : c.ok = false) : allOk (chs l 0) = false := by
  unfold allOk
  rw [h, List.all_append, List.all_append, List.all_cons, hc]
  simp
set_option maxHeartbeats 4000000 in
set_option maxRecDepth 100000 in
theorem refValid_any (l : List UInt8) (hl : l.length ≤ 1000000000) (w : World) :
    Calls Tryd.prog 15 #[strV l] w fun e w' => e = .returned (.bool (allOk (chs l 0))) ∧ Below w.heap.size w w' := by
  have gl : (⟨l.toArray⟩ : ByteArray).size = l.length := rfl
  have bl : (l.length : Int) ≤ 1000000000 := by omega
  have S1 := str_drop l
  have HL := Lib.hid hl
  clear hl
  go_enter Tryd.func15, Tryd.ntmps15
  go_wp2_with (fail)
  go_loopw [3, 4] (fun i x wr => ∃ (k : Nat) (pre : List Ch), i = .int .i64 k ∧ k ≤ l.length ∧ Hid (chs l 0 = pre ++ chs (l.drop k) k) ∧ Hid (allOk pre = true) ∧ Hid (Below w.heap.size w wr)) (fun i _ _ => l.length - (intOf i).toNat)
  case atStart => exact ⟨0, [], rfl, by omega, Lib.hid (by rw [List.drop_zero]; rfl), Lib.hid rfl, Lib.hid (Below.refl _ _)⟩
  case round =>
    obtain ⟨k, pre, rfl, hk, HP, HO, HB⟩ := hrel
    by_cases hlt : k < l.length
    · have q1 : decide ((k : Int) < (l.length : Int)) = true := decide_eq_true (by omega)
      have i1 : (k : Int) < (l.length : Int) := by omega
      have i0 : (0 : Int) ≤ (k : Int) := by omega
      obtain ⟨hne, hs1, hs2, hs3, hs4⟩ := chs_split HP.out hlt
      obtain ⟨x, hx⟩ : ∃ x, l[k]? = some x := ⟨_, List.getElem?_eq_getElem hlt⟩
      have IJ := str_get l k x hx
      have xl := UInt8.toNat_lt x
      have S2 := S1 k
      have HS1 := Lib.hid hs1
      clear hs1
      have HBg := Lib.hid (fun W => (begins_any (l.drop k) W hne (by have := HL.out; rw [List.length_drop]; omega)).mono fun e w' (h : _ ∧ Drawn _ _) => (⟨h.1, h.2.below⟩ : e = .returned (.int .i64 ((begN (l.drop k) : Nat) : Int)) ∧ Below W.heap.size W w'))
      have HLo := Lib.hid (fun W => long_any (x.toNat : Int) W (by omega) (by omega))
      have hax := at_drop l k x hx
      obtain ⟨b, hb⟩ : ∃ b, begN (l.drop k) = b := ⟨_, rfl⟩
      obtain ⟨n, hn⟩ : ∃ n, longN (x.toNat : Int) = n := ⟨_, rfl⟩
      have hok : okS (l.drop k) = (decide (0 < b) && decide (b = n)) := by unfold okS; rw [hax, hb, hn]
      rw [hb] at HBg
      rw [hn] at HLo
      have hnS : okS (l.drop k) = true → nS (l.drop k) = b := fun h => by unfold nS; rw [if_pos h, hb]
      have b4 : (b : Int) ≤ 4 ∧ (n : Int) ≤ 4 := by
        have h1 := nS_le hne
        have h2 := longN_le (x.toNat : Int)
        unfold nS at h1
        split at h1 <;> omega
      clear hx hax hb hn xl
      by_cases g0 : b = 0
      · have q2 : ((b : Int) == 0) = true := by simp; omega
        have HF := Lib.hid (allOk_false HS1.out (show okS (l.drop k) = false by rw [hok, g0]; rfl))
        clear g0 hok hnS b4
        go_wp2_with (first
          | (go_at_call 20; refine (HBg.out _).mono ?_; rintro e w1 ⟨rfl, hb1⟩; have HB1 := Lib.hid (bel_trans HB.out hb1); clear hb1))
        go_ret
        exact ⟨by rw [HF.out]; rfl, HB1.out⟩
      · have q2 : ((b : Int) == 0) = false := by simp; omega
        by_cases g1 : b = n
        · have q3 : ((b : Int) != (n : Int)) = false := by simp; omega
          have hT : okS (l.drop k) = true := by rw [hok]; simp; omega
          have hb2 := hnS hT
          have HE := Lib.hid (show chs l 0 = (pre ++ [Ch.mk (rS (l.drop k)) k b true]) ++ chs (l.drop (k + b)) (k + b) by have := HS1.out; rwa [hb2, hT] at this)
          have HO2 := Lib.hid (show allOk (pre ++ [Ch.mk (rS (l.drop k)) k b true]) = true by rw [allOk_snoc, HO.out]; rfl)
          rw [hb2] at hs2 hs3
          clear g0 g1 hok hnS hb2 hT
          go_wp2_with (first
            | (go_at_call 20; refine (HBg.out _).mono ?_; rintro e w1 ⟨rfl, hb1⟩; have HB1 := Lib.hid (bel_trans HB.out hb1); clear hb1)
            | (go_at_call 21; refine (HLo.out _).mono ?_; rintro e w2 ⟨rfl, rfl⟩))
          go_roundw
          case rel => exact ⟨k + b, _, by go_num, hs2, HE, HO2, HB1⟩
          case measure => simp [intOf]; omega
        · have q3 : ((b : Int) != (n : Int)) = true := by simp; omega
          have HF := Lib.hid (allOk_false HS1.out (show okS (l.drop k) = false by rw [hok]; simp; omega))
          clear g0 g1 hok hnS b4
          go_wp2_with (first
            | (go_at_call 20; refine (HBg.out _).mono ?_; rintro e w1 ⟨rfl, hb1⟩; have HB1 := Lib.hid (bel_trans HB.out hb1); clear hb1)
            | (go_at_call 21; refine (HLo.out _).mono ?_; rintro e w2 ⟨rfl, rfl⟩))
          go_ret
          exact ⟨by rw [HF.out]; rfl, HB1.out⟩
    · have q1 : decide ((k : Int) < (l.length : Int)) = false := decide_eq_false (by omega)
      have HE := Lib.hid (show pre = chs l 0 by have := HP.out; rw [show k = l.length by omega, List.drop_length, chs_nil, List.append_nil] at this; exact this.symm)
      rw [HE.out] at HO
      go_wp2_with (fail)
      go_ret
      exact ⟨by rw [HO.out]; rfl, HB.out⟩
end Go.Proofs.YtbafdijklcoeoaaDoor.Utf

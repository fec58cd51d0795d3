/- Chapter 2: the reference's Decode, walked. No condition but bounds. -/
import Derived.Test.YtbafdijklcoeoaaDoorUtfRb
namespace Go.Proofs.YtbafdijklcoeoaaDoor.Utf
open Go.RowKit
set_option linter.unusedVariables false
set_option linter.unusedSimpArgs false
def mxV (x y : Int) : Int := if x < y then y else x
theorem max2_V (k k' : IntKind) (x y : Int) : Builtin.max2 (.int k x) (.int k' y) = pure (.int k (mxV x y)) := by rw [max2_int]; rfl
attribute [local go_sem] max2_V max_two

theorem reads_one5 (W : World) (t : TypeId) (a b c d e : Value) : ∀ (j : Nat) (u : Value), [a, b, c, d, e][j]? = some u → (W.alloc (.cells #[a, b, c, d, e] t)).cell? ((⟨W.heap.size, 0, none⟩ : Addr).add j) = some u := fun j u hu => by
  obtain ⟨ad, q, _, h⟩ := (reads_newK (k := 5) W t #[a, b, c, d, e] 1 [a, b, c, d, e] rfl rfl).2 (by omega)
  injection q with q
  subst q
  exact h j u hu
set_option maxHeartbeats 4000000 in
set_option maxRecDepth 100000 in
theorem refDecode_any (l : List UInt8) (hl : l.length ≤ 1000000000) (w : World) :
    Calls Tryd.prog 12 #[strV l] w fun e w' => ∃ v, e = .returned v ∧ w'.ownsRow w.heap.size 32 5 v (chs l 0).length ((chs l 0).flatMap chC) ∧ Below w.heap.size w w' := by
  obtain ⟨i0, hi, hz0, hz1, hz2⟩ := info_parts A_infoCh
  have gl : (⟨l.toArray⟩ : ByteArray).size = l.length := rfl
  have bl : (l.length : Int) ≤ 1000000000 := by omega
  have S1 := str_drop l
  have HL := Lib.hid hl
  clear hl
  go_enter Tryd.func12, Tryd.ntmps12
  go_wp2_with (fail)
  go_loopw [3, 4, 5] (fun o i x wr => ∃ (k : Nat) (pre : List Ch) (A0 : Option Addr) (c0 : Nat), i = .int .i64 k ∧ o = .slice A0 pre.length c0 ∧ k ≤ l.length ∧ pre.length ≤ k ∧ Hid (chs l 0 = pre ++ chs (l.drop k) k) ∧ Hid (wr.ownsRow w.heap.size 32 5 (.slice A0 pre.length c0) pre.length (pre.flatMap chC)) ∧ Hid (Below w.heap.size w wr)) (fun _ i _ _ => l.length - (intOf i).toNat)
  case atStart => exact ⟨0, [], none, 0, rfl, rfl, by omega, Nat.le_refl _, Lib.hid (by rw [List.drop_zero]; rfl), Lib.hid (own_nil _ _ _ _), Lib.hid (Below.refl _ _)⟩
  case round =>
    obtain ⟨k, pre, A0, c0, rfl, rfl, hk, hpk, HP, HO, HB⟩ := hrel
    by_cases hlt : k < l.length
    · have q1 : decide ((k : Int) < (l.length : Int)) = true := decide_eq_true (by omega)
      have i1 : (k : Int) < (l.length : Int) := by omega
      have i0' : (0 : Int) ≤ (k : Int) := by omega
      obtain ⟨hne, hs1, hs2, hs3, hs4⟩ := chs_split HP.out hlt
      obtain ⟨x, hx⟩ : ∃ x, l[k]? = some x := ⟨_, List.getElem?_eq_getElem hlt⟩
      have IJ := str_get l k x hx
      have xl := UInt8.toNat_lt x
      have S2 := S1 k
      have HS1 := Lib.hid hs1
      clear hs1
      have HBg := Lib.hid (fun W => (begins_any (l.drop k) W hne (by have := HL.out; rw [List.length_drop]; omega)).mono fun e w' (h : _ ∧ Drawn _ _) => (⟨h.1, h.2.below⟩ : e = .returned (.int .i64 ((begN (l.drop k) : Nat) : Int)) ∧ Below W.heap.size W w'))
      have HLo := Lib.hid (fun W => long_any (x.toNat : Int) W (by omega) (by omega))
      have hax := at_drop l k x hx
      have HFm := Lib.hid (fun (h : okS (l.drop k) = true) => ok_form hne h)
      obtain ⟨b, hb⟩ : ∃ b, begN (l.drop k) = b := ⟨_, rfl⟩
      obtain ⟨n, hn⟩ : ∃ n, longN (x.toNat : Int) = n := ⟨_, rfl⟩
      have hok : okS (l.drop k) = (decide (0 < b) && decide (b = n)) := by unfold okS; rw [hax, hb, hn]
      rw [hb] at HBg HFm
      rw [hn] at HLo
      have hnS : okS (l.drop k) = true → nS (l.drop k) = b := fun h => by unfold nS; rw [if_pos h, hb]
      have hnS2 : okS (l.drop k) = false → nS (l.drop k) = max b 1 := fun h => by unfold nS; rw [if_neg (by rw [h]; simp), hb]
      have hrS : okS (l.drop k) = true → rS (l.drop k) = pointN ((l.drop k).take b) := fun h => by unfold rS; rw [if_pos h, hb]
      have b4 : (b : Int) ≤ 4 ∧ (n : Int) ≤ 4 := by
        have h1 := nS_le hne
        have h2 := longN_le (x.toNat : Int)
        unfold nS at h1
        split at h1 <;> omega
      have hlen : (pre.length : Int) ≤ 1000000000 := by omega
      clear hx hax hb hn xl
      by_cases g : 0 < b ∧ b = n
      · have q2 : decide ((0 : Int) < (b : Int)) = true := decide_eq_true (by omega)
        have q3 : ((b : Int) == (n : Int)) = true := by simp; omega
        have hT : okS (l.drop k) = true := by rw [hok]; simp; omega
        have hb2 := hnS hT
        have S3 := str_cut l k b
        have HPt := Lib.hid (fun W => point_any ((l.drop k).take b) W (HFm.out hT).2)
        rw [← hrS hT] at HPt
        have HE := Lib.hid (show chs l 0 = (pre ++ [Ch.mk (rS (l.drop k)) k b true]) ++ chs (l.drop (k + b)) (k + b) by have := HS1.out; rwa [hb2, hT] at this)
        rw [hb2] at hs2 hs3
        have kb : (k : Int) + (b : Int) ≤ (l.length : Int) := by omega
        clear g hok hnS hnS2 hrS hb2 hT HFm hne
        generalize rS (l.drop k) = r at HPt HE
        go_wp2_with (first
          | (go_at_call 20; refine (HBg.out _).mono ?_; rintro e w1 ⟨rfl, hb1⟩; have HB1 := Lib.hid hb1; clear hb1)
          | (go_at_call 21; refine (HLo.out _).mono ?_; rintro e w2 ⟨rfl, rfl⟩)
          | (go_at_call 22; refine (HPt.out _).mono ?_; rintro e w2 ⟨rfl, rfl⟩)
          | (at_builtin; refine wpList_append_own _ rfl (.tmp 24) (.tmp 35) 23 rfl w.heap.size 32 i0 (.agg #[.int .i32 0, .int .i64 0, .int .i64 0, .int .i64 0, .int .u8 0]) 5 40 Tryd.underlying23 hi hz0 hz1 hz2 rfl (by decide) (.slice A0 pre.length c0) _ _ rfl ((own_below HO.out HB1.out).alloc _) ⟨_, 0, none⟩ 1 1 (chC ⟨r, k, b, true⟩) rfl rfl (reads_one5 _ _ _ _ _ _ _) (by simp [chC, Value.oneCell']) ?c4 ?c5 ?c6 ?_))
        case c4 => unfold maxLen; omega
        case c5 => omega
        case c6 => have := HB.out.size; have := HB1.out.size; simp only [World.size_alloc]; omega
        intro v' w7 hown' hg _
        have hb7 := bel_grown (bel_alloc (bel_trans HB.out HB1.out) _) ((own_below HO.out HB1.out).alloc _) hg
        obtain ⟨A', c', rfl⟩ := own_shape hown'
        go_wp2
        go_roundw
        case rel => exact ⟨k + b, pre ++ [Ch.mk r k b true], A', c', by go_num, by simp, hs2, by simp; omega, HE, Lib.hid (by simpa using hown'), Lib.hid hb7⟩
        case measure => simp [intOf]; omega
      · have hT : okS (l.drop k) = false := by rw [hok]; simp; omega
        have hb2 := hnS2 hT
        obtain ⟨m, hm⟩ : ∃ m : Nat, max b 1 = m := ⟨_, rfl⟩
        have em : mxV (b : Int) 1 = (m : Int) := by unfold mxV; split <;> omega
        rw [hm] at hb2
        have HE := Lib.hid (show chs l 0 = (pre ++ [Ch.mk 65533 k m false]) ++ chs (l.drop (k + m)) (k + m) by have := HS1.out; rwa [hb2, hT, rS_bad hT] at this)
        rw [hb2] at hs2 hs3
        have m4 : (m : Int) ≤ 4 := by omega
        by_cases g0 : b = 0
        · have q2 : decide ((0 : Int) < (b : Int)) = false := decide_eq_false (by omega)
          have q2n : decide (0 < b) = false := decide_eq_false (by omega)
          have q2m : ¬ 0 < b := by omega
          clear g hok hnS hnS2 hrS hb2 hT HFm hne hm g0
          go_wp2_with (first
            | (go_at_call 20; refine (HBg.out _).mono ?_; rintro e w1 ⟨rfl, hb1⟩; have HB1 := Lib.hid hb1; clear hb1)
            | (at_builtin; refine wpList_append_own _ rfl (.tmp 39) (.tmp 43) 23 rfl w.heap.size 32 i0 (.agg #[.int .i32 0, .int .i64 0, .int .i64 0, .int .i64 0, .int .u8 0]) 5 40 Tryd.underlying23 hi hz0 hz1 hz2 rfl (by decide) (.slice A0 pre.length c0) _ _ rfl ((own_below HO.out HB1.out).alloc _) ⟨_, 0, none⟩ 1 1 (chC ⟨65533, k, m, false⟩) rfl rfl (reads_one5 _ _ _ _ _ _ _) (by simp [chC, Value.oneCell']) ?c4 ?c5 ?c6 ?_))
          case c4 => unfold maxLen; omega
          case c5 => omega
          case c6 => have := HB.out.size; have := HB1.out.size; simp only [World.size_alloc]; omega
          intro v' w7 hown' hg _
          have hb7 := bel_grown (bel_alloc (bel_trans HB.out HB1.out) _) ((own_below HO.out HB1.out).alloc _) hg
          obtain ⟨A', c', rfl⟩ := own_shape hown'
          go_wp2
          go_roundw
          case rel => exact ⟨k + m, pre ++ [Ch.mk 65533 k m false], A', c', by go_num, by simp, hs2, by simp; omega, HE, Lib.hid (by simpa using hown'), Lib.hid hb7⟩
          case measure => simp [intOf]; omega
        · have q2 : decide ((0 : Int) < (b : Int)) = true := decide_eq_true (by omega)
          have q2n : decide (0 < b) = true := decide_eq_true (by omega)
          have q2m : 0 < b := by omega
          have q3 : ((b : Int) == (n : Int)) = false := by simp; omega
          have q3n : (b == n) = false := by simp; omega
          have q3m : ¬ b = n := by omega
          clear g hok hnS hnS2 hrS hb2 hT HFm hne hm g0
          go_wp2_with (first
            | (go_at_call 20; refine (HBg.out _).mono ?_; rintro e w1 ⟨rfl, hb1⟩; have HB1 := Lib.hid hb1; clear hb1)
            | (go_at_call 21; refine (HLo.out _).mono ?_; rintro e w2 ⟨rfl, rfl⟩)
            | (at_builtin; refine wpList_append_own _ rfl (.tmp 39) (.tmp 43) 23 rfl w.heap.size 32 i0 (.agg #[.int .i32 0, .int .i64 0, .int .i64 0, .int .i64 0, .int .u8 0]) 5 40 Tryd.underlying23 hi hz0 hz1 hz2 rfl (by decide) (.slice A0 pre.length c0) _ _ rfl ((own_below HO.out HB1.out).alloc _) ⟨_, 0, none⟩ 1 1 (chC ⟨65533, k, m, false⟩) rfl rfl (reads_one5 _ _ _ _ _ _ _) (by simp [chC, Value.oneCell']) ?c4 ?c5 ?c6 ?_))
          case c4 => unfold maxLen; omega
          case c5 => omega
          case c6 => have := HB.out.size; have := HB1.out.size; simp only [World.size_alloc]; omega
          intro v' w7 hown' hg _
          have hb7 := bel_grown (bel_alloc (bel_trans HB.out HB1.out) _) ((own_below HO.out HB1.out).alloc _) hg
          obtain ⟨A', c', rfl⟩ := own_shape hown'
          go_wp2
          go_roundw
          case rel => exact ⟨k + m, pre ++ [Ch.mk 65533 k m false], A', c', by go_num, by simp, hs2, by simp; omega, HE, Lib.hid (by simpa using hown'), Lib.hid hb7⟩
          case measure => simp [intOf]; omega
    · have q1 : decide ((k : Int) < (l.length : Int)) = false := decide_eq_false (by omega)
      have HE := Lib.hid (show pre = chs l 0 by have := HP.out; rw [show k = l.length by omega, List.drop_length, chs_nil, List.append_nil] at this; exact this.symm)
      go_wp2_with (fail)
      go_ret
      rw [← HE.out]
      exact ⟨_, rfl, HO.out, HB.out⟩
end Go.Proofs.YtbafdijklcoeoaaDoor.Utf

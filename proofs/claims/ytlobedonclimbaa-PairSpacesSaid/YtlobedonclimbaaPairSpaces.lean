/- Chapter 9: PairSpaces, walked: it returns true, for every row. No condition. -/
import Derived.Test.YtlobedonclimbaaPairZ
namespace Go.Proofs.Ytlobedonclimbaa.Pair
open Go.RowKit
set_option linter.unusedVariables false

set_option maxHeartbeats 16000000 in
set_option maxRecDepth 100000 in
theorem PairSpaces_any (A : Option Addr) (n c : Nat) (xs : List Int) (cut : Int) (k0 : 0 ≤ cut) (k1 : cut ≤ 255) (hl : xs.length = n) (hc : n ≤ c) (hm : c ≤ maxLen) (w : World) (hr : Reads w w.heap.size 1 A n (xs.map (Value.int .u8))) :
    Calls Try.prog 7 #[.slice A n c, .int .u8 cut] w fun e w' => e = .returned (.bool true) ∧ Below w.heap.size w w' := by
  unfold maxLen at hm
  rcases Nat.lt_or_ge 120 n with h | h
  · have HE := Lib.hid (show greatB n = true from decide_eq_true h)
    clear hr hl
    go_enter Try.func7, Try.ntmps7
    go_wp2_with (first
      | (go_at_call 9; refine (great_any _ _ _ (by omega) _).mono ?_; rintro e w' ⟨rfl, rfl⟩; rw [HE.out])
      | (go_at_call 10; refine (head_any _).mono ?_; rintro e w8 ⟨rfl, hb8⟩))
    go_ret
    exact ⟨rfl, hb8⟩
  · have HE := Lib.hid (show greatB n = false from decide_eq_false (by omega))
    rcases Nat.eq_zero_or_pos n with hn0 | hn1
    · have z0 : ((n : Int) == 0) = true := by rw [hn0]; rfl
      clear hr hl hn0
      go_enter Try.func7, Try.ntmps7
      go_wp2_with (first
        | (go_at_call 9; refine (great_any _ _ _ (by omega) _).mono ?_; rintro e w' ⟨rfl, rfl⟩; rw [HE.out])
        | (go_at_call 10; refine (head_any _).mono ?_; rintro e w8 ⟨rfl, hb8⟩))
      go_ret
      exact ⟨rfl, hb8⟩
    · skip
      obtain ⟨m, hmn, e0, e1⟩ := nat_mod cut n k0 hn1
      obtain ⟨k, hk⟩ : ∃ k : Nat, m + 1 = k := ⟨_, rfl⟩
      obtain ⟨r, hr2⟩ : ∃ r : Nat, k + r = n := ⟨n - k, by omega⟩
      obtain ⟨k2, hk2⟩ : ∃ k2 : Nat, k + 1 = k2 := ⟨_, rfl⟩
      obtain ⟨n1, hnn⟩ : ∃ n1 : Nat, n + 1 = n1 := ⟨_, rfl⟩
      have z0 : ((n : Int) == 0) = false := by rw [beq_eq_false_iff_ne]; omega
      have z1 : ¬ (n : Int) = 0 := by omega
      have e2 : IntKind.i64.wrap ((m : Int) + 1) = (k : Int) := by rw [IntKind.wrap_i64]; omega
      have e3 : IntKind.i64.wrap ((m : Int) + 2) = (k2 : Int) := by rw [IntKind.wrap_i64]; omega
      have e4 := top8 A n c k (by omega)
      obtain ⟨A1, c1, e5, hr1⟩ := cut8 A n c k r _ w w.heap.size hr hr2 hc
      have HT := Lib.hid (fun V (hV : Below w.heap.size w V) => (Reads.take8 hr (show k ≤ n by omega)).below hV)
      have HD : Hid (∀ V, Below w.heap.size w V → Reads V w.heap.size 1 A1 r ((xs.drop k).map (Value.int .u8))) := Lib.hid (fun V hV => by
        have := hr1.below hV
        rwa [← List.map_drop] at this)
      obtain ⟨ys, hys⟩ : ∃ ys : List Int, xs.take k ++ 5 :: xs.drop k = ys := ⟨_, rfl⟩
      have YS := Lib.hid hys
      have YL := Lib.hid (show ys.length = n1 by rw [← hys]; simp; omega)
      have HL := Lib.hid hl
      have HR := Lib.hid hr
      clear hl hr hr1 hys
      obtain ⟨i0, hi, hz0, hz1, hz2⟩ := info_parts A_info5
      have HI := Lib.hid hi
      have HZ0 := Lib.hid hz0
      have HZ1 := Lib.hid hz1
      have HZ2 := Lib.hid hz2
      clear hi hz0 hz1 hz2
      have B1 : Hid (0 + k ≤ maxLen ∧ (0 + k) * 1 ≤ 140737488355328) := ⟨by unfold maxLen; omega, by omega⟩
      have B2 : Hid (0 + k + 1 ≤ maxLen ∧ (0 + k + 1) * 1 ≤ 140737488355328) := ⟨by unfold maxLen; omega, by omega⟩
      have B3 : Hid (0 + k + 1 + r ≤ maxLen ∧ (0 + k + 1 + r) * 1 ≤ 140737488355328) := ⟨by unfold maxLen; omega, by omega⟩
      have P1 := Lib.hid (World.ownsRow_lit (base := w.heap.size) (e := 5) (size := 1) w #[] 0 (Nat.le_refl _) (by simp [maxLen]) (by simp))
      have P2 := Lib.hid (P1.out.alloc (.cells #[.int .u8 5] 5))
      have P3 := Lib.hid (show ((w.alloc (.cells #[.int .u8 5] 5)).alloc (.cells #[] 5)).ownsRow w.heap.size 5 1 (.slice (some ⟨w.heap.size + 1, 0, none⟩) 0 0) 0 [] by
        have := World.ownsRow_lit (base := w.heap.size) (e := 5) (size := 1) (w.alloc (.cells #[.int .u8 5] 5)) #[] 0 (by simp) (by simp [maxLen]) (by simp)
        simpa using this)
      have KB := Lib.hid (show Blk ((w.alloc (.cells #[] 5)).alloc (.cells #[.int .u8 5] 5)) (w.heap.size + 1) 5 #[.int .u8 5] by
        have := Blk.new (w.alloc (.cells #[] 5)) 5 #[.int .u8 5]
        simpa using this)
      have KC := Lib.hid ((Blk.new w 5 #[.int .u8 5]).alloc (.cells #[] 5))
      obtain ⟨ad, hA, _, g0⟩ := reads_kind HL.out HR.out (show m < n by omega)
      subst hA
      obtain ⟨x, hx⟩ : ∃ x, xs[m]?.getD 0 = x := ⟨_, rfl⟩
      rw [hx] at g0
      have HX := Lib.hid hx
      clear hx
      have i2 : (0 : Int) ≤ m := by omega
      have i3 : (m : Int) < n := by omega
      rcases Decidable.em (¬ x = 5) with h5 | h5
      · have z5 : (x != 5) = true := by simpa using h5
        go_enter Try.func7, Try.ntmps7
        go_wp2_with (first
          | (go_at_call 9; refine (great_any _ _ _ (by omega) _).mono ?_; rintro e w' ⟨rfl, rfl⟩; rw [HE.out])
          | (go_at_call 10; refine (head_any _).mono ?_; rintro e w8 ⟨rfl, hb8⟩))
        go_ret
        exact ⟨rfl, hb8⟩
      have h5 := Decidable.not_not.1 h5
      subst h5
      have z5 : ((5 : Int) != 5) = false := rfl
      go_enter Try.func7, Try.ntmps7
      go_upto_region 4 with (first
        | (go_at_call 9; refine (great_any _ _ _ (by omega) _).mono ?_; rintro e w' ⟨rfl, rfl⟩; rw [HE.out]))
      go_cut [6] (fun s wx => ∃ A' c', s = .slice A' n1 c' ∧ n1 ≤ c' ∧ Hid (Reads wx wx.heap.size 1 A' n1 (ys.map (Value.int .u8))) ∧ Hid (Below w.heap.size w wx))
      case first => as_aux_lemma =>
        go_region_law (first
          | ((refine step_append_any _ (by rfl) (.tmp 33) (.tmp 37) _ (by rfl) w.heap.size 5 i0 (.int .u8 0) 1 1 Try.underlying22 HI.out HZ0.out HZ1.out HZ2.out rfl (by decide) (.slice (some ⟨w.heap.size, 0, none⟩) 0 0) 0 [] (by rfl) P1.out.drew w.heap.size (some ad) k c _ (by rfl) (HT.out _ (bel_drew (bel_alloc (Below.refl w.heap.size w) _))) (one8 _) B1.out.1 B1.out.2 (bel_drew (bel_alloc (Below.refl w.heap.size w) _)).size ?_); intro v1 w1 hown1 hg1 hat1; have hb1 := bel_own (bel_drew (bel_alloc (Below.refl w.heap.size w) _)) (bel_drew (bel_alloc (Below.refl w.heap.size w) _)).size P1.out.drew hg1)
          | ((refine step_append_any _ (by rfl) (.tmp 33) (.tmp 37) _ (by rfl) w.heap.size 5 i0 (.int .u8 0) 1 1 Try.underlying22 HI.out HZ0.out HZ1.out HZ2.out rfl (by decide) (.slice (some ⟨w.heap.size, 0, none⟩) 0 0) 0 [] (by rfl) P2.out.drew w.heap.size (some ad) k c _ (by rfl) (HT.out _ (bel_drew ((bel_alloc (Below.refl w.heap.size w) _).alloc (bel_alloc (Below.refl w.heap.size w) _).size _))) (one8 _) B1.out.1 B1.out.2 (bel_drew ((bel_alloc (Below.refl w.heap.size w) _).alloc (bel_alloc (Below.refl w.heap.size w) _).size _)).size ?_); intro v1 w1 hown1 hg1 hat1; have hb1 := bel_own (bel_drew ((bel_alloc (Below.refl w.heap.size w) _).alloc (bel_alloc (Below.refl w.heap.size w) _).size _)) (bel_drew ((bel_alloc (Below.refl w.heap.size w) _).alloc (bel_alloc (Below.refl w.heap.size w) _).size _)).size P2.out.drew hg1)
          | ((refine step_append_any _ (by rfl) (.tmp 33) (.tmp 37) _ (by rfl) w.heap.size 5 i0 (.int .u8 0) 1 1 Try.underlying22 HI.out HZ0.out HZ1.out HZ2.out rfl (by decide) (.slice (some ⟨w.heap.size + 1, 0, none⟩) 0 0) 0 [] (by rfl) P3.out.drew w.heap.size (some ad) k c _ (by rfl) (HT.out _ (bel_drew ((bel_alloc (Below.refl w.heap.size w) _).alloc (bel_alloc (Below.refl w.heap.size w) _).size _))) (one8 _) B1.out.1 B1.out.2 (bel_drew ((bel_alloc (Below.refl w.heap.size w) _).alloc (bel_alloc (Below.refl w.heap.size w) _).size _)).size ?_); intro v1 w1 hown1 hg1 hat1; have hb1 := bel_own (bel_drew ((bel_alloc (Below.refl w.heap.size w) _).alloc (bel_alloc (Below.refl w.heap.size w) _).size _)) (bel_drew ((bel_alloc (Below.refl w.heap.size w) _).alloc (bel_alloc (Below.refl w.heap.size w) _).size _)).size P3.out.drew hg1)
          | ((refine step_append_any _ (by rfl) (.tmp 38) (.tmp 39) _ (by rfl) w.heap.size 5 i0 (.int .u8 0) 1 1 Try.underlying22 HI.out HZ0.out HZ1.out HZ2.out rfl (by decide) v1 (0 + k) _ (by rfl) (hown1.alloc _) (w1.heap.size + 1) (some ⟨w1.heap.size, 0, none⟩) 1 1 [.int .u8 5] (by rfl) (reads_one (Blk.new w1 _ _) (Nat.lt_succ_self _)) (one8 [5]) B2.out.1 B2.out.2 (hb1.alloc hb1.size _).size ?_); intro v2 w2 hown2 hg2 hat2; have hb2 := bel_own (hb1.alloc hb1.size _) (hb1.alloc hb1.size _).size (hown1.alloc _) hg2)
          | ((have K9 := Blk.grown KB.out.drew hg1 (by simp [Value.ownBlock])); (refine step_append_any _ (by rfl) (.tmp 38) (.tmp 39) _ (by rfl) w.heap.size 5 i0 (.int .u8 0) 1 1 Try.underlying22 HI.out HZ0.out HZ1.out HZ2.out rfl (by decide) v1 (0 + k) _ (by rfl) hown1 w1.heap.size (some ⟨w.heap.size + 1, 0, none⟩) 1 1 [.int .u8 5] (by rfl) (reads_one K9 K9.lt) (one8 [5]) B2.out.1 B2.out.2 hb1.size ?_); intro v2 w2 hown2 hg2 hat2; have hb2 := bel_own hb1 hb1.size hown1 hg2)
          | ((have K9 := Blk.grown KC.out.drew hg1 (by simp [Value.ownBlock])); (refine step_append_any _ (by rfl) (.tmp 38) (.tmp 39) _ (by rfl) w.heap.size 5 i0 (.int .u8 0) 1 1 Try.underlying22 HI.out HZ0.out HZ1.out HZ2.out rfl (by decide) v1 (0 + k) _ (by rfl) hown1 w1.heap.size (some ⟨w.heap.size, 0, none⟩) 1 1 [.int .u8 5] (by rfl) (reads_one K9 K9.lt) (one8 [5]) B2.out.1 B2.out.2 hb1.size ?_); intro v2 w2 hown2 hg2 hat2; have hb2 := bel_own hb1 hb1.size hown1 hg2)
          | ((refine step_append_any _ (by rfl) (.tmp 40) (.tmp 44) _ (by rfl) w.heap.size 5 i0 (.int .u8 0) 1 1 Try.underlying22 HI.out HZ0.out HZ1.out HZ2.out rfl (by decide) v2 (0 + k + 1) _ (by rfl) hown2 w.heap.size A1 r c1 _ (by rfl) (HD.out _ hb2) (one8 _) B3.out.1 B3.out.2 hb2.size ?_); intro v3 w3 hown3 hg3 hat3; have hb3 := bel_own hb2 hb2.size hown2 hg3))
        all_goals
          go_wp2
          go_meet
        all_goals
          obtain ⟨A', c', rfl, hcc, hRR⟩ := own_to hown3 (show _ = n1 by omega) (show _ = ys.map (Value.int .u8) by rw [← YS.out]; simp)
          exact ⟨A', c', rfl, hcc, Lib.hid hRR, Lib.hid hb3⟩
      case rest =>
      obtain ⟨A', c', rfl, hcc, RY, BY⟩ := hcut
      clear e4 e5 B1 B2 B3 P1 P2 P3 KB KC HT HD HI HZ0 HZ1 HZ2
      have i0 : (0 : Int) ≤ k := by omega
      have i1 : (k : Int) < n1 := by omega
      have q0 : ((n : Int) != (n : Int)) = false := by simp
      have q1 : ((n1 : Int) != (n1 : Int)) = false := by simp
      have B1 := BY
      have HB := Lib.hid (fun V (hV : Below w.heap.size w V) => RulesC_any (some ad) n c xs HL.out (by omega) V ((HR.out.below hV).more hV.size))
      have HY := Lib.hid (fun V (hV : Below _ _ V) => RulesC_any A' n1 c' ys YL.out (by omega) V ((RY.out.below hV).more hV.size))
      obtain ⟨f1, f2, f3⟩ := spaces_plain xs m k k2 (by rw [HL.out]; exact hmn) HX.out hk hk2 ys YS.out
      have F1 := Lib.hid f1
      have F2 := Lib.hid f2
      have F3 := Lib.hid f3
      clear f1 f2 f3
      have z7 : ((7 : Int) != 7) = false := rfl
      go_upto_region 8 with (first
        | (go_at_call 13; ((with_reducible refine (HB.out _ B1.out).mono ?_); rintro e w5 ⟨A5, c5, rfl, hc5, q5, hb5⟩; have R5 := Lib.hid q5; clear q5; have B5 := Lib.hid (bel_trans B1.out hb5)))
        | (go_at_call 13; ((with_reducible refine (HY.out _ hb5).mono ?_); rintro e w6 ⟨A6, c6, rfl, hc6, q6, hb6⟩; have R6 := Lib.hid q6; obtain ⟨ad6, e8, g6⟩ := num_cell ys YL.out q6 (show k < n1 by omega) F1.out; subst e8; clear q6; have B6 := Lib.hid (bel_trans B5.out hb6))))
      have r5 := Lib.hid ((R5.out.below hb6).more hb6.size)
      have e10 := top8 (some ad6) n1 c6 k (by omega)
      have e11 := top8 A5 n c5 k (by omega)
      obtain ⟨D6, d6, e12, u6⟩ := cut8 (some ad6) n1 c6 k2 r _ w6 w6.heap.size R6.out (by omega) hc6
      obtain ⟨D5, d5, e13, u5⟩ := cut8 A5 n c5 k r _ w6 w6.heap.size r5.out (by omega) hc5
      have T6 := Lib.hid (top_list R6.out (show k ≤ n1 by omega) F2.out)
      have T5 := Lib.hid (top_list r5.out (show k ≤ n by omega) rfl)
      rw [← List.map_drop] at u5 u6
      rw [F3.out] at u6
      have U5 := Lib.hid u5
      have U6 := Lib.hid u6
      clear u5 u6
      have HS := Lib.hid (fun V (hV : Below w6.heap.size w6 V) => same8_any (some ad6) A5 k c6 c5 _ (by omega) V ((T6.out.below hV).more hV.size) ((T5.out.below hV).more hV.size))
      have HS2 := Lib.hid (fun V (hV : Below w6.heap.size w6 V) => same8_any D6 D5 r d6 d5 _ (by omega) V ((U6.out.below hV).more hV.size) ((U5.out.below hV).more hV.size))
      clear hb5 hb6
      go_region_held3 (fun w' => Below w6.heap.size w6 w') (first | with_reducible exact Below.refl _ _ | with_reducible exact bel_drew (Below.refl _ _) | with_reducible exact bel_trans (by assumption) (by assumption) | go_keep)
        (first
        | (go_at_call 12; ((with_reducible refine (HS.out _ (by assumption)).mono ?_); rintro e w7 ⟨rfl, hb7⟩))
        | (go_at_call 12; ((with_reducible refine (HS2.out _ (by assumption)).mono ?_); rintro e w9 ⟨rfl, hb9⟩))
        | (go_at_call 10; (refine (head_any _).mono ?_; rintro e w8 ⟨rfl, hb8⟩)))
      go_wp2
      go_ret
      exact ⟨rfl, bel_trans B6.out (by assumption)⟩
end Go.Proofs.Ytlobedonclimbaa.Pair

/- Chapter 9: the reference's Rule, walked. No condition but bounds. -/
import Derived.Test.YtlobedonclimbaaPairN
namespace Go.Proofs.Ytlobedonclimbaa.Pair
open Go.RowKit
set_option linter.unusedVariables false
set_option linter.unusedSimpArgs false

theorem Reads.take {w : World} {B n m : Nat} {A : Option Addr} {xs : List Int} {f : Int → Value} (h : Reads w B 1 A n (xs.map f)) (hm : m ≤ n) (hl : xs.length = n) : Reads w B 1 A m ((xs.take m).map f) := by
  refine ⟨by simp; omega, fun h0 => ?_⟩
  obtain ⟨ad, hA, hb, hc⟩ := h.2 (by omega)
  refine ⟨ad, hA, hb, fun j u hu => hc j u ?_⟩
  rw [List.map_take, List.getElem?_take] at hu
  split at hu
  · exact hu
  · cases hu
theorem moreF {p : Pl} (k : Nat) (h : ∀ j, j < k → isR j p = false) (h1 : isR k p = false) : ∀ j, j < k + 1 → isR j p = false := fun j hj => by
  by_cases e : j = k
  · subst e; exact h1
  · exact h j (by omega)
theorem both_no (a b : Int) (h : isL a [2, 3, 4] = false) : bothL a b [2, 3] = false := by
  simp only [isL, Bool.or_eq_false_iff] at h
  simp [bothL, h.1]
theorem l1234 (b : Int) : isL b [1, 2, 3, 4] = (b == 1 || isL b [2, 3, 4]) := rfl
theorem Reads.of_blk {w : World} {B : Nat} (h : Blk w B 5 #[.int .u8 2, .int .u8 3, .int .u8 4]) : Reads w w.heap.size 1 (some ⟨B, 0, none⟩) 3 ([2, 3, 4].map (Value.int .u8)) :=
  ⟨rfl, fun _ => ⟨_, rfl, h.lt, fun j u hu => by
    have ha : (⟨B, 0, none⟩ : Addr).add j = ⟨B, j, none⟩ := by
      unfold Addr.add
      split
      · subst_vars; rfl
      · simp
    rw [ha, h.cell j, ← hu]
    simp⟩⟩
set_option maxHeartbeats 32000000 in
set_option maxRecDepth 100000 in
theorem refRule_any (A : Option Addr) (n c : Nat) (xs : List Int) (i : Nat) (hl : xs.length = n) (hn : n ≤ 1000000) (hnc : n ≤ c) (hi1 : 1 ≤ i) (hi2 : i < n) (w : World) (hr : Reads w w.heap.size 1 A n (xs.map (Value.int .u8))) :
    Calls Try.prog 18 #[.slice A n c, .int .i64 i] w fun e w' => e = .returned (.tuple #[.int .u8 (saysP (pAt xs i).2).1, .bool (saysP (pAt xs i).2).2]) ∧ Below w.heap.size w w' := by
  obtain ⟨ad, hA, _, _⟩ := hr.2 (by omega)
  subst hA
  have HC := Lib.hid (refCounts_any (some ad) (i + 1) c (xs.take (i + 1)) (by simp; omega) (by omega) w (Reads.take hr (by omega) hl))
  have HP := Lib.hid (pAt_eq xs i hi1 (by omega))
  have HL := Lib.hid hl
  have j0 : (0 : Int) ≤ i := by omega
  have j1 : (i : Int) + 1 ≤ c := by omega
  have j2 : IntKind.i64.wrap ((i : Int) + 1) = (i : Int) + 1 := by rw [IntKind.wrap_i64]; omega
  have j3 : ((i : Int) + 1).toNat = i + 1 := by omega
  have j4 : IntKind.i64.wrap ((i : Int) - 1) = (i : Int) - 1 := by rw [IntKind.wrap_i64]; omega
  have j5 : (0 : Int) ≤ (i : Int) - 1 := by omega
  have j6 : (i : Int) - 1 < (i : Int) + 1 := by omega
  have j7 : (i : Int) < (i : Int) + 1 := by omega
  have j8 : ((i : Int) - 1).toNat = i - 1 := by omega
  clear hr hl
  go_enter Try.func18, Try.ntmps18
  go_wp2_with (go_at_call 17; refine HC.out.mono ?_; rintro e w1 ⟨A1, c1, A2, c2, rfl, R1, R2, hb⟩)
  obtain ⟨a1, hA1, hb1, hc1⟩ := R1.2 (by omega)
  obtain ⟨a2, hA2, hb2, hc2⟩ := R2.2 (by omega)
  subst hA1
  subst hA2
  have HM := Lib.hid (show ∀ m, m ≤ i → ∀ V, Below w1.heap.size w1 V → V.cell? (a1.add m) = some (.int .u8 (cN xs m)) from fun m hm V hV => (hV.cell (by rw [block_of_add]; exact hb1)).trans (hc1 m _ (by rw [cMap_get _ _ m (by omega), (take_cN xs (i + 1) m (by omega)).1])))
  have HG := Lib.hid (show ∀ V, Below w1.heap.size w1 V → V.cell? (a2.add i) = some (.bool (gN xs i)) from fun V hV => (hV.cell (by rw [block_of_add]; exact hb2)).trans (hc2 i _ (by rw [gMap_get _ _ i (by omega), (take_cN xs (i + 1) i (by omega)).2])))
  clear R1 R2 hc1 hc2 hb1 hb2
  obtain ⟨pa, hpa⟩ : ∃ p, cN xs (i - 1) = p := ⟨_, rfl⟩
  obtain ⟨pb, hpb⟩ : ∃ p, cN xs i = p := ⟨_, rfl⟩
  obtain ⟨pg, hpg⟩ : ∃ p, gN xs i = p := ⟨_, rfl⟩
  rw [hpa, hpb, hpg] at HP
  rw [hpg] at HG
  have g1 := HM.out (i - 1) (by omega) w1 (Below.refl _ _)
  have g2 := HM.out i (by omega) w1 (Below.refl _ _)
  rw [hpa] at g1
  rw [hpb] at g2
  clear hpa hpb hpg
  go_quiet (fail)
  go_upto_block 0 with fail
  go_cut [10] (fun s wx => ∃ m : Nat, s = .int .i64 ((m : Int) - 1) ∧ m ≤ i ∧ Hid (oN xs m = oN xs i) ∧ Hid (m = 0 ∨ cN xs (m - 1) ≠ 5) ∧ wx = w1.drewN nq)
  case first =>
    go_wp2
    go_loop [10] (fun s => ∃ m : Nat, s = .int .i64 ((m : Int) - 1) ∧ m ≤ i ∧ Hid (oN xs m = oN xs i)) (fun s => (intOf s + 1).toNat)
    case atStart => exact ⟨i, rfl, Nat.le_refl _, Lib.hid rfl⟩
    case round =>
      obtain ⟨m, rfl, hm, HO⟩ := hrel
      rcases Nat.eq_zero_or_pos m with h0 | h0
      · have H0 := Lib.hid h0
        have z0 : ¬ (1 : Int) ≤ (m : Int) := by omega
        have z1 : decide ((0 : Int) ≤ (m : Int) - 1) = false := decide_eq_false (by omega)
        have z2 : decide ((1 : Int) ≤ (m : Int)) = false := decide_eq_false (by omega)
        have z3 : decide (1 ≤ m) = false := decide_eq_false (by omega)
        have z4 : decide (0 < m) = false := decide_eq_false (by omega)
        clear h0
        go_wp2
        go_meet
        case rel => exact ⟨m, rfl, hm, HO, Lib.hid (.inl H0.out), rfl⟩
      · have k0 : (0 : Int) ≤ (m : Int) - 1 := by omega
        have k1 : (m : Int) - 1 < (i : Int) + 1 := by omega
        have k2 : ((m : Int) - 1).toNat = m - 1 := by omega
        have k3 : (1 : Int) ≤ m := by omega
        have k4 : IntKind.i64.wrap ((m : Int) - 1 - 1) = (m : Int) - 1 - 1 := by rw [IntKind.wrap_i64]; omega
        have g3 : (w1.drewN nq).cell? (a1.add (m - 1)) = some (.int .u8 (cN xs (m - 1))) := HM.out (m - 1) (by omega) _ (bel_drewN (Below.refl _ _) _)
        have HS := Lib.hid (oN_succ xs (m - 1) (by rw [HL.out]; omega))
        cases h5 : (cN xs (m - 1) == 5)
        · have H5 := Lib.hid h5
          go_wp2
          go_meet
          case rel => exact ⟨m, rfl, hm, HO, Lib.hid (.inr (by have := H5.out; simpa using this)), rfl⟩
        · have H5 := Lib.hid h5
          go_wp2
          go_round
          case rel => exact ⟨m - 1, by rw [show ((m - 1 : Nat) : Int) = (m : Int) - 1 by omega], by omega, Lib.hid (by have h := HS.out; rw [show m - 1 + 1 = m by omega, if_pos (by have := H5.out; simpa using this)] at h; rw [← h]; exact HO.out)⟩
          case measure => simp [intOf]; omega
  case rest =>
    obtain ⟨m, rfl, hm, HO, HE, rfl⟩ := hcut
    obtain ⟨po, hpo⟩ : ∃ o, oN xs i = o := ⟨_, rfl⟩
    rw [hpo] at HP HO
    go_upto_if 46 with fail
    go_cut [11, 12] (fun t o wx => ∃ (th : Bool) (ov : Int), t = .bool th ∧ o = .int .u8 ov ∧ Hid ((th = true ∧ ov = po) ∨ (th = false ∧ po = 255)) ∧ wx = w1.drewN nq)
    case first =>
      rcases Nat.eq_zero_or_pos m with h0 | h0
      · have H0 := Lib.hid (show po = 255 by have := HO.out; rw [h0] at this; rw [← this]; exact oN_zero xs (by rw [HL.out]; omega))
        have z2 : decide ((1 : Int) ≤ (m : Int)) = false := decide_eq_false (by omega)
        have z3 : decide (1 ≤ m) = false := decide_eq_false (by omega)
        have z5 : (m : Int) < 1 := by omega
        clear h0
        go_wp2
        go_meet
        case rel => exact ⟨decide ((1 : Int) ≤ (m : Int)), 0, by first | rfl | rw [z2], rfl, Lib.hid (.inr ⟨decide_eq_false (by omega), H0.out⟩), rfl⟩
      · have H0 := Lib.hid (show cN xs (m - 1) = po by
          have h := HE.out.resolve_left (by omega)
          have h2 := oN_succ xs (m - 1) (by rw [HL.out]; omega)
          rw [show m - 1 + 1 = m by omega, if_neg h] at h2
          rw [← h2]; exact HO.out)
        have k0 : (0 : Int) ≤ (m : Int) - 1 := by omega
        have k1 : (m : Int) - 1 < (i : Int) + 1 := by omega
        have k2 : ((m : Int) - 1).toNat = m - 1 := by omega
        have k3 : (1 : Int) ≤ m := by omega
        have g3 : (w1.drewN nq).cell? (a1.add (m - 1)) = some (.int .u8 (cN xs (m - 1))) := HM.out (m - 1) (by omega) _ (bel_drewN (Below.refl _ _) _)
        rw [H0.out] at g3
        go_wp2
        go_meet
        case rel => exact ⟨decide ((1 : Int) ≤ (m : Int)), po, by first | rfl | rw [decide_eq_true k3], rfl, Lib.hid (.inl ⟨decide_eq_true k3, rfl⟩), rfl⟩
    case rest =>
    obtain ⟨th, ov, rfl, rfl, HV, rfl⟩ := hcut
    clear hpo HO HE hm HM g1 g2
    have F0 : Hid (∀ j, j < 0 → isR j ⟨pa, po, pb, pg⟩ = false) := Lib.hid (fun j hj => absurd hj (Nat.not_lt_zero j))
    have KB := Lib.hid (show Blk ((w1.drewN nq).alloc (.cells #[.int .u8 2, .int .u8 3, .int .u8 4] 5)) w1.heap.size 5 #[.int .u8 2, .int .u8 3, .int .u8 4] from Blk.new (w1.drewN nq) _ _)
    have hw := Lib.hid (bel_alloc (bel_drewN (Below.refl w1.heap.size w1) nq) (.cells #[.int .u8 2, .int .u8 3, .int .u8 4] 5))
    go_upto_region 10 with fail
    obtain ⟨t0, ht0⟩ : ∃ t, isR 0 ⟨pa, po, pb, pg⟩ = t := ⟨_, rfl⟩
    have T0 := Lib.hid ht0
    clear ht0
    go_cut [53] (fun s wx => s = .bool t0 ∧ Hid (Blk wx w1.heap.size 5 #[.int .u8 2, .int .u8 3, .int .u8 4]) ∧ Hid (Below w1.heap.size w1 wx))
    case first => as_aux_lemma =>
      go_wp2
      go_meet
      case rel => exact ⟨by rw [← T0.out]; simp only [isR]; first | done | rfl | (simp only [isL]; first | done | rfl), Lib.hid (by repeat (first | with_reducible exact KB.out | with_reducible refine Blk.alloc ?_ _)), Lib.hid (by repeat (first | with_reducible exact hw.out | with_reducible refine bel_alloc ?_ _))⟩
    case rest =>
    obtain ⟨rfl, KB, hw⟩ := hcut
    cases t0
    case true => as_aux_lemma =>
      go_wp2
      go_ret2
      exact ⟨by rw [HP.out, saysP_at _ 0 (by omega) T0.out F0.out]; rfl, bel_trans hb hw.out⟩
    case false =>
    have F1 := Lib.hid (moreF 0 F0.out T0.out)
    clear F0
    go_upto_region 12 with fail
    obtain ⟨t2, ht2⟩ : ∃ t, isR 2 ⟨pa, po, pb, pg⟩ = t := ⟨_, rfl⟩
    have T2 := Lib.hid ht2
    clear ht2
    go_cut [56] (fun s wx => s = .bool t2 ∧ Hid (Blk wx w1.heap.size 5 #[.int .u8 2, .int .u8 3, .int .u8 4]) ∧ Hid (Below w1.heap.size w1 wx))
    case first => as_aux_lemma =>
      cases h2_1 : isL pa [2, 3, 4]
      · have Hh2_1 := Lib.hid h2_1
        clear h2_1
        go_wp2_with ((go_at_call 24; refine (in_any _ 3 3 [2, 3, 4] pa _ _ rfl (by decide) (Reads.of_blk KB.out)).mono ?_; rintro e w' ⟨rfl, rfl⟩; rw [Hh2_1.out]))
        go_meet
        case rel => exact ⟨by rw [← T2.out]; simp only [isR, Hh2_1.out]; first | done | rfl | (simp only [isL, Hh2_1.out]; first | done | rfl), Lib.hid (by repeat (first | with_reducible exact KB.out | with_reducible refine Blk.alloc ?_ _)), Lib.hid (by repeat (first | with_reducible exact hw.out | with_reducible refine bel_alloc ?_ _))⟩
      · have Hh2_1 := Lib.hid h2_1
        clear h2_1
        go_wp2_with ((go_at_call 24; refine (in_any _ 3 3 [2, 3, 4] pa _ _ rfl (by decide) (Reads.of_blk KB.out)).mono ?_; rintro e w' ⟨rfl, rfl⟩; rw [Hh2_1.out]))
        go_meet
        case rel => exact ⟨by rw [← T2.out]; simp only [isR, Hh2_1.out]; first | done | rfl | (simp only [isL, Hh2_1.out]; first | done | rfl), Lib.hid (by repeat (first | with_reducible exact KB.out | with_reducible refine Blk.alloc ?_ _)), Lib.hid (by repeat (first | with_reducible exact hw.out | with_reducible refine bel_alloc ?_ _))⟩
    case rest =>
    obtain ⟨rfl, KB, hw⟩ := hcut
    cases t2
    case true => as_aux_lemma =>
      have E1 := Lib.hid (ne2 pa pb T2.out)
      cases q1 : (pa != 2)
      · cases q2 : (pb != 3)
        · have E2 := Lib.hid (show bothL pa pb [2, 3] = true by rw [E1.out, q1, q2]; rfl)
          go_wp2
          go_ret2
          exact ⟨by rw [HP.out, saysP_at _ 1 (by omega) (show isR 1 ⟨pa, po, pb, pg⟩ = true from E2.out) F1.out]; rfl, bel_trans hb hw.out⟩
        · have E2 := Lib.hid (show bothL pa pb [2, 3] = false by rw [E1.out, q1, q2]; rfl)
          go_wp2
          go_ret2
          exact ⟨by rw [HP.out, saysP_at _ 2 (by omega) T2.out (moreF 1 F1.out (show isR 1 ⟨pa, po, pb, pg⟩ = false from E2.out))]; rfl, bel_trans hb hw.out⟩
      · have E2 := Lib.hid (show bothL pa pb [2, 3] = false by rw [E1.out, q1]; rfl)
        go_wp2
        go_ret2
        exact ⟨by rw [HP.out, saysP_at _ 2 (by omega) T2.out (moreF 1 F1.out (show isR 1 ⟨pa, po, pb, pg⟩ = false from E2.out))]; rfl, bel_trans hb hw.out⟩
    case false =>
    have F3 := Lib.hid (moreF 2 (moreF 1 F1.out (show isR 1 ⟨pa, po, pb, pg⟩ = false from both_no pa pb T2.out)) T2.out)
    clear F1
    go_upto_region 14 with fail
    obtain ⟨t3, ht3⟩ : ∃ t, isR 3 ⟨pa, po, pb, pg⟩ = t := ⟨_, rfl⟩
    have T3 := Lib.hid ht3
    clear ht3
    go_cut [69] (fun s wx => s = .bool t3 ∧ Hid (Blk wx w1.heap.size 5 #[.int .u8 2, .int .u8 3, .int .u8 4]) ∧ Hid (Below w1.heap.size w1 wx))
    case first => as_aux_lemma =>
      cases h3_1 : (pb == 1)
      · cases h3_2 : isL pb [2, 3, 4]
        · have Hh3_2 := Lib.hid h3_2
          clear h3_2
          go_wp2_with ((go_at_call 24; refine (in_any _ 3 3 [2, 3, 4] pb _ _ rfl (by decide) (Reads.of_blk KB.out)).mono ?_; rintro e w' ⟨rfl, rfl⟩; rw [Hh3_2.out]))
          go_meet
          case rel => exact ⟨by rw [← T3.out]; simp only [isR]; rw [l1234]; simp only [h3_1, Hh3_2.out]; first | done | rfl | (simp only [isL, h3_1, Hh3_2.out]; first | done | rfl), Lib.hid (by repeat (first | with_reducible exact KB.out | with_reducible refine Blk.alloc ?_ _)), Lib.hid (by repeat (first | with_reducible exact hw.out | with_reducible refine bel_alloc ?_ _))⟩
        · have Hh3_2 := Lib.hid h3_2
          clear h3_2
          go_wp2_with ((go_at_call 24; refine (in_any _ 3 3 [2, 3, 4] pb _ _ rfl (by decide) (Reads.of_blk KB.out)).mono ?_; rintro e w' ⟨rfl, rfl⟩; rw [Hh3_2.out]))
          go_meet
          case rel => exact ⟨by rw [← T3.out]; simp only [isR]; rw [l1234]; simp only [h3_1, Hh3_2.out]; first | done | rfl | (simp only [isL, h3_1, Hh3_2.out]; first | done | rfl), Lib.hid (by repeat (first | with_reducible exact KB.out | with_reducible refine Blk.alloc ?_ _)), Lib.hid (by repeat (first | with_reducible exact hw.out | with_reducible refine bel_alloc ?_ _))⟩
      · go_wp2
        go_meet
        case rel => exact ⟨by rw [← T3.out]; simp only [isR]; rw [l1234]; simp only [h3_1]; first | done | rfl | (simp only [isL, h3_1]; first | done | rfl), Lib.hid (by repeat (first | with_reducible exact KB.out | with_reducible refine Blk.alloc ?_ _)), Lib.hid (by repeat (first | with_reducible exact hw.out | with_reducible refine bel_alloc ?_ _))⟩
    case rest =>
    obtain ⟨rfl, KB, hw⟩ := hcut
    cases t3
    case true => as_aux_lemma =>
      go_wp2
      go_ret2
      exact ⟨by rw [HP.out, saysP_at _ 3 (by omega) T3.out F3.out]; rfl, bel_trans hb hw.out⟩
    case false =>
    have F4 := Lib.hid (moreF 3 F3.out T3.out)
    clear F3
    go_upto_region 16 with fail
    obtain ⟨t4, ht4⟩ : ∃ t, isR 4 ⟨pa, po, pb, pg⟩ = t := ⟨_, rfl⟩
    have T4 := Lib.hid ht4
    clear ht4
    go_cut [75] (fun s wx => s = .bool t4 ∧ Hid (Blk wx w1.heap.size 5 #[.int .u8 2, .int .u8 3, .int .u8 4]) ∧ Hid (Below w1.heap.size w1 wx))
    case first => as_aux_lemma =>
      cases h4_1 : (pb == 5)
      · cases h4_2 : (pb == 6)
        · go_wp2
          go_meet
          case rel => exact ⟨by rw [← T4.out]; simp only [isR, h4_1, h4_2]; first | done | rfl | (simp only [isL, h4_1, h4_2]; first | done | rfl), Lib.hid (by repeat (first | with_reducible exact KB.out | with_reducible refine Blk.alloc ?_ _)), Lib.hid (by repeat (first | with_reducible exact hw.out | with_reducible refine bel_alloc ?_ _))⟩
        · go_wp2
          go_meet
          case rel => exact ⟨by rw [← T4.out]; simp only [isR, h4_1, h4_2]; first | done | rfl | (simp only [isL, h4_1, h4_2]; first | done | rfl), Lib.hid (by repeat (first | with_reducible exact KB.out | with_reducible refine Blk.alloc ?_ _)), Lib.hid (by repeat (first | with_reducible exact hw.out | with_reducible refine bel_alloc ?_ _))⟩
      · go_wp2
        go_meet
        case rel => exact ⟨by rw [← T4.out]; simp only [isR, h4_1]; first | done | rfl | (simp only [isL, h4_1]; first | done | rfl), Lib.hid (by repeat (first | with_reducible exact KB.out | with_reducible refine Blk.alloc ?_ _)), Lib.hid (by repeat (first | with_reducible exact hw.out | with_reducible refine bel_alloc ?_ _))⟩
    case rest =>
    obtain ⟨rfl, KB, hw⟩ := hcut
    cases t4
    case true => as_aux_lemma =>
      go_wp2
      go_ret2
      exact ⟨by rw [HP.out, saysP_at _ 4 (by omega) T4.out F4.out]; rfl, bel_trans hb hw.out⟩
    case false =>
    have F5 := Lib.hid (moreF 4 F4.out T4.out)
    clear F4
    go_upto_region 18 with fail
    obtain ⟨t5, ht5⟩ : ∃ t, isR 5 ⟨pa, po, pb, pg⟩ = t := ⟨_, rfl⟩
    have T5 := Lib.hid ht5
    clear ht5
    go_cut [80] (fun s wx => s = .bool t5 ∧ Hid (Blk wx w1.heap.size 5 #[.int .u8 2, .int .u8 3, .int .u8 4]) ∧ Hid (Below w1.heap.size w1 wx))
    case first => as_aux_lemma =>
      rcases HV.out with ⟨hth, hov⟩ | ⟨hth, hpo⟩
      · subst hth
        cases h5_1 : (ov == 6)
        · have g5_1 : (po == 6) = false := by rw [← hov]; exact h5_1
          clear hov
          go_wp2
          go_meet
          case rel => exact ⟨by rw [← T5.out]; simp only [isR, g5_1]; first | done | rfl | (simp only [isL, g5_1]; first | done | rfl), Lib.hid (by repeat (first | with_reducible exact KB.out | with_reducible refine Blk.alloc ?_ _)), Lib.hid (by repeat (first | with_reducible exact hw.out | with_reducible refine bel_alloc ?_ _))⟩
        · have g5_1 : (po == 6) = true := by rw [← hov]; exact h5_1
          clear hov
          go_wp2
          go_meet
          case rel => exact ⟨by rw [← T5.out]; simp only [isR, g5_1]; first | done | rfl | (simp only [isL, g5_1]; first | done | rfl), Lib.hid (by repeat (first | with_reducible exact KB.out | with_reducible refine Blk.alloc ?_ _)), Lib.hid (by repeat (first | with_reducible exact hw.out | with_reducible refine bel_alloc ?_ _))⟩
      · subst hth
        have g5_1 : (po == 6) = false := by rw [hpo]; rfl
        clear hpo
        go_wp2
        go_meet
        case rel => exact ⟨by rw [← T5.out]; simp only [isR, g5_1]; first | done | rfl | (simp only [isL, g5_1]; first | done | rfl), Lib.hid (by repeat (first | with_reducible exact KB.out | with_reducible refine Blk.alloc ?_ _)), Lib.hid (by repeat (first | with_reducible exact hw.out | with_reducible refine bel_alloc ?_ _))⟩
    case rest =>
    obtain ⟨rfl, KB, hw⟩ := hcut
    cases t5
    case true => as_aux_lemma =>
      go_wp2
      go_ret2
      exact ⟨by rw [HP.out, saysP_at _ 5 (by omega) T5.out F5.out]; rfl, bel_trans hb hw.out⟩
    case false =>
    have F6 := Lib.hid (moreF 5 F5.out T5.out)
    clear F5
    go_upto_region 20 with fail
    obtain ⟨t6, ht6⟩ : ∃ t, isR 6 ⟨pa, po, pb, pg⟩ = t := ⟨_, rfl⟩
    have T6 := Lib.hid ht6
    clear ht6
    go_cut [84] (fun s wx => s = .bool t6 ∧ Hid (Blk wx w1.heap.size 5 #[.int .u8 2, .int .u8 3, .int .u8 4]) ∧ Hid (Below w1.heap.size w1 wx))
    case first => as_aux_lemma =>
      have gc := HG.out _ hw.out
      go_wp2
      go_meet
      case rel => exact ⟨by rw [← T6.out]; simp only [isR]; first | done | rfl | (simp only [isL]; first | done | rfl), Lib.hid (by repeat (first | with_reducible exact KB.out | with_reducible refine Blk.alloc ?_ _)), Lib.hid (by repeat (first | with_reducible exact hw.out | with_reducible refine bel_alloc ?_ _))⟩
    case rest =>
    obtain ⟨rfl, KB, hw⟩ := hcut
    cases t6
    case true => as_aux_lemma =>
      go_wp2
      go_ret2
      exact ⟨by rw [HP.out, saysP_at _ 6 (by omega) T6.out F6.out]; rfl, bel_trans hb hw.out⟩
    case false =>
    have F7 := Lib.hid (moreF 6 F6.out T6.out)
    clear F6
    go_upto_region 22 with fail
    obtain ⟨t7, ht7⟩ : ∃ t, isR 7 ⟨pa, po, pb, pg⟩ = t := ⟨_, rfl⟩
    have T7 := Lib.hid ht7
    clear ht7
    go_cut [90] (fun s wx => s = .bool t7 ∧ Hid (Blk wx w1.heap.size 5 #[.int .u8 2, .int .u8 3, .int .u8 4]) ∧ Hid (Below w1.heap.size w1 wx))
    case first => as_aux_lemma =>
      cases h7_1 : (pa == 7)
      · cases h7_2 : (pb == 7)
        · go_wp2
          go_meet
          case rel => exact ⟨by rw [← T7.out]; simp only [isR, h7_1, h7_2]; first | done | rfl | (simp only [isL, h7_1, h7_2]; first | done | rfl), Lib.hid (by repeat (first | with_reducible exact KB.out | with_reducible refine Blk.alloc ?_ _)), Lib.hid (by repeat (first | with_reducible exact hw.out | with_reducible refine bel_alloc ?_ _))⟩
        · go_wp2
          go_meet
          case rel => exact ⟨by rw [← T7.out]; simp only [isR, h7_1, h7_2]; first | done | rfl | (simp only [isL, h7_1, h7_2]; first | done | rfl), Lib.hid (by repeat (first | with_reducible exact KB.out | with_reducible refine Blk.alloc ?_ _)), Lib.hid (by repeat (first | with_reducible exact hw.out | with_reducible refine bel_alloc ?_ _))⟩
      · go_wp2
        go_meet
        case rel => exact ⟨by rw [← T7.out]; simp only [isR, h7_1]; first | done | rfl | (simp only [isL, h7_1]; first | done | rfl), Lib.hid (by repeat (first | with_reducible exact KB.out | with_reducible refine Blk.alloc ?_ _)), Lib.hid (by repeat (first | with_reducible exact hw.out | with_reducible refine bel_alloc ?_ _))⟩
    case rest =>
    obtain ⟨rfl, KB, hw⟩ := hcut
    cases t7
    case true => as_aux_lemma =>
      go_wp2
      go_ret2
      exact ⟨by rw [HP.out, saysP_at _ 7 (by omega) T7.out F7.out]; rfl, bel_trans hb hw.out⟩
    case false =>
    have F8 := Lib.hid (moreF 7 F7.out T7.out)
    clear F7
    go_upto_region 24 with fail
    obtain ⟨t8, ht8⟩ : ∃ t, isR 8 ⟨pa, po, pb, pg⟩ = t := ⟨_, rfl⟩
    have T8 := Lib.hid ht8
    clear ht8
    go_cut [102] (fun s wx => s = .bool t8 ∧ Hid (Blk wx w1.heap.size 5 #[.int .u8 2, .int .u8 3, .int .u8 4]) ∧ Hid (Below w1.heap.size w1 wx))
    case first => as_aux_lemma =>
      cases h8_1 : (pa == 8)
      · cases h8_2 : (pb == 8)
        · go_wp2
          go_meet
          case rel => exact ⟨by rw [← T8.out]; simp only [isR, h8_1, h8_2]; first | done | rfl | (simp only [isL, h8_1, h8_2]; first | done | rfl), Lib.hid (by repeat (first | with_reducible exact KB.out | with_reducible refine Blk.alloc ?_ _)), Lib.hid (by repeat (first | with_reducible exact hw.out | with_reducible refine bel_alloc ?_ _))⟩
        · cases h8_3 : isL pa [5, 10, 13]
          · have Hh8_3 := Lib.hid h8_3
            clear h8_3
            go_wp2_with ((go_at_call 24; (with_reducible refine (in_cs _ _ _ _ _ _ ?_).mono ?_); exact ⟨by simp, rfl, rfl, by decide⟩; rintro e w' ⟨rfl, rfl⟩; rw [show isL pa (List.map intOf (#[.int .u8 5, .int .u8 10, .int .u8 13] : Array Value).toList) = _ from Hh8_3.out]))
            go_meet
            case rel => exact ⟨by rw [← T8.out]; simp only [isR, h8_1, h8_2, Hh8_3.out]; first | done | rfl | (simp only [isL, h8_1, h8_2, Hh8_3.out]; first | done | rfl), Lib.hid (by repeat (first | with_reducible exact KB.out | with_reducible refine Blk.alloc ?_ _)), Lib.hid (by repeat (first | with_reducible exact hw.out | with_reducible refine bel_alloc ?_ _))⟩
          · have Hh8_3 := Lib.hid h8_3
            clear h8_3
            go_wp2_with ((go_at_call 24; (with_reducible refine (in_cs _ _ _ _ _ _ ?_).mono ?_); exact ⟨by simp, rfl, rfl, by decide⟩; rintro e w' ⟨rfl, rfl⟩; rw [show isL pa (List.map intOf (#[.int .u8 5, .int .u8 10, .int .u8 13] : Array Value).toList) = _ from Hh8_3.out]))
            go_meet
            case rel => exact ⟨by rw [← T8.out]; simp only [isR, h8_1, h8_2, Hh8_3.out]; first | done | rfl | (simp only [isL, h8_1, h8_2, Hh8_3.out]; first | done | rfl), Lib.hid (by repeat (first | with_reducible exact KB.out | with_reducible refine Blk.alloc ?_ _)), Lib.hid (by repeat (first | with_reducible exact hw.out | with_reducible refine bel_alloc ?_ _))⟩
      · go_wp2
        go_meet
        case rel => exact ⟨by rw [← T8.out]; simp only [isR, h8_1]; first | done | rfl | (simp only [isL, h8_1]; first | done | rfl), Lib.hid (by repeat (first | with_reducible exact KB.out | with_reducible refine Blk.alloc ?_ _)), Lib.hid (by repeat (first | with_reducible exact hw.out | with_reducible refine bel_alloc ?_ _))⟩
    case rest =>
    obtain ⟨rfl, KB, hw⟩ := hcut
    cases t8
    case true => as_aux_lemma =>
      go_wp2
      go_ret2
      exact ⟨by rw [HP.out, saysP_at _ 8 (by omega) T8.out F8.out]; rfl, bel_trans hb hw.out⟩
    case false =>
    have F9 := Lib.hid (moreF 8 F8.out T8.out)
    clear F8
    go_upto_region 26 with fail
    obtain ⟨t9, ht9⟩ : ∃ t, isR 9 ⟨pa, po, pb, pg⟩ = t := ⟨_, rfl⟩
    have T9 := Lib.hid ht9
    clear ht9
    go_cut [105] (fun s wx => s = .bool t9 ∧ Hid (Blk wx w1.heap.size 5 #[.int .u8 2, .int .u8 3, .int .u8 4]) ∧ Hid (Below w1.heap.size w1 wx))
    case first => as_aux_lemma =>
      cases h9_1 : isL pb [15, 17, 18]
      · have Hh9_1 := Lib.hid h9_1
        clear h9_1
        go_wp2_with ((go_at_call 24; (with_reducible refine (in_cs _ _ _ _ _ _ ?_).mono ?_); exact ⟨by simp, rfl, rfl, by decide⟩; rintro e w' ⟨rfl, rfl⟩; rw [show isL pb (List.map intOf (#[.int .u8 15, .int .u8 17, .int .u8 18] : Array Value).toList) = _ from Hh9_1.out]))
        go_meet
        case rel => exact ⟨by rw [← T9.out]; simp only [isR, Hh9_1.out]; first | done | rfl | (simp only [isL, Hh9_1.out]; first | done | rfl), Lib.hid (by repeat (first | with_reducible exact KB.out | with_reducible refine Blk.alloc ?_ _)), Lib.hid (by repeat (first | with_reducible exact hw.out | with_reducible refine bel_alloc ?_ _))⟩
      · have Hh9_1 := Lib.hid h9_1
        clear h9_1
        go_wp2_with ((go_at_call 24; (with_reducible refine (in_cs _ _ _ _ _ _ ?_).mono ?_); exact ⟨by simp, rfl, rfl, by decide⟩; rintro e w' ⟨rfl, rfl⟩; rw [show isL pb (List.map intOf (#[.int .u8 15, .int .u8 17, .int .u8 18] : Array Value).toList) = _ from Hh9_1.out]))
        go_meet
        case rel => exact ⟨by rw [← T9.out]; simp only [isR, Hh9_1.out]; first | done | rfl | (simp only [isL, Hh9_1.out]; first | done | rfl), Lib.hid (by repeat (first | with_reducible exact KB.out | with_reducible refine Blk.alloc ?_ _)), Lib.hid (by repeat (first | with_reducible exact hw.out | with_reducible refine bel_alloc ?_ _))⟩
    case rest =>
    obtain ⟨rfl, KB, hw⟩ := hcut
    cases t9
    case true => as_aux_lemma =>
      go_wp2
      go_ret2
      exact ⟨by rw [HP.out, saysP_at _ 9 (by omega) T9.out F9.out]; rfl, bel_trans hb hw.out⟩
    case false =>
    have F10 := Lib.hid (moreF 9 F9.out T9.out)
    clear F9
    go_upto_region 28 with fail
    obtain ⟨t10, ht10⟩ : ∃ t, isR 10 ⟨pa, po, pb, pg⟩ = t := ⟨_, rfl⟩
    have T10 := Lib.hid ht10
    clear ht10
    go_cut [110] (fun s wx => s = .bool t10 ∧ Hid (Blk wx w1.heap.size 5 #[.int .u8 2, .int .u8 3, .int .u8 4]) ∧ Hid (Below w1.heap.size w1 wx))
    case first => as_aux_lemma =>
      rcases HV.out with ⟨hth, hov⟩ | ⟨hth, hpo⟩
      · subst hth
        cases h10_1 : (ov == 14)
        · have g10_1 : (po == 14) = false := by rw [← hov]; exact h10_1
          clear hov
          go_wp2
          go_meet
          case rel => exact ⟨by rw [← T10.out]; simp only [isR, g10_1]; first | done | rfl | (simp only [isL, g10_1]; first | done | rfl), Lib.hid (by repeat (first | with_reducible exact KB.out | with_reducible refine Blk.alloc ?_ _)), Lib.hid (by repeat (first | with_reducible exact hw.out | with_reducible refine bel_alloc ?_ _))⟩
        · have g10_1 : (po == 14) = true := by rw [← hov]; exact h10_1
          clear hov
          go_wp2
          go_meet
          case rel => exact ⟨by rw [← T10.out]; simp only [isR, g10_1]; first | done | rfl | (simp only [isL, g10_1]; first | done | rfl), Lib.hid (by repeat (first | with_reducible exact KB.out | with_reducible refine Blk.alloc ?_ _)), Lib.hid (by repeat (first | with_reducible exact hw.out | with_reducible refine bel_alloc ?_ _))⟩
      · subst hth
        have g10_1 : (po == 14) = false := by rw [hpo]; rfl
        clear hpo
        go_wp2
        go_meet
        case rel => exact ⟨by rw [← T10.out]; simp only [isR, g10_1]; first | done | rfl | (simp only [isL, g10_1]; first | done | rfl), Lib.hid (by repeat (first | with_reducible exact KB.out | with_reducible refine Blk.alloc ?_ _)), Lib.hid (by repeat (first | with_reducible exact hw.out | with_reducible refine bel_alloc ?_ _))⟩
    case rest =>
    obtain ⟨rfl, KB, hw⟩ := hcut
    cases t10
    case true => as_aux_lemma =>
      go_wp2
      go_ret2
      exact ⟨by rw [HP.out, saysP_at _ 10 (by omega) T10.out F10.out]; rfl, bel_trans hb hw.out⟩
    case false =>
    have F11 := Lib.hid (moreF 10 F10.out T10.out)
    clear F10
    go_upto_region 30 with fail
    obtain ⟨t11, ht11⟩ : ∃ t, isR 11 ⟨pa, po, pb, pg⟩ = t := ⟨_, rfl⟩
    have T11 := Lib.hid ht11
    clear ht11
    go_cut [119] (fun s wx => s = .bool t11 ∧ Hid (Blk wx w1.heap.size 5 #[.int .u8 2, .int .u8 3, .int .u8 4]) ∧ Hid (Below w1.heap.size w1 wx))
    case first => as_aux_lemma =>
      rcases HV.out with ⟨hth, hov⟩ | ⟨hth, hpo⟩
      · subst hth
        cases h11_1 : (ov == 16)
        · have g11_1 : (po == 16) = false := by rw [← hov]; exact h11_1
          clear hov
          go_wp2
          go_meet
          case rel => exact ⟨by rw [← T11.out]; simp only [isR, g11_1]; first | done | rfl | (simp only [isL, g11_1]; first | done | rfl), Lib.hid (by repeat (first | with_reducible exact KB.out | with_reducible refine Blk.alloc ?_ _)), Lib.hid (by repeat (first | with_reducible exact hw.out | with_reducible refine bel_alloc ?_ _))⟩
        · have g11_1 : (po == 16) = true := by rw [← hov]; exact h11_1
          clear hov
          cases h11_2 : (pb == 14)
          · go_wp2
            go_meet
            case rel => exact ⟨by rw [← T11.out]; simp only [isR, g11_1, h11_2]; first | done | rfl | (simp only [isL, g11_1, h11_2]; first | done | rfl), Lib.hid (by repeat (first | with_reducible exact KB.out | with_reducible refine Blk.alloc ?_ _)), Lib.hid (by repeat (first | with_reducible exact hw.out | with_reducible refine bel_alloc ?_ _))⟩
          · go_wp2
            go_meet
            case rel => exact ⟨by rw [← T11.out]; simp only [isR, g11_1, h11_2]; first | done | rfl | (simp only [isL, g11_1, h11_2]; first | done | rfl), Lib.hid (by repeat (first | with_reducible exact KB.out | with_reducible refine Blk.alloc ?_ _)), Lib.hid (by repeat (first | with_reducible exact hw.out | with_reducible refine bel_alloc ?_ _))⟩
      · subst hth
        have g11_1 : (po == 16) = false := by rw [hpo]; rfl
        clear hpo
        go_wp2
        go_meet
        case rel => exact ⟨by rw [← T11.out]; simp only [isR, g11_1]; first | done | rfl | (simp only [isL, g11_1]; first | done | rfl), Lib.hid (by repeat (first | with_reducible exact KB.out | with_reducible refine Blk.alloc ?_ _)), Lib.hid (by repeat (first | with_reducible exact hw.out | with_reducible refine bel_alloc ?_ _))⟩
    case rest =>
    obtain ⟨rfl, KB, hw⟩ := hcut
    cases t11
    case true => as_aux_lemma =>
      go_wp2
      go_ret2
      exact ⟨by rw [HP.out, saysP_at _ 11 (by omega) T11.out F11.out]; rfl, bel_trans hb hw.out⟩
    case false =>
    have F12 := Lib.hid (moreF 11 F11.out T11.out)
    clear F11
    go_upto_region 32 with fail
    obtain ⟨t12, ht12⟩ : ∃ t, isR 12 ⟨pa, po, pb, pg⟩ = t := ⟨_, rfl⟩
    have T12 := Lib.hid ht12
    clear ht12
    go_cut [128] (fun s wx => s = .bool t12 ∧ Hid (Blk wx w1.heap.size 5 #[.int .u8 2, .int .u8 3, .int .u8 4]) ∧ Hid (Below w1.heap.size w1 wx))
    case first => as_aux_lemma =>
      rcases HV.out with ⟨hth, hov⟩ | ⟨hth, hpo⟩
      · subst hth
        cases h12_1 : (ov == 15)
        · have g12_1 : (po == 15) = false := by rw [← hov]; exact h12_1
          clear hov
          go_wp2
          go_meet
          case rel => exact ⟨by rw [← T12.out]; simp only [isR, g12_1]; first | done | rfl | (simp only [isL, g12_1]; first | done | rfl), Lib.hid (by repeat (first | with_reducible exact KB.out | with_reducible refine Blk.alloc ?_ _)), Lib.hid (by repeat (first | with_reducible exact hw.out | with_reducible refine bel_alloc ?_ _))⟩
        · have g12_1 : (po == 15) = true := by rw [← hov]; exact h12_1
          clear hov
          cases h12_2 : (pb == 19)
          · go_wp2
            go_meet
            case rel => exact ⟨by rw [← T12.out]; simp only [isR, g12_1, h12_2]; first | done | rfl | (simp only [isL, g12_1, h12_2]; first | done | rfl), Lib.hid (by repeat (first | with_reducible exact KB.out | with_reducible refine Blk.alloc ?_ _)), Lib.hid (by repeat (first | with_reducible exact hw.out | with_reducible refine bel_alloc ?_ _))⟩
          · go_wp2
            go_meet
            case rel => exact ⟨by rw [← T12.out]; simp only [isR, g12_1, h12_2]; first | done | rfl | (simp only [isL, g12_1, h12_2]; first | done | rfl), Lib.hid (by repeat (first | with_reducible exact KB.out | with_reducible refine Blk.alloc ?_ _)), Lib.hid (by repeat (first | with_reducible exact hw.out | with_reducible refine bel_alloc ?_ _))⟩
      · subst hth
        have g12_1 : (po == 15) = false := by rw [hpo]; rfl
        clear hpo
        go_wp2
        go_meet
        case rel => exact ⟨by rw [← T12.out]; simp only [isR, g12_1]; first | done | rfl | (simp only [isL, g12_1]; first | done | rfl), Lib.hid (by repeat (first | with_reducible exact KB.out | with_reducible refine Blk.alloc ?_ _)), Lib.hid (by repeat (first | with_reducible exact hw.out | with_reducible refine bel_alloc ?_ _))⟩
    case rest =>
    obtain ⟨rfl, KB, hw⟩ := hcut
    cases t12
    case true => as_aux_lemma =>
      go_wp2
      go_ret2
      exact ⟨by rw [HP.out, saysP_at _ 12 (by omega) T12.out F12.out]; rfl, bel_trans hb hw.out⟩
    case false =>
    have F13 := Lib.hid (moreF 12 F12.out T12.out)
    clear F12
    go_upto_region 34 with fail
    obtain ⟨t13, ht13⟩ : ∃ t, isR 13 ⟨pa, po, pb, pg⟩ = t := ⟨_, rfl⟩
    have T13 := Lib.hid ht13
    clear ht13
    go_cut [137] (fun s wx => s = .bool t13 ∧ Hid (Blk wx w1.heap.size 5 #[.int .u8 2, .int .u8 3, .int .u8 4]) ∧ Hid (Below w1.heap.size w1 wx))
    case first => as_aux_lemma =>
      rcases HV.out with ⟨hth, hov⟩ | ⟨hth, hpo⟩
      · subst hth
        cases h13_1 : (ov == 12)
        · have g13_1 : (po == 12) = false := by rw [← hov]; exact h13_1
          clear hov
          go_wp2
          go_meet
          case rel => exact ⟨by rw [← T13.out]; simp only [isR, g13_1]; first | done | rfl | (simp only [isL, g13_1]; first | done | rfl), Lib.hid (by repeat (first | with_reducible exact KB.out | with_reducible refine Blk.alloc ?_ _)), Lib.hid (by repeat (first | with_reducible exact hw.out | with_reducible refine bel_alloc ?_ _))⟩
        · have g13_1 : (po == 12) = true := by rw [← hov]; exact h13_1
          clear hov
          cases h13_2 : (pb == 12)
          · go_wp2
            go_meet
            case rel => exact ⟨by rw [← T13.out]; simp only [isR, g13_1, h13_2]; first | done | rfl | (simp only [isL, g13_1, h13_2]; first | done | rfl), Lib.hid (by repeat (first | with_reducible exact KB.out | with_reducible refine Blk.alloc ?_ _)), Lib.hid (by repeat (first | with_reducible exact hw.out | with_reducible refine bel_alloc ?_ _))⟩
          · go_wp2
            go_meet
            case rel => exact ⟨by rw [← T13.out]; simp only [isR, g13_1, h13_2]; first | done | rfl | (simp only [isL, g13_1, h13_2]; first | done | rfl), Lib.hid (by repeat (first | with_reducible exact KB.out | with_reducible refine Blk.alloc ?_ _)), Lib.hid (by repeat (first | with_reducible exact hw.out | with_reducible refine bel_alloc ?_ _))⟩
      · subst hth
        have g13_1 : (po == 12) = false := by rw [hpo]; rfl
        clear hpo
        go_wp2
        go_meet
        case rel => exact ⟨by rw [← T13.out]; simp only [isR, g13_1]; first | done | rfl | (simp only [isL, g13_1]; first | done | rfl), Lib.hid (by repeat (first | with_reducible exact KB.out | with_reducible refine Blk.alloc ?_ _)), Lib.hid (by repeat (first | with_reducible exact hw.out | with_reducible refine bel_alloc ?_ _))⟩
    case rest =>
    obtain ⟨rfl, KB, hw⟩ := hcut
    cases t13
    case true => as_aux_lemma =>
      go_wp2
      go_ret2
      exact ⟨by rw [HP.out, saysP_at _ 13 (by omega) T13.out F13.out]; rfl, bel_trans hb hw.out⟩
    case false =>
    have F14 := Lib.hid (moreF 13 F13.out T13.out)
    clear F13
    go_upto_region 36 with fail
    obtain ⟨t14, ht14⟩ : ∃ t, isR 14 ⟨pa, po, pb, pg⟩ = t := ⟨_, rfl⟩
    have T14 := Lib.hid ht14
    clear ht14
    go_cut [139] (fun s wx => s = .bool t14 ∧ Hid (Blk wx w1.heap.size 5 #[.int .u8 2, .int .u8 3, .int .u8 4]) ∧ Hid (Below w1.heap.size w1 wx))
    case first => as_aux_lemma =>
      go_wp2
      go_meet
      case rel => exact ⟨by rw [← T14.out]; simp only [isR]; first | done | rfl | (simp only [isL]; first | done | rfl), Lib.hid (by repeat (first | with_reducible exact KB.out | with_reducible refine Blk.alloc ?_ _)), Lib.hid (by repeat (first | with_reducible exact hw.out | with_reducible refine bel_alloc ?_ _))⟩
    case rest =>
    obtain ⟨rfl, KB, hw⟩ := hcut
    cases t14
    case true => as_aux_lemma =>
      go_wp2
      go_ret2
      exact ⟨by rw [HP.out, saysP_at _ 14 (by omega) T14.out F14.out]; rfl, bel_trans hb hw.out⟩
    case false =>
    have F15 := Lib.hid (moreF 14 F14.out T14.out)
    clear F14
    go_upto_region 38 with fail
    obtain ⟨t15, ht15⟩ : ∃ t, isR 15 ⟨pa, po, pb, pg⟩ = t := ⟨_, rfl⟩
    have T15 := Lib.hid ht15
    clear ht15
    go_cut [145] (fun s wx => s = .bool t15 ∧ Hid (Blk wx w1.heap.size 5 #[.int .u8 2, .int .u8 3, .int .u8 4]) ∧ Hid (Below w1.heap.size w1 wx))
    case first => as_aux_lemma =>
      cases h15_1 : (pa == 16)
      · cases h15_2 : (pb == 16)
        · go_wp2
          go_meet
          case rel => exact ⟨by rw [← T15.out]; simp only [isR, h15_1, h15_2]; first | done | rfl | (simp only [isL, h15_1, h15_2]; first | done | rfl), Lib.hid (by repeat (first | with_reducible exact KB.out | with_reducible refine Blk.alloc ?_ _)), Lib.hid (by repeat (first | with_reducible exact hw.out | with_reducible refine bel_alloc ?_ _))⟩
        · go_wp2
          go_meet
          case rel => exact ⟨by rw [← T15.out]; simp only [isR, h15_1, h15_2]; first | done | rfl | (simp only [isL, h15_1, h15_2]; first | done | rfl), Lib.hid (by repeat (first | with_reducible exact KB.out | with_reducible refine Blk.alloc ?_ _)), Lib.hid (by repeat (first | with_reducible exact hw.out | with_reducible refine bel_alloc ?_ _))⟩
      · go_wp2
        go_meet
        case rel => exact ⟨by rw [← T15.out]; simp only [isR, h15_1]; first | done | rfl | (simp only [isL, h15_1]; first | done | rfl), Lib.hid (by repeat (first | with_reducible exact KB.out | with_reducible refine Blk.alloc ?_ _)), Lib.hid (by repeat (first | with_reducible exact hw.out | with_reducible refine bel_alloc ?_ _))⟩
    case rest =>
    obtain ⟨rfl, KB, hw⟩ := hcut
    cases t15
    case true => as_aux_lemma =>
      go_wp2
      go_ret2
      exact ⟨by rw [HP.out, saysP_at _ 15 (by omega) T15.out F15.out]; rfl, bel_trans hb hw.out⟩
    case false =>
    have F16 := Lib.hid (moreF 15 F15.out T15.out)
    clear F15
    go_upto_region 40 with fail
    obtain ⟨t16, ht16⟩ : ∃ t, isR 16 ⟨pa, po, pb, pg⟩ = t := ⟨_, rfl⟩
    have T16 := Lib.hid ht16
    clear ht16
    go_cut [151] (fun s wx => s = .bool t16 ∧ Hid (Blk wx w1.heap.size 5 #[.int .u8 2, .int .u8 3, .int .u8 4]) ∧ Hid (Below w1.heap.size w1 wx))
    case first => as_aux_lemma =>
      cases h16_1 : (pa == 26)
      · cases h16_2 : (pb == 26)
        · go_wp2
          go_meet
          case rel => exact ⟨by rw [← T16.out]; simp only [isR, h16_1, h16_2]; first | done | rfl | (simp only [isL, h16_1, h16_2]; first | done | rfl), Lib.hid (by repeat (first | with_reducible exact KB.out | with_reducible refine Blk.alloc ?_ _)), Lib.hid (by repeat (first | with_reducible exact hw.out | with_reducible refine bel_alloc ?_ _))⟩
        · go_wp2
          go_meet
          case rel => exact ⟨by rw [← T16.out]; simp only [isR, h16_1, h16_2]; first | done | rfl | (simp only [isL, h16_1, h16_2]; first | done | rfl), Lib.hid (by repeat (first | with_reducible exact KB.out | with_reducible refine Blk.alloc ?_ _)), Lib.hid (by repeat (first | with_reducible exact hw.out | with_reducible refine bel_alloc ?_ _))⟩
      · go_wp2
        go_meet
        case rel => exact ⟨by rw [← T16.out]; simp only [isR, h16_1]; first | done | rfl | (simp only [isL, h16_1]; first | done | rfl), Lib.hid (by repeat (first | with_reducible exact KB.out | with_reducible refine Blk.alloc ?_ _)), Lib.hid (by repeat (first | with_reducible exact hw.out | with_reducible refine bel_alloc ?_ _))⟩
    case rest =>
    obtain ⟨rfl, KB, hw⟩ := hcut
    cases t16
    case true => as_aux_lemma =>
      go_wp2
      go_ret2
      exact ⟨by rw [HP.out, saysP_at _ 16 (by omega) T16.out F16.out]; rfl, bel_trans hb hw.out⟩
    case false =>
    have F17 := Lib.hid (moreF 16 F16.out T16.out)
    clear F16
    go_upto_region 42 with fail
    obtain ⟨t17, ht17⟩ : ∃ t, isR 17 ⟨pa, po, pb, pg⟩ = t := ⟨_, rfl⟩
    have T17 := Lib.hid ht17
    clear ht17
    go_cut [158] (fun s wx => s = .bool t17 ∧ Hid (Blk wx w1.heap.size 5 #[.int .u8 2, .int .u8 3, .int .u8 4]) ∧ Hid (Below w1.heap.size w1 wx))
    case first => as_aux_lemma =>
      cases h17_1 : isL pb [10, 13, 19]
      · have Hh17_1 := Lib.hid h17_1
        clear h17_1
        cases h17_2 : (pa == 11)
        · go_wp2_with ((go_at_call 24; (with_reducible refine (in_cs _ _ _ _ _ _ ?_).mono ?_); exact ⟨by simp, rfl, rfl, by decide⟩; rintro e w' ⟨rfl, rfl⟩; rw [show isL pb (List.map intOf (#[.int .u8 10, .int .u8 13, .int .u8 19] : Array Value).toList) = _ from Hh17_1.out]))
          go_meet
          case rel => exact ⟨by rw [← T17.out]; simp only [isR, Hh17_1.out, h17_2]; first | done | rfl | (simp only [isL, Hh17_1.out, h17_2]; first | done | rfl), Lib.hid (by repeat (first | with_reducible exact KB.out | with_reducible refine Blk.alloc ?_ _)), Lib.hid (by repeat (first | with_reducible exact hw.out | with_reducible refine bel_alloc ?_ _))⟩
        · go_wp2_with ((go_at_call 24; (with_reducible refine (in_cs _ _ _ _ _ _ ?_).mono ?_); exact ⟨by simp, rfl, rfl, by decide⟩; rintro e w' ⟨rfl, rfl⟩; rw [show isL pb (List.map intOf (#[.int .u8 10, .int .u8 13, .int .u8 19] : Array Value).toList) = _ from Hh17_1.out]))
          go_meet
          case rel => exact ⟨by rw [← T17.out]; simp only [isR, Hh17_1.out, h17_2]; first | done | rfl | (simp only [isL, Hh17_1.out, h17_2]; first | done | rfl), Lib.hid (by repeat (first | with_reducible exact KB.out | with_reducible refine Blk.alloc ?_ _)), Lib.hid (by repeat (first | with_reducible exact hw.out | with_reducible refine bel_alloc ?_ _))⟩
      · have Hh17_1 := Lib.hid h17_1
        clear h17_1
        go_wp2_with ((go_at_call 24; (with_reducible refine (in_cs _ _ _ _ _ _ ?_).mono ?_); exact ⟨by simp, rfl, rfl, by decide⟩; rintro e w' ⟨rfl, rfl⟩; rw [show isL pb (List.map intOf (#[.int .u8 10, .int .u8 13, .int .u8 19] : Array Value).toList) = _ from Hh17_1.out]))
        go_meet
        case rel => exact ⟨by rw [← T17.out]; simp only [isR, Hh17_1.out]; first | done | rfl | (simp only [isL, Hh17_1.out]; first | done | rfl), Lib.hid (by repeat (first | with_reducible exact KB.out | with_reducible refine Blk.alloc ?_ _)), Lib.hid (by repeat (first | with_reducible exact hw.out | with_reducible refine bel_alloc ?_ _))⟩
    case rest =>
    obtain ⟨rfl, KB, hw⟩ := hcut
    cases t17
    case true => as_aux_lemma =>
      go_wp2
      go_ret2
      exact ⟨by rw [HP.out, saysP_at _ 17 (by omega) T17.out F17.out]; rfl, bel_trans hb hw.out⟩
    case false =>
    have F18 := Lib.hid (moreF 17 F17.out T17.out)
    clear F17
    go_upto_region 44 with fail
    obtain ⟨t18, ht18⟩ : ∃ t, isR 18 ⟨pa, po, pb, pg⟩ = t := ⟨_, rfl⟩
    have T18 := Lib.hid ht18
    clear ht18
    go_cut [160] (fun s wx => s = .bool t18 ∧ Hid (Blk wx w1.heap.size 5 #[.int .u8 2, .int .u8 3, .int .u8 4]) ∧ Hid (Below w1.heap.size w1 wx))
    case first => as_aux_lemma =>
      go_wp2
      go_meet
      case rel => exact ⟨by rw [← T18.out]; simp only [isR]; first | done | rfl | (simp only [isL]; first | done | rfl), Lib.hid (by repeat (first | with_reducible exact KB.out | with_reducible refine Blk.alloc ?_ _)), Lib.hid (by repeat (first | with_reducible exact hw.out | with_reducible refine bel_alloc ?_ _))⟩
    case rest =>
    obtain ⟨rfl, KB, hw⟩ := hcut
    cases t18
    case true => as_aux_lemma =>
      go_wp2
      go_ret2
      exact ⟨by rw [HP.out, saysP_at _ 18 (by omega) T18.out F18.out]; rfl, bel_trans hb hw.out⟩
    case false =>
    have F19 := Lib.hid (moreF 18 F18.out T18.out)
    clear F18
    have HLs := Lib.hid (last_any pa pb)
    go_wp2_with (go_at_call 25; refine (HLs.out _).mono ?_; rintro e w' ⟨rfl, hbl⟩)
    go_ret2
    exact ⟨by rw [HP.out, saysP_last _ F19.out]; rfl, bel_trans hb (bel_trans hw.out hbl)⟩
end Go.Proofs.Ytlobedonclimbaa.Pair

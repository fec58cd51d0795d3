/- Chapter 23: the law FlexExact, walked. No condition but that numbers may come in. -/
import Derived.Test.YtglomkpnbdnnoaaFlexX
import Derived.Test.YtglomkpnbdnnoaaFlexP
import Derived.BigRegion
namespace Go.Proofs.Ytglomkpnbdnnoaa.Flex
open Go.RowKit Go.Proofs.Ytglomkpnbdnnoaa.Unit Go.Proofs.Ytglomkpnbdnnoaa.Div
set_option linter.unusedVariables false
set_option linter.unusedSimpArgs false
attribute [local go_sem] max2_V max_two
theorem exact_ans (xs : List It) : (∀ (i : Nat) a, (ansS xs (fsum xs))[i]? = some a → ∃ x, xs[i]? = some x ∧ a = fiI x) ∧ ((errS xs (fsum xs) = 2 ∧ (ansS xs (fsum xs)).length = 0) ∨ (errS xs (fsum xs) = 0 ∧ (ansS xs (fsum xs)).length = xs.length)) := by
  unfold ansS errS
  cases h : okS xs (fsum xs) with
  | false =>
    rw [if_neg (by simp), if_neg (by simp)]
    exact ⟨fun i a h => by simp at h, .inl ⟨rfl, rfl⟩⟩
  | true =>
    rw [if_pos rfl, if_pos rfl, exact_law xs (okS_parts h).2.2]
    refine ⟨fun i a h => ?_, .inr ⟨rfl, List.length_map _⟩⟩
    rw [List.getElem?_map] at h
    cases hx : xs[i]? with
    | none => rw [hx] at h; cases h
    | some x => rw [hx] at h; injection h with h; exact ⟨x, rfl, h.symm⟩
theorem none_any (A : Option Addr) (k c : Nat) (ws : List Int) (hk : k ≤ 100) (w : World) (hr : Reads w w.heap.size 1 A k (ws.map (Value.int .i64))) (hl : ws.length = k) :
    Calls Try.prog 13 #[.int .i64 0, .slice A k c] w fun e w' => ∃ (A' : Option Addr) (m c' : Nat) (xs : List Int) (er : Int), e = .returned (.tuple #[.slice A' m c', .int .i64 er]) ∧ xs.length = m ∧ Reads w' w'.heap.size 1 A' m (xs.map (Value.int .i64)) ∧ (∀ x ∈ xs, x = 0) ∧ ((er = 2 ∧ m = 0) ∨ (er = 0 ∧ m = k)) ∧ Below w.heap.size w w' := by
  refine (Share_any 0 A k c ws (by omega) w hr).mono ?_
  rintro e w' ⟨⟨A', c', rfl, r⟩, b⟩
  refine ⟨A', _, c', _, _, rfl, rfl, r, ?_, ?_, b⟩
  · unfold ansH
    split
    · rename_i h; exact none_law ws h.1 h.2
    · intro x hx; simp at hx
  · unfold ansH errH
    split
    · right
      rename_i h
      rw [shareL_len, hl]
      exact ⟨rfl, rfl⟩
    · exact .inl ⟨rfl, rfl⟩
theorem three_at {w : World} {B : Nat} {A : Option Addr} {x y z : Int} (h : Reads w B 1 A 3 ([x, y, z].map (Value.int .i64))) : ∃ ad, A = some ad ∧ w.cell? ad = some (.int .i64 x) ∧ w.cell? ⟨ad.block, ad.off + 1, none⟩ = some (.int .i64 y) ∧ w.cell? ⟨ad.block, ad.off + 2, none⟩ = some (.int .i64 z) := by
  obtain ⟨ad, a, e, _, h0, c0⟩ := reads_int h (show 0 < 3 by omega)
  obtain ⟨_, b, e1, _, h1, c1⟩ := reads_int h (show 1 < 3 by omega)
  obtain ⟨_, c, e2, _, h2, c2⟩ := reads_int h (show 2 < 3 by omega)
  rw [e] at e1 e2
  injection e1 with e1
  injection e2 with e2
  subst e1
  subst e2
  injection h0 with h0
  injection h1 with h1
  injection h2 with h2
  subst h0 h1 h2
  rw [add_zero_] at c0
  rw [add_pos] at c1 c2
  exact ⟨ad, e, c0, c1, c2⟩
theorem cel_at {w w1 : World} {ad ad1 : Addr} {n m : Nat} {xs : List It} {an : List Int} (hr : Reads w w.heap.size 4 (some ad) n (itL xs)) (h1 : Reads w1 w1.heap.size 1 (some ad1) m (an.map (Value.int .i64))) (hb : Below w.heap.size w w1) {j : Nat} {x : It} {v : Int} (hx : xs[j]? = some x) (hv : an[j]? = some v) (V : World) (h : Below w1.heap.size w1 V) :
    V.cell? (ad.add (j * 4)) = some (.int .i64 x.base) ∧ V.cell? ⟨(ad.add (j * 4)).block, (ad.add (j * 4)).off + 1, none⟩ = some (.int .i64 x.least) ∧ V.cell? (ad1.add j) = some (.int .i64 v) := by
  have hj : j < n := by rw [← len_it hr]; exact (List.getElem?_eq_some_iff.1 hx).1
  have hj1 : j < m := by rw [← len_int h1]; exact (List.getElem?_eq_some_iff.1 hv).1
  obtain ⟨x', e, _, hC⟩ := itsAt hr hj
  rw [hx] at e
  injection e with e
  subst e
  obtain ⟨c0, c1, _, _⟩ := hC V (bel_trans hb h)
  obtain ⟨v', e, _, hD⟩ := intsAt h1 hj1
  rw [hv] at e
  injection e with e
  subst e
  exact ⟨c0, c1, hD V h⟩
theorem one_any (num : Int) (V : World) :
    Calls Try.prog 13 #[.int .i64 num, .slice (some ⟨V.heap.size, 0, none⟩) 3 3] (V.alloc (.cells #[.int .i64 0, .int .i64 5, .int .i64 0] 2)) fun e w' => ∃ A' m c' er, e = .returned (.tuple #[.slice A' m c', .int .i64 er]) ∧ ((er = 2 ∧ m = 0) ∨ (er = 0 ∧ m = 3 ∧ Reads w' w'.heap.size 1 A' 3 ([0, num, 0].map (Value.int .i64)))) ∧ Below V.heap.size V w' := by
  refine (hShare num [0, 5, 0] 3 rfl (by omega) #[.int .i64 0, .int .i64 5, .int .i64 0] rfl V).mono ?_
  rintro e w' ⟨⟨A', c', rfl, r⟩, b⟩
  refine ⟨A', _, c', _, rfl, ?_, b⟩
  revert r
  unfold ansH errH
  split
  · rw [one_law]
    exact fun r => .inr ⟨rfl, rfl, r⟩
  · exact fun _ => .inl ⟨rfl, rfl⟩
set_option maxHeartbeats 16000000 in
set_option maxRecDepth 100000 in
theorem FlexExact_any (A : Option Addr) (n c : Nat) (xs : List It) (num : Int) (AW : Option Addr) (k cW : Nat) (ws : List Int) (w : World) (hr : Reads w w.heap.size 4 A n (itL xs)) (hw : Reads w w.heap.size 1 AW k (ws.map (Value.int .i64))) :
    Calls Try.prog 8 #[.slice A n c, .int .i64 num, .slice AW k cW] w fun e w' => e = .returned (.bool true) ∧ Below w.heap.size w w' := by
  have HH := Lib.hid (fun V => head_any V)
  by_cases hg : n ≤ 60
  · have q0 : decide ((60 : Int) < (n : Int)) = false := decide_eq_false (by omega)
    by_cases hg2 : k ≤ 100
    · have q1 : decide ((100 : Int) < (k : Int)) = false := decide_eq_false (by omega)
      have HR := Lib.hid hr
      have HW := Lib.hid hw
      have HL := Lib.hid (len_it hr)
      have HLW := Lib.hid (len_int hw)
      have nn : (n : Int) ≤ 60 := by omega
      clear hr hw
      go_enter Try.func8, Try.ntmps8
      go_wp2
      go_loopw [7, 8] (fun r i wr => ∃ j : Nat, i = .int .i64 j ∧ j ≤ n ∧ r = .int .i64 (sT (xs.map fiI) j) ∧ Hid (∀ (m : Nat) (x : It), m < j → xs[m]? = some x → 0 ≤ fiI x ∧ fiI x ≤ 1048576) ∧ Hid (Below w.heap.size w wr)) (fun _ i _ => n - (intOf i).toNat)
      case atStart => exact ⟨0, rfl, by omega, rfl, Lib.hid (fun _ _ h => absurd h (by omega)), Lib.hid (Below.refl _ _)⟩
      case round =>
        obtain ⟨j, rfl, hj, rfl, HB, HD⟩ := hrel
        by_cases hlt : j < n
        · have q2 : decide ((j : Int) < (n : Int)) = true := decide_eq_true (by omega)
          have i0 : (0 : Int) ≤ (j : Int) := by omega
          have i1 : (j : Int) < (n : Int) := by omega
          obtain ⟨ad, _, rfl, _, _, _⟩ := reads_it HR.out hlt
          obtain ⟨m, hm, hbk, hC⟩ := itsAt HR.out hlt
          obtain ⟨c0, c1, c2, c3⟩ := hC _ HD.out
          have HM := Lib.hid hm
          clear hm hC hbk
          by_cases b0 : m.base < 0
          · have t0 : decide (m.base < 0) = true := decide_eq_true b0
            clear b0
            go_wp2_with (go_at_call 9; (with_reducible refine (HH.out _).mono ?_); rintro e w9 ⟨rfl, b⟩; have T6 := Lib.hid (bel_trans HD.out b); clear b)
            go_ret
            exact ⟨rfl, T6.out⟩
          · have t0 : decide (m.base < 0) = false := decide_eq_false b0
            by_cases b1 : m.least < 0
            · have t1 : decide (m.least < 0) = true := decide_eq_true b1
              clear b0 b1
              go_wp2_with (go_at_call 9; (with_reducible refine (HH.out _).mono ?_); rintro e w9 ⟨rfl, b⟩; have T6 := Lib.hid (bel_trans HD.out b); clear b)
              go_ret
              exact ⟨rfl, T6.out⟩
            · have t1 : decide (m.least < 0) = false := decide_eq_false b1
              by_cases b2 : 1048576 < m.base
              · have t2 : decide (1048576 < m.base) = true := decide_eq_true b2
                clear b0 b1 b2
                go_wp2_with (go_at_call 9; (with_reducible refine (HH.out _).mono ?_); rintro e w9 ⟨rfl, b⟩; have T6 := Lib.hid (bel_trans HD.out b); clear b)
                go_ret
                exact ⟨rfl, T6.out⟩
              · have t2 : decide (1048576 < m.base) = false := decide_eq_false b2
                by_cases b3 : 1048576 < m.least
                · have t3 : decide (1048576 < m.least) = true := decide_eq_true b3
                  clear b0 b1 b2 b3
                  go_wp2_with (go_at_call 9; (with_reducible refine (HH.out _).mono ?_); rintro e w9 ⟨rfl, b⟩; have T6 := Lib.hid (bel_trans HD.out b); clear b)
                  go_ret
                  exact ⟨rfl, T6.out⟩
                · have t3 : decide (1048576 < m.least) = false := decide_eq_false b3
                  have hfm : 0 ≤ fiI m ∧ fiI m ≤ 1048576 := by unfold fiI mxV; split <;> omega
                  have HB2 := Lib.hid (show ∀ (q : Nat) (x : It), q < j + 1 → xs[q]? = some x → 0 ≤ fiI x ∧ fiI x ≤ 1048576 from fun q x hq hx => by
                    rcases Nat.lt_succ_iff_lt_or_eq.1 hq with h | h
                    · exact HB.out q x h hx
                    · subst h
                      have hM := HM.out
                      rw [hM] at hx
                      injection hx with hx
                      rw [← hx]; exact hfm)
                  have hsT := sT_bd ((xs.map fiI).take j) j 1048576 (by omega) (fun y hy => by
                    obtain ⟨q, hq⟩ := List.getElem?_of_mem hy
                    have hql := (List.getElem?_eq_some_iff.1 hq).1
                    rw [List.length_take] at hql
                    rw [List.getElem?_take, if_pos (by omega), List.getElem?_map] at hq
                    cases hxq : xs[q]? with
                    | none => rw [hxq] at hq; cases hq
                    | some x => rw [hxq] at hq; injection hq with hq; rw [← hq]; exact HB.out q x (by omega) hxq)
                  have hsT2 : sT ((xs.map fiI).take j) j = sT (xs.map fiI) j := by unfold sT; rw [List.take_take, Nat.min_self]
                  rw [hsT2] at hsT
                  have hlj : (((xs.map fiI).take j).length : Int) ≤ 60 := by rw [List.length_take]; omega
                  have hsT3 : sT (xs.map fiI) j ≤ 62914560 := by
                    have := Int.mul_le_mul_of_nonneg_left hlj (show (0 : Int) ≤ 1048576 by omega)
                    omega
                  have HS := Lib.hid (sT_succ (xs.map fiI) j (fiI m) (by rw [List.getElem?_map, HM.out]; rfl))
                  have wS : IntKind.i64.wrap (sT (xs.map fiI) j + mxV m.base m.least) = sT (xs.map fiI) j + mxV m.base m.least := IntWalk.i64_in _ ⟨by have := hfm.1; unfold fiI at this; omega, by have := hfm.2; unfold fiI at this; omega⟩
                  clear b0 b1 b2 b3 hfm hsT hsT2 hlj hsT3
                  generalize sT (xs.map fiI) j = s at wS HS
                  go_upto_region 9 with fail
                  go_region
                  go_wp2
                  go_roundw
                  case rel => exact ⟨j + 1, by go_num, by omega, by rw [HS.out]; rfl, HB2, Lib.hid HD.out.drew⟩
                  case measure => simp [intOf]; omega
        · obtain rfl : n = j := by omega
          have q2 : decide ((n : Int) < (n : Int)) = false := decide_eq_false (by omega)
          have hrm : sT (xs.map fiI) n = fsum xs := sT_all _ _ (by rw [List.length_map, HL.out]; exact Nat.le_refl _)
          have HX := Lib.hid (exact_ans xs)
          have HSz := Lib.hid (fun V (h : Below w.heap.size w V) => Sizes_any A n c xs hg (fsum xs) V ((HR.out.below h).more h.size))
          rw [hrm]
          generalize fsum xs = room at HX HSz ⊢
          obtain ⟨an, has⟩ : ∃ an, ansS xs room = an := ⟨_, rfl⟩
          obtain ⟨er, her⟩ : ∃ er, errS xs room = er := ⟨_, rfl⟩
          unfold PS at HSz
          rw [has, her] at HX
          rw [has, her] at HSz
          obtain ⟨m2, hm2⟩ : ∃ m2, an.length = m2 := ⟨_, rfl⟩
          rw [hm2] at HX
          rw [hm2] at HSz
          have HSh := Lib.hid (fun V (h : Below w.heap.size w V) => none_any AW k cW ws hg2 V ((HW.out.below h).more h.size) HLW.out)
          have HO := Lib.hid (fun V => one_any num V)
          have hm2n : m2 ≤ n := by
            have := HX.out.2
            rw [HL.out] at this
            omega
          have HM := Lib.hid hm2
          clear has her hm2 hrm HB
          go_wp2_with (go_at_call 10; (with_reducible refine (HSz.out wr HD.out).mono ?_); rintro e w1 ⟨⟨A1, c1, rfl, r⟩, b⟩; have R1 := Lib.hid r; have B1 := Lib.hid (bel_trans HD.out b); clear r b)
          clear HSz HD
          go_loopw [11] (fun i wr => ∃ j : Nat, i = .int .i64 j ∧ j ≤ m2 ∧ Hid (Below w1.heap.size w1 wr)) (fun i _ => m2 - (intOf i).toNat)
          case atStart => exact ⟨0, rfl, by omega, Lib.hid (Below.refl _ _)⟩
          case round =>
            obtain ⟨j, rfl, hj, HD⟩ := hrel
            by_cases hlt : j < m2
            · have q2 : decide ((j : Int) < (m2 : Int)) = true := decide_eq_true (by omega)
              have q3 : decide ((n : Int) ≤ (j : Int)) = false := decide_eq_false (by omega)
              have i0 : (0 : Int) ≤ (j : Int) := by omega
              have i1 : (j : Int) < (m2 : Int) := by omega
              have i2 : (j : Int) < (n : Int) := by omega
              have i3 : j < n := by omega
              obtain ⟨ad, _, rfl, _, _, _⟩ := reads_it HR.out (show j < n by omega)
              obtain ⟨m, hm, hbk, hC⟩ := itsAt HR.out (show j < n by omega)
              obtain ⟨c0, c1', c2, c3⟩ := hC _ (bel_trans B1.out HD.out)
              obtain ⟨ad1, x, rfl, _, hx, cx⟩ := reads_int (R1.out.below HD.out) hlt
              obtain ⟨m', hm', e⟩ := HX.out.1 j x hx
              rw [hm] at hm'
              injection hm' with hm'
              rw [e, ← hm'] at cx
              have cx : wr.cell? (ad1.add j) = some (.int .i64 (mxV m.base m.least)) := cx
              have q4 : (mxV m.base m.least != mxV m.base m.least) = false := by simp
              have HD2 := Lib.hid HD.out.drew
              have HCel := Lib.hid (fun (V : World) (h : Below w1.heap.size w1 V) => (cel_at HR.out R1.out B1.out (hm) (show (an)[j]? = some (mxV m.base m.least) by rw [hx, e, ← hm']; rfl) V h))
              clear hm hm' hC hbk hx e c2 c3 HX HSh HO HM hg hg2 HR R1 HW HL HLW B1 HD hj
              go_upto_region 14 with fail
              refine wp_region_held_drew (S := fun V => Below w1.heap.size w1 V) (by kernel_rfl) HD2.out (fun hS => ?_)
              refine wpAnyH_take (i := 0) (oi := _) (v := .int .i64 (j : Int)) rfl (by kernel_rfl) (by kernel_rfl) (by kernel_rfl) (fun _ _ _ h => h) (Or.inl ⟨by rfl, ?_⟩) hS ?_
              · intro wz hz
                clear hz
                go_simp
              try simp only [List.getElem_toArray, List.getElem_cons_zero, List.getElem_cons_succ, Act.put, List.setIfInBounds_toArray, List.set_cons_zero, List.set_cons_succ]
              refine wpAnyH_take (i := 1) (oi := _) (v := .slice (some ad) n c) rfl (by kernel_rfl) (by kernel_rfl) (by kernel_rfl) (fun _ _ _ h => h) (Or.inl ⟨by rfl, ?_⟩) hS ?_
              · intro wz hz
                clear hz
                go_simp
              try simp only [List.getElem_toArray, List.getElem_cons_zero, List.getElem_cons_succ, Act.put, List.setIfInBounds_toArray, List.set_cons_zero, List.set_cons_succ]
              refine wpAnyH_take (i := 2) (oi := _) (v := .int .i64 (n : Int)) rfl (by kernel_rfl) (by kernel_rfl) (by kernel_rfl) (fun _ _ _ h => h) (Or.inl ⟨by rfl, ?_⟩) hS ?_
              · intro wz hz
                clear hz
                go_simp
              try simp only [List.getElem_toArray, List.getElem_cons_zero, List.getElem_cons_succ, Act.put, List.setIfInBounds_toArray, List.set_cons_zero, List.set_cons_succ]
              refine wpAnyH_take (i := 3) (oi := _) (v := .bool false) rfl (by kernel_rfl) (by kernel_rfl) (by kernel_rfl) (fun _ _ _ h => h) (Or.inl ⟨by rfl, ?_⟩) hS ?_
              · intro wz hz
                clear hz
                go_simp
              try simp only [List.getElem_toArray, List.getElem_cons_zero, List.getElem_cons_succ, Act.put, List.setIfInBounds_toArray, List.set_cons_zero, List.set_cons_succ]
              refine wpAnyH_take (i := 4) (oi := _) (v := .bool false) rfl (by kernel_rfl) (by kernel_rfl) (by kernel_rfl) (fun _ _ _ h => h) (Or.inl ⟨by rfl, ?_⟩) hS ?_
              · intro wz hz
                clear hz
                go_simp
              try simp only [List.getElem_toArray, List.getElem_cons_zero, List.getElem_cons_succ, Act.put, List.setIfInBounds_toArray, List.set_cons_zero, List.set_cons_succ]
              refine wpAnyH_take (i := 5) (oi := _) (v := .slice (some ad1) m2 c1) rfl (by kernel_rfl) (by kernel_rfl) (by kernel_rfl) (fun _ _ _ h => h) (Or.inl ⟨by rfl, ?_⟩) hS ?_
              · intro wz hz
                clear hz
                go_simp
              try simp only [List.getElem_toArray, List.getElem_cons_zero, List.getElem_cons_succ, Act.put, List.setIfInBounds_toArray, List.set_cons_zero, List.set_cons_succ]
              refine wpAnyH_take (i := 6) (oi := _) (v := .int .i64 (j : Int)) rfl (by kernel_rfl) (by kernel_rfl) (by kernel_rfl) (fun _ _ _ h => h) (Or.inl ⟨by rfl, ?_⟩) hS ?_
              · intro wz hz
                clear hz
                go_simp
              try simp only [List.getElem_toArray, List.getElem_cons_zero, List.getElem_cons_succ, Act.put, List.setIfInBounds_toArray, List.set_cons_zero, List.set_cons_succ]
              refine wpAnyH_take (i := 7) (oi := _) (v := .pointer (some (ad1.add j))) rfl (by kernel_rfl) (by kernel_rfl) (by kernel_rfl) (fun _ _ _ h => h) (Or.inl ⟨by rfl, ?_⟩) hS ?_
              · intro wz hz
                clear hz
                go_simp
              try simp only [List.getElem_toArray, List.getElem_cons_zero, List.getElem_cons_succ, Act.put, List.setIfInBounds_toArray, List.set_cons_zero, List.set_cons_succ]
              refine wpAnyH_take (i := 8) (oi := _) (v := .int .i64 (mxV m.base m.least)) rfl (by kernel_rfl) (by kernel_rfl) (by kernel_rfl) (fun _ _ _ h => h) (Or.inl ⟨by rfl, ?_⟩) hS ?_
              · intro wz hz
                obtain ⟨c0, c1, cx⟩ := HCel.out _ hz
                clear hz
                go_simp
              try simp only [List.getElem_toArray, List.getElem_cons_zero, List.getElem_cons_succ, Act.put, List.setIfInBounds_toArray, List.set_cons_zero, List.set_cons_succ]
              refine wpAnyH_take (i := 9) (oi := _) (v := .slice (some ad) n c) rfl (by kernel_rfl) (by kernel_rfl) (by kernel_rfl) (fun _ _ _ h => h) (Or.inl ⟨by rfl, ?_⟩) hS ?_
              · intro wz hz
                clear hz
                go_simp
              try simp only [List.getElem_toArray, List.getElem_cons_zero, List.getElem_cons_succ, Act.put, List.setIfInBounds_toArray, List.set_cons_zero, List.set_cons_succ]
              refine wpAnyH_take (i := 10) (oi := _) (v := .int .i64 (j : Int)) rfl (by kernel_rfl) (by kernel_rfl) (by kernel_rfl) (fun _ _ _ h => h) (Or.inl ⟨by rfl, ?_⟩) hS ?_
              · intro wz hz
                clear hz
                go_simp
              try simp only [List.getElem_toArray, List.getElem_cons_zero, List.getElem_cons_succ, Act.put, List.setIfInBounds_toArray, List.set_cons_zero, List.set_cons_succ]
              refine wpAnyH_take (i := 11) (oi := _) (v := .pointer (some (ad.add (j * 4)))) rfl (by kernel_rfl) (by kernel_rfl) (by kernel_rfl) (fun _ _ _ h => h) (Or.inl ⟨by rfl, ?_⟩) hS ?_
              · intro wz hz
                clear hz
                go_simp
              try simp only [List.getElem_toArray, List.getElem_cons_zero, List.getElem_cons_succ, Act.put, List.setIfInBounds_toArray, List.set_cons_zero, List.set_cons_succ]
              refine wpAnyH_take (i := 12) (oi := _) (v := .pointer (some (ad.add (j * 4)))) rfl (by kernel_rfl) (by kernel_rfl) (by kernel_rfl) (fun _ _ _ h => h) (Or.inl ⟨by rfl, ?_⟩) hS ?_
              · intro wz hz
                clear hz
                go_simp
              try simp only [List.getElem_toArray, List.getElem_cons_zero, List.getElem_cons_succ, Act.put, List.setIfInBounds_toArray, List.set_cons_zero, List.set_cons_succ]
              refine wpAnyH_take (i := 13) (oi := _) (v := .int .i64 m.base) rfl (by kernel_rfl) (by kernel_rfl) (by kernel_rfl) (fun _ _ _ h => h) (Or.inl ⟨by rfl, ?_⟩) hS ?_
              · intro wz hz
                obtain ⟨c0, c1, cx⟩ := HCel.out _ hz
                clear hz
                go_simp
              try simp only [List.getElem_toArray, List.getElem_cons_zero, List.getElem_cons_succ, Act.put, List.setIfInBounds_toArray, List.set_cons_zero, List.set_cons_succ]
              refine wpAnyH_take (i := 14) (oi := _) (v := .slice (some ad) n c) rfl (by kernel_rfl) (by kernel_rfl) (by kernel_rfl) (fun _ _ _ h => h) (Or.inl ⟨by rfl, ?_⟩) hS ?_
              · intro wz hz
                clear hz
                go_simp
              try simp only [List.getElem_toArray, List.getElem_cons_zero, List.getElem_cons_succ, Act.put, List.setIfInBounds_toArray, List.set_cons_zero, List.set_cons_succ]
              refine wpAnyH_take (i := 15) (oi := _) (v := .int .i64 (j : Int)) rfl (by kernel_rfl) (by kernel_rfl) (by kernel_rfl) (fun _ _ _ h => h) (Or.inl ⟨by rfl, ?_⟩) hS ?_
              · intro wz hz
                clear hz
                go_simp
              try simp only [List.getElem_toArray, List.getElem_cons_zero, List.getElem_cons_succ, Act.put, List.setIfInBounds_toArray, List.set_cons_zero, List.set_cons_succ]
              refine wpAnyH_take (i := 16) (oi := _) (v := .pointer (some (ad.add (j * 4)))) rfl (by kernel_rfl) (by kernel_rfl) (by kernel_rfl) (fun _ _ _ h => h) (Or.inl ⟨by rfl, ?_⟩) hS ?_
              · intro wz hz
                clear hz
                go_simp
              try simp only [List.getElem_toArray, List.getElem_cons_zero, List.getElem_cons_succ, Act.put, List.setIfInBounds_toArray, List.set_cons_zero, List.set_cons_succ]
              refine wpAnyH_take (i := 17) (oi := _) (v := .pointer (some ⟨(ad.add (j * 4)).block, (ad.add (j * 4)).off + 1, none⟩)) rfl (by kernel_rfl) (by kernel_rfl) (by kernel_rfl) (fun _ _ _ h => h) (Or.inl ⟨by rfl, ?_⟩) hS ?_
              · intro wz hz
                clear hz
                go_simp
              try simp only [List.getElem_toArray, List.getElem_cons_zero, List.getElem_cons_succ, Act.put, List.setIfInBounds_toArray, List.set_cons_zero, List.set_cons_succ]
              refine wpAnyH_take (i := 18) (oi := _) (v := .int .i64 m.least) rfl (by kernel_rfl) (by kernel_rfl) (by kernel_rfl) (fun _ _ _ h => h) (Or.inl ⟨by rfl, ?_⟩) hS ?_
              · intro wz hz
                obtain ⟨c0, c1, cx⟩ := HCel.out _ hz
                clear hz
                go_simp
              try simp only [List.getElem_toArray, List.getElem_cons_zero, List.getElem_cons_succ, Act.put, List.setIfInBounds_toArray, List.set_cons_zero, List.set_cons_succ]
              refine wpAnyH_take (i := 19) (oi := _) (v := .int .i64 (mxV m.base m.least)) rfl (by kernel_rfl) (by kernel_rfl) (by kernel_rfl) (fun _ _ _ h => h) (Or.inl ⟨by rfl, ?_⟩) hS ?_
              · intro wz hz
                clear hz
                go_simp
              try simp only [List.getElem_toArray, List.getElem_cons_zero, List.getElem_cons_succ, Act.put, List.setIfInBounds_toArray, List.set_cons_zero, List.set_cons_succ]
              refine wpAnyH_take (i := 20) (oi := _) (v := .bool false) rfl (by kernel_rfl) (by kernel_rfl) (by kernel_rfl) (fun _ _ _ h => h) (Or.inl ⟨by rfl, ?_⟩) hS ?_
              · intro wz hz
                clear hz
                go_simp
              try simp only [List.getElem_toArray, List.getElem_cons_zero, List.getElem_cons_succ, Act.put, List.setIfInBounds_toArray, List.set_cons_zero, List.set_cons_succ]
              refine wpAnyH_take (i := 21) (oi := _) (v := .bool false) rfl (by kernel_rfl) (by kernel_rfl) (by kernel_rfl) (fun _ _ _ h => h) (Or.inl ⟨by rfl, ?_⟩) hS ?_
              · intro wz hz
                clear hz
                go_simp
              try simp only [List.getElem_toArray, List.getElem_cons_zero, List.getElem_cons_succ, Act.put, List.setIfInBounds_toArray, List.set_cons_zero, List.set_cons_succ]
              refine wpAnyH_done (by kernel_rfl) ?_ _
              go_wp2
              go_roundw
              case rel => exact ⟨j + 1, by go_num, by omega, Lib.hid hS⟩
              case measure => simp [intOf]; omega
            · obtain rfl : m2 = j := by omega
              have q2 : decide ((m2 : Int) < (m2 : Int)) = false := decide_eq_false (by omega)
              obtain ⟨W2, hW2⟩ : ∃ W2, W2 = wr := ⟨_, rfl⟩
              subst hW2
              have B2 := Lib.hid (bel_trans B1.out HD.out)
              clear B1 HD R1
              go_wp2_with (go_at_call 13; (with_reducible refine (HSh.out W2 B2.out).mono ?_); rintro e w3 ⟨A2, m3, c3, xs3, er3, rfl, hl3, r, h3, hE3, b⟩; have R3 := Lib.hid r; have H3 := Lib.hid h3; have HL3 := Lib.hid hl3; have B3 := Lib.hid (bel_trans B2.out b); clear r b h3 hl3)
              clear HSh B2
              have hm3 : m3 ≤ 100 := by omega
              go_loopw [14] (fun i wr => ∃ j : Nat, i = .int .i64 j ∧ j ≤ m3 ∧ Hid (Below w3.heap.size w3 wr)) (fun i _ => m3 - (intOf i).toNat)
              case atStart => exact ⟨0, rfl, by omega, Lib.hid (Below.refl _ _)⟩
              case round =>
                obtain ⟨j, rfl, hj, HD⟩ := hrel
                by_cases hlt : j < m3
                · have q2 : decide ((j : Int) < (m3 : Int)) = true := decide_eq_true (by omega)
                  have i0 : (0 : Int) ≤ (j : Int) := by omega
                  have i1 : (j : Int) < (m3 : Int) := by omega
                  obtain ⟨ad1, x, rfl, _, hx, cx⟩ := reads_int (R3.out.below HD.out) hlt
                  have e := H3.out x (List.mem_of_getElem? hx)
                  rw [e] at cx
                  clear hx e HX HO HM hg hg2 HR R3 HW HL HLW B3 hE3 hj
                  go_wp2
                  go_roundw
                  case rel => exact ⟨j + 1, by go_num, by omega, HD⟩
                  case measure => simp [intOf]; omega
                · obtain rfl : m3 = j := by omega
                  have q2 : decide ((m3 : Int) < (m3 : Int)) = false := decide_eq_false (by omega)
                  obtain ⟨W4, hW4⟩ : ∃ W4, W4 = wr := ⟨_, rfl⟩
                  subst hW4
                  have B4 := Lib.hid (bel_trans B3.out HD.out)
                  have hE := HX.out.2
                  have hln := HL.out
                  clear B3 HD R3 H3 HL3 HX HM
                  go_upto_region 23 with (go_at_call 13; (with_reducible refine (HO.out W4).mono ?_); rintro e w5 ⟨A5, m5, c5, er5, rfl, h5, b⟩; have B5 := Lib.hid (bel_trans B4.out b); clear b)
                  have hmn : er = 2 ∨ (er = 0 ∧ m2 = n) := by omega
                  clear hE hln hm2n hm3 hj hlt q2 B4
                  rcases hmn with rfl | ⟨rfl, rfl⟩
                  · rcases hE3 with ⟨rfl, rfl⟩ | ⟨rfl, rfl⟩
                    · rcases h5 with ⟨rfl, rfl⟩ | ⟨rfl, rfl, r5⟩
                      · go_wp2_with (go_at_call 9; (with_reducible refine (HH.out _).mono ?_); rintro e w9 ⟨rfl, b⟩; have T6 := Lib.hid (bel_trans B5.out b); clear b)
                        go_ret
                        exact ⟨rfl, T6.out⟩
                      · obtain ⟨a5, rfl, z0, z1, z2⟩ := three_at r5
                        have az : a5.add 0 = a5 := add_zero_ a5
                        clear r5
                        go_wp2_with (go_at_call 9; (with_reducible refine (HH.out _).mono ?_); rintro e w9 ⟨rfl, b⟩; have T6 := Lib.hid (bel_trans B5.out b); clear b)
                        go_ret
                        exact ⟨rfl, T6.out⟩
                    · rcases h5 with ⟨rfl, rfl⟩ | ⟨rfl, rfl, r5⟩
                      · go_wp2_with (go_at_call 9; (with_reducible refine (HH.out _).mono ?_); rintro e w9 ⟨rfl, b⟩; have T6 := Lib.hid (bel_trans B5.out b); clear b)
                        go_ret
                        exact ⟨rfl, T6.out⟩
                      · obtain ⟨a5, rfl, z0, z1, z2⟩ := three_at r5
                        have az : a5.add 0 = a5 := add_zero_ a5
                        clear r5
                        go_wp2_with (go_at_call 9; (with_reducible refine (HH.out _).mono ?_); rintro e w9 ⟨rfl, b⟩; have T6 := Lib.hid (bel_trans B5.out b); clear b)
                        go_ret
                        exact ⟨rfl, T6.out⟩
                  · rcases hE3 with ⟨rfl, rfl⟩ | ⟨rfl, rfl⟩
                    · rcases h5 with ⟨rfl, rfl⟩ | ⟨rfl, rfl, r5⟩
                      · go_wp2_with (go_at_call 9; (with_reducible refine (HH.out _).mono ?_); rintro e w9 ⟨rfl, b⟩; have T6 := Lib.hid (bel_trans B5.out b); clear b)
                        go_ret
                        exact ⟨rfl, T6.out⟩
                      · obtain ⟨a5, rfl, z0, z1, z2⟩ := three_at r5
                        have az : a5.add 0 = a5 := add_zero_ a5
                        clear r5
                        go_wp2_with (go_at_call 9; (with_reducible refine (HH.out _).mono ?_); rintro e w9 ⟨rfl, b⟩; have T6 := Lib.hid (bel_trans B5.out b); clear b)
                        go_ret
                        exact ⟨rfl, T6.out⟩
                    · rcases h5 with ⟨rfl, rfl⟩ | ⟨rfl, rfl, r5⟩
                      · go_wp2_with (go_at_call 9; (with_reducible refine (HH.out _).mono ?_); rintro e w9 ⟨rfl, b⟩; have T6 := Lib.hid (bel_trans B5.out b); clear b)
                        go_ret
                        exact ⟨rfl, T6.out⟩
                      · obtain ⟨a5, rfl, z0, z1, z2⟩ := three_at r5
                        have az : a5.add 0 = a5 := add_zero_ a5
                        clear r5
                        go_wp2_with (go_at_call 9; (with_reducible refine (HH.out _).mono ?_); rintro e w9 ⟨rfl, b⟩; have T6 := Lib.hid (bel_trans B5.out b); clear b)
                        go_ret
                        exact ⟨rfl, T6.out⟩
    · have q1 : decide ((100 : Int) < (k : Int)) = true := decide_eq_true (by omega)
      clear hr hw
      go_enter Try.func8, Try.ntmps8
      go_wp2_with (go_at_call 9; (with_reducible refine (HH.out _).mono ?_); rintro e w9 ⟨rfl, b⟩; have T6 := Lib.hid b; clear b)
      go_ret
      exact ⟨rfl, T6.out⟩
  · have q0 : decide ((60 : Int) < (n : Int)) = true := decide_eq_true (by omega)
    clear hr hw
    go_enter Try.func8, Try.ntmps8
    go_wp2_with (go_at_call 9; (with_reducible refine (HH.out _).mono ?_); rintro e w9 ⟨rfl, b⟩; have T6 := Lib.hid b; clear b)
    go_ret
    exact ⟨rfl, T6.out⟩
end Go.Proofs.Ytglomkpnbdnnoaa.Flex

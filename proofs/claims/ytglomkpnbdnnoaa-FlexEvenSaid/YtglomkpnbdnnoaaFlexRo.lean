/- Chapter 23: the law FlexRoom, walked. No condition but that numbers may come in. -/
import Derived.Test.YtglomkpnbdnnoaaFlexX
import Derived.Test.YtglomkpnbdnnoaaFlexP
namespace Go.Proofs.Ytglomkpnbdnnoaa.Flex
open Go.RowKit Go.Proofs.Ytglomkpnbdnnoaa.Unit Go.Proofs.Ytglomkpnbdnnoaa.Div
set_option linter.unusedVariables false
set_option linter.unusedSimpArgs false
attribute [local go_sem] max2_V max_two
theorem any_take {α : Type} (p : α → Bool) (l : List α) (j : Nat) (x : α) (h : l[j]? = some x) : (l.take (j + 1)).any p = ((l.take j).any p || p x) := by
  obtain ⟨hj, rfl⟩ := List.getElem?_eq_some_iff.1 h
  rw [List.take_succ_eq_append_getElem hj, List.any_append]
  simp
def growB (xs : List It) (j : Nat) : Bool := (xs.take j).any (fun x => decide (0 < x.grow))
def leftB (xs : List It) (ys : List Int) (j : Nat) : Bool := ((xs.zip ys).take j).any (fun p => decide (p.1.least < p.2) && (decide (0 < p.1.shrink) && decide (0 < p.1.base)))
structure RoomF (xs : List It) (room : Int) (ys : List Int) (F S : Int) (n : Nat) : Prop where
  at_ : ∀ (j : Nat) x, xs[j]? = some x → ∃ a, ys[j]? = some a ∧ x.least ≤ a ∧ (F ≤ room → mxV x.base x.least ≤ a) ∧ (room < F → a ≤ mxV x.base x.least)
  fi : ∀ x ∈ xs, 0 ≤ mxV x.base x.least ∧ mxV x.base x.least ≤ 1073741824
  le : ∀ a ∈ ys, 0 ≤ a ∧ a ≤ 1073741824
  f : ∀ j, 0 ≤ sT (xs.map fiI) j ∧ sT (xs.map fiI) j ≤ 1099511627776
  s : ∀ j, 0 ≤ sT ys j ∧ sT ys j ≤ 1099511627776
  fn : sT (xs.map fiI) n = F
  sn : sT ys n = S
  grown : F ≤ room → S = room ∨ (growB xs n = false ∧ S = F)
  shrunk : room < F → room ≤ S ∧ (S = room ∨ leftB xs ys n = false)
theorem roomF {xs : List It} {room : Int} {n : Nat} (hl : xs.length = n) (hn : n ≤ 60) (h : okS xs room = true) : RoomF xs room (sizesL xs room) (fsum xs) (sizesL xs room).sum n := by
  obtain ⟨r0, r1, ho⟩ := okS_parts h
  have hlen : (sizesL xs room).length = n := by rw [sizesL_len, hl]
  have hfi : ∀ x ∈ xs, 0 ≤ mxV x.base x.least ∧ mxV x.base x.least ≤ 1073741824 := fun x hx => by
    have := ho x hx
    unfold okI at this
    unfold mxV
    split <;> omega
  have hfl : ∀ y ∈ xs.map fiI, 0 ≤ y ∧ y ≤ 1073741824 := fun y hy => by
    obtain ⟨x, hx, rfl⟩ := List.mem_map.1 hy
    exact hfi x hx
  have hat : ∀ (j : Nat) x, xs[j]? = some x → ∃ a, (sizesL xs room)[j]? = some a ∧ x.least ≤ a ∧ (fsum xs ≤ room → mxV x.base x.least ≤ a) ∧ (room < fsum xs → a ≤ mxV x.base x.least) := fun j x hx => by
    have hj : j < n := by have := (List.getElem?_eq_some_iff.1 hx).1; omega
    obtain ⟨a, ha⟩ := at_len hlen hj
    obtain ⟨k1, k2, k3⟩ := sizes_at ho hx ha
    exact ⟨a, ha, k1, k2, k3⟩
  have hnn : ∀ a ∈ sizesL xs room, 0 ≤ a := fun a ha => by
    obtain ⟨j, hj⟩ := List.getElem?_of_mem ha
    have hjn : j < n := by have := (List.getElem?_eq_some_iff.1 hj).1; omega
    obtain ⟨x, hx⟩ := at_len hl hjn
    have k1 := (sizes_at ho hx hj).1
    have := ho x (List.mem_of_getElem? hx)
    unfold okI at this
    omega
  have hn60 : ((sizesL xs room).length : Int) ≤ 60 := by rw [hlen]; omega
  have hsum : fsum xs ≤ room → (sizesL xs room).sum ≤ 1073741824 := fun hle => by
    rcases sizes_grow_sum ho hle with e | ⟨_, e⟩ <;> omega
  have hle : ∀ a ∈ sizesL xs room, 0 ≤ a ∧ a ≤ 1073741824 := fun a ha => by
    refine ⟨hnn a ha, ?_⟩
    obtain ⟨j, hj⟩ := List.getElem?_of_mem ha
    have hjn : j < n := by have := (List.getElem?_eq_some_iff.1 hj).1; omega
    by_cases hc : fsum xs ≤ room
    · have e := sT_succ _ j a hj
      have g1 := sT_nonneg _ hnn j
      have g2 := sT_le_sum _ hnn (j + 1)
      have := hsum hc
      omega
    · obtain ⟨x, hx⟩ := at_len hl hjn
      have k3 := (sizes_at ho hx hj).2.2 (by omega)
      have := hfi x (List.mem_of_getElem? hx)
      unfold fiI at k3
      omega
  refine ⟨hat, hfi, hle, fun j => ?_, fun j => ?_, sT_all _ _ (by rw [List.length_map]; omega), sT_all _ _ (by omega), fun hc => ?_, fun hc => ?_⟩
  · have := sT_bd (xs.map fiI) j 1073741824 (by omega) hfl
    have h6 : ((xs.map fiI).length : Int) ≤ 60 := by rw [List.length_map]; omega
    omega
  · have := sT_bd (sizesL xs room) j 1073741824 (by omega) hle
    omega
  · rcases sizes_grow_sum ho hc with e | ⟨e0, e⟩
    · exact .inl e
    · refine .inr ⟨?_, e⟩
      unfold growB
      rw [List.any_eq_false]
      intro x hx
      have := e0 x (List.mem_of_mem_take hx)
      simp [this]
  · obtain ⟨e0, e⟩ := sizes_shrink_sum ho hc
    refine ⟨e0, e.imp_right fun e => ?_⟩
    unfold leftB
    rw [List.any_eq_false]
    intro p hp
    obtain ⟨j, hj⟩ := List.getElem?_of_mem (List.mem_of_mem_take hp)
    rw [List.getElem?_zip_eq_some] at hj
    have := e j p.1 p.2 hj.1 hj.2
    simp only [Bool.and_eq_true, decide_eq_true_eq]
    exact this
set_option maxHeartbeats 16000000 in
set_option maxRecDepth 100000 in
theorem FlexRoom_any (A : Option Addr) (n c : Nat) (xs : List It) (room : Int) (w : World) (hr : Reads w w.heap.size 4 A n (itL xs)) :
    Calls Try.prog 5 #[.slice A n c, .int .i64 room] w fun e w' => e = .returned (.bool true) ∧ Below w.heap.size w w' := by
  have HH := Lib.hid (fun V => head_any V)
  by_cases hg : n ≤ 60
  · have q0 : decide ((60 : Int) < (n : Int)) = false := decide_eq_false (by omega)
    have HSz := Lib.hid (Sizes_any A n c xs hg room w hr)
    unfold PS at HSz
    have HR := Lib.hid hr
    have hln := len_it hr
    have nn : (n : Int) ≤ 60 := by omega
    cases hok : okS xs room with
    | false =>
      have e1 : ansS xs room = [] := by unfold ansS; rw [hok]; rfl
      have e2 : errS xs room = 2 := by unfold errS; rw [hok]; rfl
      rw [e1, e2] at HSz
      clear hr hok e1 e2
      go_enter Try.func5, Try.ntmps5
      go_wp2_with (first
        | (go_at_call 10; (with_reducible refine HSz.out.mono ?_); rintro e w1 ⟨⟨A1, c1, rfl, r⟩, b⟩; have B1 := Lib.hid b; clear r b)
        | (go_at_call 9; (with_reducible refine (HH.out _).mono ?_); rintro e w9 ⟨rfl, b⟩; have T6 := Lib.hid (bel_trans B1.out b); clear b))
      go_ret
      exact ⟨rfl, T6.out⟩
    | true =>
      have e1 : ansS xs room = sizesL xs room := by unfold ansS; rw [hok]; rfl
      have e2 : errS xs room = 0 := by unfold errS; rw [hok]; rfl
      have hl2 : (sizesL xs room).length = n := by rw [sizesL_len, hln]
      rw [e1, e2, hl2] at HSz
      have RF := Lib.hid (roomF hln hg hok)
      obtain ⟨ys, hys⟩ : ∃ ys, sizesL xs room = ys := ⟨_, rfl⟩
      obtain ⟨F, hF⟩ : ∃ F, fsum xs = F := ⟨_, rfl⟩
      rw [hys] at HSz
      rw [hys, hF] at RF
      obtain ⟨S, hS⟩ : ∃ S, ys.sum = S := ⟨_, rfl⟩
      rw [hS] at RF
      clear hr hok e1 e2 hl2 hys hF hS hg hln
      have qn : ((n : Int) != (n : Int)) = false := by simp
      go_enter Try.func5, Try.ntmps5
      go_wp2_with (go_at_call 10; (with_reducible refine HSz.out.mono ?_); rintro e w1 ⟨⟨A1, c1, rfl, r⟩, b⟩; have R1 := Lib.hid r; have B1 := Lib.hid b; clear r b)
      clear HSz qn
      go_loopw [7, 8, 9, 10, 11] (fun f s g l i wr => ∃ j : Nat, i = .int .i64 j ∧ j ≤ n ∧ f = .int .i64 (sT (xs.map fiI) j) ∧ s = .int .i64 (sT ys j) ∧ g = .bool (growB xs j) ∧ l = .bool (leftB xs ys j) ∧ Hid (Below w1.heap.size w1 wr)) (fun _ _ _ _ i _ => n - (intOf i).toNat)
      case atStart => exact ⟨0, rfl, by omega, rfl, rfl, rfl, rfl, Lib.hid (Below.refl _ _)⟩
      case round =>
        obtain ⟨j, rfl, hj, rfl, rfl, rfl, rfl, HD⟩ := hrel
        by_cases hlt : j < n
        · have q2 : decide ((j : Int) < (n : Int)) = true := decide_eq_true (by omega)
          have i0 : (0 : Int) ≤ (j : Int) := by omega
          have i1 : (j : Int) < (n : Int) := by omega
          obtain ⟨ad, _, rfl, _, _, _⟩ := reads_it HR.out hlt
          obtain ⟨m, hm, _, hC⟩ := itsAt HR.out hlt
          obtain ⟨ad1, a, rfl, _, ha, _⟩ := reads_int R1.out hlt
          obtain ⟨a', ha', k1, _, _⟩ := RF.out.at_ j m hm
          have ea : a' = a := by rw [ha] at ha'; injection ha' with ha'; exact ha'.symm
          rw [ea] at k1
          have t1 : decide (a < m.least) = false := decide_eq_false (by omega)
          have hf := RF.out.fi m (List.mem_of_getElem? hm)
          have hy := RF.out.le a (List.mem_of_getElem? ha)
          have hF := RF.out.f j
          have hS := RF.out.s j
          have HFs := Lib.hid (show sT (xs.map fiI) (j + 1) = sT (xs.map fiI) j + mxV m.base m.least from sT_succ (xs.map fiI) j (fiI m) (by rw [List.getElem?_map, hm]; rfl))
          have HSs := Lib.hid (sT_succ ys j a ha)
          have HGs := Lib.hid (show growB xs (j + 1) = (growB xs j || decide (0 < m.grow)) from any_take _ xs j m hm)
          have HLs := Lib.hid (show leftB xs ys (j + 1) = (leftB xs ys j || (decide (m.least < a) && (decide (0 < m.shrink) && decide (0 < m.base)))) from any_take _ (xs.zip ys) j (m, a) (by rw [List.getElem?_zip_eq_some]; exact ⟨hm, ha⟩))
          have HCe := Lib.hid (fun (V : World) (h : Below w1.heap.size w1 V) => (⟨hC V (bel_trans B1.out h), (show V.cell? (ad1.add j) = some (.int .i64 a) by obtain ⟨x, hx, _, hD⟩ := intsAt R1.out hlt; rw [ha] at hx; injection hx with hx; rw [hx]; exact hD V h)⟩ : Cell4 V (ad.add (j * 4)) m ∧ V.cell? (ad1.add j) = some (.int .i64 a)))
          clear hm hC ha ha' ea k1 HR R1 RF B1
          generalize sT (xs.map fiI) j = fj at hF HFs ⊢
          generalize sT ys j = sj at hS HSs ⊢
          have wF : IntKind.i64.wrap (fj + mxV m.base m.least) = fj + mxV m.base m.least := IntWalk.i64_in _ ⟨by omega, by omega⟩
          have wS : IntKind.i64.wrap (sj + a) = sj + a := IntWalk.i64_in _ ⟨by omega, by omega⟩
          clear hf hy hF hS
          generalize leftB xs ys j = l at HLs ⊢
          generalize growB xs j = g at HGs ⊢
          obtain ⟨⟨c0, c1', c2, c3⟩, cx⟩ := HCe.out wr HD.out
          go_upto_region 10 with fail
          go_region
          go_upto_region 11 with fail
          have HD2 := Lib.hid HD.out.drew
          generalize wr.drew = W2 at HD2 ⊢
          clear c0 c1' c2 c3 cx HD
          obtain ⟨⟨c0, c1', c2, c3⟩, cx⟩ := HCe.out W2 HD2.out
          cases g
          · go_upto_region 13 with fail
            cases l
            · by_cases h1 : m.least < a
              · have q3 : decide (m.least < a) = true := decide_eq_true h1
                by_cases h2 : 0 < m.shrink
                · have q4 : decide (0 < m.shrink) = true := decide_eq_true h2
                  clear h1 h2
                  go_quiet (fail)
                  have HD3 := Lib.hid (bel_drewN HD2.out nq)
                  generalize W2.drewN nq = W3 at HD3 ⊢
                  clear c0 c1' c2 c3 cx HD2
                  obtain ⟨⟨c0, c1', c2, c3⟩, cx⟩ := HCe.out W3 HD3.out
                  clear HCe
                  go_upto_region 14 with fail
                  go_quiet (fail)
                  have HD4 := Lib.hid (bel_drewN HD3.out nq)
                  generalize W3.drewN nq = W4 at HD4 ⊢
                  clear c0 c1' c2 c3 cx HD3
                  go_wp2
                  go_roundw
                  case rel => exact ⟨j + 1, by go_num, by omega, by rw [HFs.out], by rw [HSs.out], by rw [HGs.out]; rfl, by rw [HLs.out, q3, q4]; rfl, HD4⟩
                  case measure => simp [intOf]; omega
                · have q4 : decide (0 < m.shrink) = false := decide_eq_false h2
                  clear h1 h2
                  go_quiet (fail)
                  have HD3 := Lib.hid (bel_drewN HD2.out nq)
                  generalize W2.drewN nq = W3 at HD3 ⊢
                  clear c0 c1' c2 c3 cx HD2
                  obtain ⟨⟨c0, c1', c2, c3⟩, cx⟩ := HCe.out W3 HD3.out
                  clear HCe
                  go_upto_region 14 with fail
                  go_quiet (fail)
                  have HD4 := Lib.hid (bel_drewN HD3.out nq)
                  generalize W3.drewN nq = W4 at HD4 ⊢
                  clear c0 c1' c2 c3 cx HD3
                  go_wp2
                  go_roundw
                  case rel => exact ⟨j + 1, by go_num, by omega, by rw [HFs.out], by rw [HSs.out], by rw [HGs.out]; rfl, by rw [HLs.out, q3, q4]; rfl, HD4⟩
                  case measure => simp [intOf]; omega
              · have q3 : decide (m.least < a) = false := decide_eq_false h1
                clear h1
                go_quiet (fail)
                have HD3 := Lib.hid (bel_drewN HD2.out nq)
                generalize W2.drewN nq = W3 at HD3 ⊢
                clear c0 c1' c2 c3 cx HD2
                obtain ⟨⟨c0, c1', c2, c3⟩, cx⟩ := HCe.out W3 HD3.out
                clear HCe
                go_upto_region 14 with fail
                go_quiet (fail)
                have HD4 := Lib.hid (bel_drewN HD3.out nq)
                generalize W3.drewN nq = W4 at HD4 ⊢
                clear c0 c1' c2 c3 cx HD3
                go_wp2
                go_roundw
                case rel => exact ⟨j + 1, by go_num, by omega, by rw [HFs.out], by rw [HSs.out], by rw [HGs.out]; rfl, by rw [HLs.out, q3]; rfl, HD4⟩
                case measure => simp [intOf]; omega
            · skip
              go_quiet (fail)
              have HD3 := Lib.hid (bel_drewN HD2.out nq)
              generalize W2.drewN nq = W3 at HD3 ⊢
              clear c0 c1' c2 c3 cx HD2
              obtain ⟨⟨c0, c1', c2, c3⟩, cx⟩ := HCe.out W3 HD3.out
              clear HCe
              go_upto_region 14 with fail
              go_quiet (fail)
              have HD4 := Lib.hid (bel_drewN HD3.out nq)
              generalize W3.drewN nq = W4 at HD4 ⊢
              clear c0 c1' c2 c3 cx HD3
              go_wp2
              go_roundw
              case rel => exact ⟨j + 1, by go_num, by omega, by rw [HFs.out], by rw [HSs.out], by rw [HGs.out]; rfl, by rw [HLs.out]; rfl, HD4⟩
              case measure => simp [intOf]; omega
          · go_upto_region 13 with fail
            cases l
            · by_cases h1 : m.least < a
              · have q3 : decide (m.least < a) = true := decide_eq_true h1
                by_cases h2 : 0 < m.shrink
                · have q4 : decide (0 < m.shrink) = true := decide_eq_true h2
                  clear h1 h2
                  go_quiet (fail)
                  have HD3 := Lib.hid (bel_drewN HD2.out nq)
                  generalize W2.drewN nq = W3 at HD3 ⊢
                  clear c0 c1' c2 c3 cx HD2
                  obtain ⟨⟨c0, c1', c2, c3⟩, cx⟩ := HCe.out W3 HD3.out
                  clear HCe
                  go_upto_region 14 with fail
                  go_quiet (fail)
                  have HD4 := Lib.hid (bel_drewN HD3.out nq)
                  generalize W3.drewN nq = W4 at HD4 ⊢
                  clear c0 c1' c2 c3 cx HD3
                  go_wp2
                  go_roundw
                  case rel => exact ⟨j + 1, by go_num, by omega, by rw [HFs.out], by rw [HSs.out], by rw [HGs.out]; rfl, by rw [HLs.out, q3, q4]; rfl, HD4⟩
                  case measure => simp [intOf]; omega
                · have q4 : decide (0 < m.shrink) = false := decide_eq_false h2
                  clear h1 h2
                  go_quiet (fail)
                  have HD3 := Lib.hid (bel_drewN HD2.out nq)
                  generalize W2.drewN nq = W3 at HD3 ⊢
                  clear c0 c1' c2 c3 cx HD2
                  obtain ⟨⟨c0, c1', c2, c3⟩, cx⟩ := HCe.out W3 HD3.out
                  clear HCe
                  go_upto_region 14 with fail
                  go_quiet (fail)
                  have HD4 := Lib.hid (bel_drewN HD3.out nq)
                  generalize W3.drewN nq = W4 at HD4 ⊢
                  clear c0 c1' c2 c3 cx HD3
                  go_wp2
                  go_roundw
                  case rel => exact ⟨j + 1, by go_num, by omega, by rw [HFs.out], by rw [HSs.out], by rw [HGs.out]; rfl, by rw [HLs.out, q3, q4]; rfl, HD4⟩
                  case measure => simp [intOf]; omega
              · have q3 : decide (m.least < a) = false := decide_eq_false h1
                clear h1
                go_quiet (fail)
                have HD3 := Lib.hid (bel_drewN HD2.out nq)
                generalize W2.drewN nq = W3 at HD3 ⊢
                clear c0 c1' c2 c3 cx HD2
                obtain ⟨⟨c0, c1', c2, c3⟩, cx⟩ := HCe.out W3 HD3.out
                clear HCe
                go_upto_region 14 with fail
                go_quiet (fail)
                have HD4 := Lib.hid (bel_drewN HD3.out nq)
                generalize W3.drewN nq = W4 at HD4 ⊢
                clear c0 c1' c2 c3 cx HD3
                go_wp2
                go_roundw
                case rel => exact ⟨j + 1, by go_num, by omega, by rw [HFs.out], by rw [HSs.out], by rw [HGs.out]; rfl, by rw [HLs.out, q3]; rfl, HD4⟩
                case measure => simp [intOf]; omega
            · skip
              go_quiet (fail)
              have HD3 := Lib.hid (bel_drewN HD2.out nq)
              generalize W2.drewN nq = W3 at HD3 ⊢
              clear c0 c1' c2 c3 cx HD2
              obtain ⟨⟨c0, c1', c2, c3⟩, cx⟩ := HCe.out W3 HD3.out
              clear HCe
              go_upto_region 14 with fail
              go_quiet (fail)
              have HD4 := Lib.hid (bel_drewN HD3.out nq)
              generalize W3.drewN nq = W4 at HD4 ⊢
              clear c0 c1' c2 c3 cx HD3
              go_wp2
              go_roundw
              case rel => exact ⟨j + 1, by go_num, by omega, by rw [HFs.out], by rw [HSs.out], by rw [HGs.out]; rfl, by rw [HLs.out]; rfl, HD4⟩
              case measure => simp [intOf]; omega
        · obtain rfl : n = j := by omega
          have q2 : decide ((n : Int) < (n : Int)) = false := decide_eq_false (by omega)
          rw [RF.out.fn, RF.out.sn]
          have hgr := RF.out.grown
          have hsh := RF.out.shrunk
          have HAt := Lib.hid RF.out.at_
          generalize growB xs n = g at hgr ⊢
          generalize leftB xs ys n = l at hsh ⊢
          clear RF
          obtain ⟨W2, hW2⟩ : ∃ W2, W2 = wr := ⟨_, rfl⟩
          subst hW2
          have HGr := Lib.hid hgr
          have HSh := Lib.hid hsh
          clear hgr hsh
          go_wp2
          go_loopw [12, 13] (fun i v wr => ∃ j : Nat, i = .int .i64 j ∧ j ≤ n ∧ Hid (Below w1.heap.size w1 wr)) (fun i _ _ => n - (intOf i).toNat)
          case atStart => exact ⟨0, rfl, by omega, HD⟩
          case round =>
            obtain ⟨j, rfl, hj, HE⟩ := hrel
            clear HD
            by_cases hlt : j < n
            · have q3 : decide ((j : Int) < (n : Int)) = true := decide_eq_true (by omega)
              have i0 : (0 : Int) ≤ (j : Int) := by omega
              have i1 : (j : Int) < (n : Int) := by omega
              obtain ⟨ad, _, rfl, _, _, _⟩ := reads_it HR.out hlt
              obtain ⟨m, hm, _, hC⟩ := itsAt HR.out hlt
              obtain ⟨ad1, a, rfl, _, ha, _⟩ := reads_int R1.out hlt
              obtain ⟨a', ha', k1, k2, k3⟩ := HAt.out j m hm
              have ea : a' = a := by rw [ha] at ha'; injection ha' with ha'; exact ha'.symm
              rw [ea] at k1 k2 k3
              have HCe := Lib.hid (fun (V : World) (h : Below w1.heap.size w1 V) => (⟨hC V (bel_trans B1.out h), (show V.cell? (ad1.add j) = some (.int .i64 a) by obtain ⟨x, hx, _, hD⟩ := intsAt R1.out hlt; rw [ha] at hx; injection hx with hx; rw [hx]; exact hD V h)⟩ : Cell4 V (ad.add (j * 4)) m ∧ V.cell? (ad1.add j) = some (.int .i64 a)))
              clear hm hC ha ha' ea k1 HR R1 HAt B1 HGr HSh
              obtain ⟨⟨c0, c1', c2, c3⟩, cx⟩ := HCe.out wr HE.out
              go_upto_region 19 with fail
              go_region
              go_upto_region 20 with fail
              have HD2 := Lib.hid HE.out.drew
              generalize wr.drew = W3 at HD2 ⊢
              clear c0 c1' c2 c3 cx HE
              have cx := (HCe.out W3 HD2.out).2
              by_cases hle : F ≤ room
              · have u1 : decide (F ≤ room) = true := decide_eq_true hle
                have u2 : decide (room < F) = false := decide_eq_false (by omega)
                have u3 : decide (a < mxV m.base m.least) = false := decide_eq_false (by have := k2 hle; omega)
                clear k2 k3 hle HCe
                go_wp2
                go_roundw
                case rel => exact ⟨j + 1, by go_num, by omega, HD2⟩
                case measure => simp [intOf]; omega
              · have u1 : decide (F ≤ room) = false := decide_eq_false hle
                have u2 : decide (room < F) = true := decide_eq_true (by omega)
                have u3 : decide (mxV m.base m.least < a) = false := decide_eq_false (by have := k3 (by omega); omega)
                clear k2 k3 hle HCe
                go_wp2
                go_roundw
                case rel => exact ⟨j + 1, by go_num, by omega, HD2⟩
                case measure => simp [intOf]; omega
            · obtain rfl : n = j := by omega
              have q3 : decide ((n : Int) < (n : Int)) = false := decide_eq_false (by omega)
              have BE := Lib.hid (bel_trans B1.out HE.out)
              clear HR R1 HAt B1 HE
              by_cases hle : F ≤ room
              · have u1 : decide (F ≤ room) = true := decide_eq_true hle
                have hE := HGr.out hle
                clear HGr HSh hle
                by_cases hSr : S = room
                · have u2 : (S == room) = true := by simpa using hSr
                  clear hE hSr
                  go_wp2_with (go_at_call 9; (with_reducible refine (HH.out _).mono ?_); rintro e w9 ⟨rfl, b⟩; have T6 := Lib.hid (bel_trans BE.out b); clear b)
                  go_ret
                  exact ⟨rfl, T6.out⟩
                · have u2 : (S == room) = false := by simpa using hSr
                  obtain ⟨rfl, hSF⟩ : g = false ∧ S = F := by rcases hE with h | h; exact absurd h hSr; exact h
                  have u3 : (S == F) = true := by simpa using hSF
                  clear hE hSr hSF
                  go_wp2_with (go_at_call 9; (with_reducible refine (HH.out _).mono ?_); rintro e w9 ⟨rfl, b⟩; have T6 := Lib.hid (bel_trans BE.out b); clear b)
                  go_ret
                  exact ⟨rfl, T6.out⟩
              · have u1 : decide (F ≤ room) = false := decide_eq_false hle
                obtain ⟨hge, hE⟩ := HSh.out (by omega)
                have u4 : decide (room ≤ S) = true := decide_eq_true hge
                clear HGr HSh hle hge
                by_cases hSr : S = room
                · have u2 : (S == room) = true := by simpa using hSr
                  clear hE hSr
                  go_wp2_with (go_at_call 9; (with_reducible refine (HH.out _).mono ?_); rintro e w9 ⟨rfl, b⟩; have T6 := Lib.hid (bel_trans BE.out b); clear b)
                  go_ret
                  exact ⟨rfl, T6.out⟩
                · have u2 : (S == room) = false := by simpa using hSr
                  obtain rfl : l = false := by rcases hE with h | h; exact absurd h hSr; exact h
                  clear hE hSr
                  go_wp2_with (go_at_call 9; (with_reducible refine (HH.out _).mono ?_); rintro e w9 ⟨rfl, b⟩; have T6 := Lib.hid (bel_trans BE.out b); clear b)
                  go_ret
                  exact ⟨rfl, T6.out⟩
  · have q0 : decide ((60 : Int) < (n : Int)) = true := decide_eq_true (by omega)
    clear hr
    go_enter Try.func5, Try.ntmps5
    go_wp2_with (go_at_call 9; (with_reducible refine (HH.out _).mono ?_); rintro e w9 ⟨rfl, b⟩; have T6 := Lib.hid b; clear b)
    go_ret
    exact ⟨rfl, T6.out⟩
end Go.Proofs.Ytglomkpnbdnnoaa.Flex

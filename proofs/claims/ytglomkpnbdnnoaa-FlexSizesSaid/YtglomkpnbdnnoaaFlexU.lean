/- Chapter 23: the program's Sizes, walked. No condition but bounds. -/
import Derived.Test.YtglomkpnbdnnoaaFlexT
namespace Go.Proofs.Ytglomkpnbdnnoaa.Flex
open Go.RowKit Go.Proofs.Ytglomkpnbdnnoaa.Unit Go.Proofs.Ytglomkpnbdnnoaa.Div
set_option linter.unusedVariables false
set_option linter.unusedSimpArgs false
attribute [local go_sem] Oper.semAt_some
/-- What is answered. -/
def PS (w : World) (xs : List It) (room : Int) (e : Ending) (w' : World) : Prop := (∃ A' c', e = .returned (.tuple #[.slice A' (ansS xs room).length c', .int .i64 (errS xs room)]) ∧ Reads w' w'.heap.size 1 A' (ansS xs room).length ((ansS xs room).map (Value.int .i64))) ∧ Below w.heap.size w w'
theorem PS_no {w w' : World} {xs : List It} {room : Int} (h : okS xs room = false) (hb : Below w.heap.size w w') : PS w xs room (.returned (.tuple #[.slice none 0 0, .int .i64 2])) w' := by
  have e1 : ansS xs room = [] := by unfold ansS; rw [h]; rfl
  have e2 : errS xs room = 2 := by unfold errS; rw [h]; rfl
  unfold PS
  rw [e1, e2]
  exact ⟨⟨none, 0, rfl, Reads.none_⟩, hb⟩
theorem PS_yes {w w' : World} {xs : List It} {room : Int} {n c : Nat} {A : Option Addr} {ys : List Int} (h : okS xs room = true) (hl : xs.length = n) (he : sizesL xs room = ys) (hr : Reads w' w'.heap.size 1 A n (ys.map (Value.int .i64))) (hb : Below w.heap.size w w') : PS w xs room (.returned (.tuple #[.slice A n c, .int .i64 0])) w' := by
  have e1 : ansS xs room = ys := by unfold ansS; rw [h, if_pos rfl, he]
  have e2 : errS xs room = 0 := by unfold errS; rw [h]; rfl
  have e3 : ys.length = n := by rw [← he, sizesL_len, hl]
  unfold PS
  rw [e1, e2, e3]
  exact ⟨⟨A, c, rfl, hr⟩, hb⟩
theorem gr26_any (p1 : Nat) (A : Option Addr) (n c : Nat) (xs : List It) (i : Nat) (hi : i < n) (hn : n ≤ 1000000) (B : Nat) (V : World) (k2 : Blk V p1 22 #[.slice A n c]) (hr : Reads V B 4 A n (itL xs)) :
    Calls Try.prog 26 #[.int .i64 (i : Int), .pointer (some ⟨p1, 0, none⟩)] V fun e w' => (∃ x, (xs.map It.grow)[i]? = some x ∧ e = .returned (.int .i64 x)) ∧ Below V.heap.size V w' := by
  have d1 : V.cell? ⟨p1, 0, none⟩ = some (.slice A n c) := k2.cell 0
  obtain ⟨ad, x, rfl, _, hx, c0, c1, c2, c3⟩ := reads_it hr hi
  have i0 : (0 : Int) ≤ (i : Int) := by omega
  have i1 : (i : Int) < (n : Int) := by omega
  have HX := Lib.hid (show (xs.map It.grow)[i]? = some x.grow by rw [List.getElem?_map, hx]; rfl)
  clear hx k2 hr
  go_enter Try.func26, Try.ntmps26
  go_wp2
  go_ret
  exact ⟨⟨_, HX.out, rfl⟩, Below.refl _ _⟩
theorem rounds_any (A : Option Addr) (n c : Nat) (room : Int) (w : World) : Calls Try.prog 24 #[.slice A n c, .int .i64 room] w fun e w' => e = .returned (.func (.func 36) #[] #[.pointer (some ⟨w.heap.size, 0, none⟩), .pointer (some ⟨w.heap.size + 1, 0, none⟩)]) ∧ (w.alloc (.cells #[.slice A n c] 22)).alloc (.cells #[.int .i64 room] 2) = w' := by
  go_enter Try.func24, Try.ntmps24
  go_wp2
  go_ret
  exact ⟨rfl, rfl⟩
set_option maxHeartbeats 4000000 in
set_option maxRecDepth 100000 in
theorem SizesNo_any (A : Option Addr) (n c : Nat) (xs : List It) (hn : n ≤ 60) (room : Int) (hno : okS xs room = false) (w : World) (hr : Reads w w.heap.size 4 A n (itL xs)) :
    Calls Try.prog 10 #[.slice A n c, .int .i64 room] w (PS w xs room) := by
  have nn : (n : Int) ≤ 60 := by omega
  have HNO := Lib.hid hno
  have g0 : decide ((65536 : Int) < (n : Int)) = false := decide_eq_false (by omega)
  have HW := Lib.hid (fun V => within_any room 1073741824 V)
  have HA := Lib.hid (bel_alloc (Below.refl w.heap.size w) (.cells #[.slice A n c] 22))
  have HCo := Lib.hid (containsIt_any A n c xs (by omega) (w.alloc (.cells #[.slice A n c] 22)) ((hr.alloc (Nat.le_refl _) _).more (by rw [World.size_alloc]; omega)))
  by_cases h1 : wiB room 1073741824 = true
  · have h2 : xs.any (fun x => !maI x) = true := by
      unfold okS at hno
      rw [h1] at hno
      simpa using hno
    rw [h1] at HW
    rw [h2] at HCo
    clear hno h1 h2 hr
    go_enter Try.func10, Try.ntmps10
    go_wp2_with (first
      | (go_at_call 17; (with_reducible refine (HW.out _).mono ?_); rintro e w1 ⟨rfl, rfl⟩)
      | (go_at_call 18; (with_reducible refine HCo.out.mono ?_); rintro e w2 ⟨rfl, b2⟩; have B2 := Lib.hid (bel_trans HA.out b2); clear b2))
    go_ret2
    exact PS_no HNO.out B2.out
  · have h1 : wiB room 1073741824 = false := by simpa using h1
    rw [h1] at HW
    clear hno h1 hr
    go_enter Try.func10, Try.ntmps10
    go_wp2_with (first
      | (go_at_call 17; (with_reducible refine (HW.out _).mono ?_); rintro e w1 ⟨rfl, rfl⟩))
    go_ret2
    exact PS_no HNO.out HA.out
set_option maxHeartbeats 4000000 in
set_option maxRecDepth 100000 in
theorem SizesGrow_any (A : Option Addr) (n c : Nat) (xs : List It) (hn : n ≤ 60) (room : Int) (hyes : okS xs room = true) (hle : fsum xs ≤ room) (w : World) (hr : Reads w w.heap.size 4 A n (itL xs)) :
    Calls Try.prog 10 #[.slice A n c, .int .i64 room] w (PS w xs room) := by
  have nn : (n : Int) ≤ 60 := by omega
  have HYES := Lib.hid hyes
  obtain ⟨r0, r1, hok⟩ := okS_parts hyes
  have HL := Lib.hid (len_it hr)
  have HOK := Lib.hid hok
  have g0 : decide ((65536 : Int) < (n : Int)) = false := decide_eq_false (by omega)
  have h1 : wiB room 1073741824 = true := by unfold wiB; rw [decide_eq_true r0, decide_eq_true r1]; rfl
  have h2 : xs.any (fun x => !maI x) = false := by unfold okS at hyes; rw [h1] at hyes; simpa using hyes
  have HW := Lib.hid (fun V => within_any room 1073741824 V)
  rw [h1] at HW
  have HCo := Lib.hid (containsIt_any A n c xs (by omega) (w.alloc (.cells #[.slice A n c] 22)) ((hr.alloc (Nat.le_refl _) _).more (by rw [World.size_alloc]; omega)))
  rw [h2] at HCo
  have HRA := Lib.hid (hr.alloc (Nat.le_refl _) (.cells #[.slice A n c] 22))
  have KA := Lib.hid (Blk.new w 22 #[.slice A n c])
  have HA := Lib.hid (bel_alloc (Below.refl w.heap.size w) (.cells #[.slice A n c] 22))
  have hfb : ∀ s ∈ xs.map fiI, 0 ≤ s ∧ s ≤ 1073741824 := fun s hs => by
    obtain ⟨x, hx, rfl⟩ := List.mem_map.1 hs
    have := szI_bd (hok x hx) false
    exact ⟨this.1, this.2.1⟩
  have hbnd : ∀ k, 0 ≤ sT (xs.map fiI) k ∧ sT (xs.map fiI) k ≤ 64424509440 := fun k => by
    have := sT_bd (xs.map fiI) k 1073741824 (by omega) hfb
    rw [List.length_map, HL.out] at this
    omega
  have HBND := Lib.hid hbnd
  obtain ⟨S, hS⟩ : ∃ S, fsum xs = S := ⟨_, rfl⟩
  have hSb := hbnd n
  rw [sT_all _ _ (by rw [List.length_map]; exact Nat.le_of_eq HL.out)] at hSb
  rw [show (xs.map fiI).sum = S from hS] at hSb
  have HSD := Lib.hid hS
  rw [hS] at hle
  have wL : IntKind.i64.wrap (room - S) = room - S := IntWalk.i64_in _ ⟨by omega, by omega⟩
  have HLE := Lib.hid hle
  have q1 : decide (room - S < 0) = false := decide_eq_false (by omega)
  have hgb : ∀ s ∈ xs.map It.grow, 0 ≤ s ∧ s ≤ 1000 := fun s hs => by
    obtain ⟨x, hx, rfl⟩ := List.mem_map.1 hs
    have := hok x hx
    unfold okI at this
    omega
  have HGB := Lib.hid hgb
  have HFB := Lib.hid hfb
  have HD := Lib.hid (show 0 ≤ room - S ∧ room - S ≤ 1073741824 by omega)
  have R1 := Lib.hid r1
  clear hyes hok h1 h2 hr hfb hbnd hS hSb hle hgb r0 r1
  go_enter Try.func10, Try.ntmps10
  go_upto_region 3 with (first
    | (go_at_call 17; (with_reducible refine (HW.out _).mono ?_); rintro e w1 ⟨rfl, rfl⟩)
    | (go_at_call 18; (with_reducible refine HCo.out.mono ?_); rintro e w2 ⟨rfl, b2⟩; have K2 := Lib.hid (KA.out.keep b2); have B2 := Lib.hid (bel_trans HA.out b2); have R2 := Lib.hid (HRA.out.below (b2.mono (by rw [World.size_alloc]; omega))); have d2 : w2.cell? ⟨w.heap.size, 0, none⟩ = some (.slice A n c) := K2.out.cell 0; clear b2))
  have HF := Lib.hid (firsts_any A n c xs (by omega) w2 (R2.out.more B2.out.size))
  go_cut [6] (fun s wx => ∃ gO AO cO, s = .pointer (some ⟨gO, 0, none⟩) ∧ Hid (Blk wx gO 24 #[.slice AO n cO]) ∧ Hid (wx.ownsRow w2.heap.size 2 1 (.slice AO n cO) n ((xs.map fiI).map (Value.int .i64))) ∧ Hid (Below w2.heap.size w2 wx) ∧ Hid (w2.heap.size ≤ gO))
  case first =>
    go_wp2_with (go_at_call 21; (with_reducible refine HF.out.mono ?_); rintro e w3 ⟨v3, rfl, o3, b3⟩; obtain ⟨A3, c3, rfl⟩ := own_shape o3; have O3 := Lib.hid o3; have B3 := Lib.hid b3; clear o3 b3)
    go_meet
    exact ⟨_, _, _, rfl, Lib.hid (Blk.new _ _ _), Lib.hid (O3.out.alloc _), Lib.hid (bel_alloc B3.out _), Lib.hid B3.out.size⟩
  case rest =>
  obtain ⟨gO, AO, cO, rfl, KO, OO, BO, HGO⟩ := hcut
  have hw2 : w.heap.size ≤ w2.heap.size := B2.out.size
  have KL := Lib.hid (K2.out.keep BO.out)
  have BW := Lib.hid (bel_trans B2.out BO.out)
  have RL := Lib.hid (R2.out.below (BO.out.mono hw2))
  have d3 : wc.cell? ⟨w.heap.size, 0, none⟩ = some (.slice A n c) := KL.out.cell 0
  have HSu := Lib.hid (sumIt_any A n c xs (by omega) (fun k _ => ⟨by have := HBND.out k; omega, by have := HBND.out k; omega⟩) wc (RL.out.more BW.out.size))
  rw [show (xs.map fiI).sum = S from HSD.out] at HSu
  clear d2 HF HCo HW KA HRA
  go_upto_region 10 with (go_at_call 22; (with_reducible refine HSu.out.mono ?_); rintro e w4 ⟨rfl, b4⟩; have K4 := Lib.hid (KL.out.keep b4); have KO4 := Lib.hid (KO.out.keep b4); have O4 := Lib.hid (own_below OO.out b4); have R4 := Lib.hid (RL.out.below (b4.mono BW.out.size)); have B4 := Lib.hid (bel_trans BW.out b4); have C4 := Lib.hid (bel_trans BO.out b4); have d4 : w4.cell? ⟨w.heap.size, 0, none⟩ = some (.slice A n c) := K4.out.cell 0; clear b4)
  have HSh := Lib.hid (share_any 26 #[.pointer (some ⟨w.heap.size, 0, none⟩)] (Go.Proofs.enters_of Try.func26 (by kernel_rfl) rfl) (xs.map It.grow) n (by rw [List.length_map]; exact HL.out) (by omega) (room - S) HD.out.1 (by have := HD.out.2; omega) (fun x hx => by have := HGB.out x hx; omega) w4 (fun i x V hx hV => by
    have hi : i < n := by have := (List.getElem?_eq_some_iff.1 hx).1; rw [List.length_map, HL.out] at this; exact this
    refine (gr26_any w.heap.size A n c xs i hi (by omega) w.heap.size V (K4.out.keep hV) (R4.out.below (hV.mono B4.out.size))).mono ?_
    rintro e w' ⟨⟨x', hx', rfl⟩, hb⟩
    rw [hx] at hx'
    injection hx' with hx'
    exact ⟨by rw [hx'], hb⟩))
  clear d3 HSu KL RL
  by_cases hz : (xs.map It.grow).sum = 0
  · have HZ := Lib.hid hz
    have HSZ := Lib.hid (show sizesL xs room = xs.map fiI by unfold sizesL; rw [HSD.out, if_pos HLE.out, if_pos hz])
    clear hz
    go_wp2_with (go_at_call 25; (with_reducible refine HSh.out.mono ?_); rintro e w5 ⟨⟨v5, rfl, h5⟩, b5⟩; obtain rfl : v5 = .slice none 0 0 := (by rcases h5 with h5 | h5; exact h5.2; exact absurd HZ.out (by omega)); have KO5 := Lib.hid (KO4.out.keep b5); have O5 := Lib.hid (own_below O4.out b5); have B5 := Lib.hid (bel_trans B4.out b5); have d5 : w5.cell? ⟨gO, 0, none⟩ = some (.slice AO n cO) := KO5.out.cell 0; clear b5 h5)
    go_loopw [9, 10, 43] (fun a b ix wv => ix = .int .i64 0 ∧ w5 = wv) (fun _ _ _ _ => 0)
    case atStart => exact ⟨rfl, rfl⟩
    case round =>
      obtain ⟨rfl, rfl⟩ := hrel
      go_wp2
      go_ret2
      exact PS_yes HYES.out HL.out HSZ.out (own_reads O5.out) B5.out
  · have hs1 : 1 ≤ (xs.map It.grow).sum := by
      have := sT_nonneg (xs.map It.grow) (fun x hx => (HGB.out x hx).1) (xs.map It.grow).length
      rw [sT_all _ _ (Nat.le_refl _)] at this
      omega
    have HZ := Lib.hid hz
    obtain ⟨pt, hpt⟩ : ∃ pt, shareL (room - S) (xs.map It.grow) = pt := ⟨_, rfl⟩
    have HPB := Lib.hid (show ∀ x ∈ pt, 0 ≤ x ∧ x ≤ 1073741824 from fun x hx => by
      rw [← hpt] at hx
      have := shareL_bd (room - S) (xs.map It.grow) HD.out.1 (fun x hx => (HGB.out x hx).1) hs1 x hx
      have := HD.out.2
      omega)
    have HPL := Lib.hid (show pt.length = n by rw [← hpt, shareL_len, List.length_map]; exact HL.out)
    obtain ⟨Y, hY⟩ : ∃ Y, List.zipWith (fun a b => a + b) (xs.map fiI) pt = Y := ⟨_, rfl⟩
    have HYD := Lib.hid hY
    have HYL := Lib.hid (show Y.length = n by rw [← hY, List.length_zipWith, List.length_map, HPL.out, HL.out]; omega)
    have HSZ := Lib.hid (show sizesL xs room = Y by unfold sizesL; rw [HSD.out, if_pos HLE.out, if_neg hz, hpt, hY])
    rw [hpt] at HSh
    clear hz hs1 hpt hY
    go_wp2_with (go_at_call 25; (with_reducible refine HSh.out.mono ?_); rintro e w5 ⟨⟨v5, rfl, h5⟩, b5⟩; obtain ⟨A7, c7, e7, o7⟩ : ∃ A7 c7, v5 = .slice A7 n c7 ∧ w5.ownsRow w4.heap.size 2 1 v5 n (pt.map (Value.int .i64)) := (by rcases h5 with h5 | h5; exact absurd h5.1 HZ.out; obtain ⟨A7, c7, e7⟩ := own_shape h5.2; exact ⟨A7, c7, e7, h5.2⟩); subst e7; have P5 := Lib.hid o7; have KO5 := Lib.hid (KO4.out.keep b5); have O5 := Lib.hid (own_below O4.out b5); have B5 := Lib.hid (bel_trans B4.out b5); clear b5 h5 o7)
    have L6 := Lib.hid (fun r hr => (World.ownsRow.lt O4.out r hr).2)
    go_loopw [9, 10, 43] (fun a b ix wv => ∃ j : Nat, ix = .int .i64 j ∧ j ≤ n ∧ Hid (wv.ownsRow w2.heap.size 2 1 (.slice AO n cO) n ((mixI Y (xs.map fiI) j).map (Value.int .i64))) ∧ Hid (wv.ownsRow w4.heap.size 2 1 (.slice A7 n c7) n (pt.map (Value.int .i64))) ∧ Hid (Blk wv gO 24 #[.slice AO n cO]) ∧ Hid (Below w.heap.size w wv)) (fun _ _ ix _ => n - (intOf ix).toNat)
    case atStart => exact ⟨0, rfl, by omega, by rw [mixI_zero]; exact O5, P5, KO5, B5⟩
    case round =>
      obtain ⟨j, rfl, hj, HO, HP, HK, HB⟩ := hrel
      clear O5 P5 KO5 B5 d4
      have d5 : wr.cell? ⟨gO, 0, none⟩ = some (.slice AO n cO) := HK.out.cell 0
      by_cases hlt : j < n
      · have q2 : decide ((j : Int) < (n : Int)) = true := decide_eq_true (by omega)
        have i0 : (0 : Int) ≤ (j : Int) := by omega
        have i1 : (j : Int) < (n : Int) := by omega
        obtain ⟨ad6, s, rfl, X⟩ := own_cell HO.out hlt
        obtain ⟨ad7, p, rfl, Z⟩ := own_cell HP.out hlt
        obtain ⟨f, hf⟩ : ∃ f, (xs.map fiI)[j]? = some f := ⟨_, List.getElem?_eq_getElem (by rw [List.length_map, HL.out]; exact hlt)⟩
        have hs := X.at_
        rw [mixI_at _ _ j f (by rw [HYL.out]; exact hj) hf] at hs
        injection hs with hs
        subst hs
        have hy : Y[j]? = some (f + p) := by rw [← HYD.out]; exact zip_at _ _ _ j _ _ hf Z.at_
        have hfb := HFB.out f (List.mem_of_getElem? hf)
        have hpb := HPB.out p (List.mem_of_getElem? Z.at_)
        have wY : IntKind.i64.wrap (f + p) = f + p := IntWalk.i64_in _ ⟨by omega, by omega⟩
        have x0 := X.cell
        have x1 := X.free
        have z0 := Z.cell
        have PUT := Lib.hid (show (wr.setCell (ad6.add j) (.int .i64 (f + p))).ownsRow w2.heap.size 2 1 (.slice (some ad6) n cO) n ((mixI Y (xs.map fiI) (j + 1)).map (Value.int .i64)) by
          have h := X.put (f + p)
          rwa [mixI_set _ _ j _ hy (by rw [List.length_map, HL.out]; exact hlt)] at h)
        have FAR := Lib.hid X.far
        have hob : (Value.slice (some ad6) n cO).ownBlock = some (ad6.add j).block := by rw [block_of_add]; rfl
        have NEA := Lib.hid (L6.out _ hob)
        have NEB := Lib.hid (show gO ≠ (ad6.add j).block from fun e => own_blk_ne HO.out HK.out (by decide) (by rw [hob, e]))
        clear hy hfb hpb hf X Z hob
        go_wp2
        go_roundw
        case rel => exact ⟨j + 1, by go_num, by omega, PUT, Lib.hid (own_far HP.out _ _ NEA.out), Lib.hid (HK.out.far NEB.out _), Lib.hid (HB.out.setCell (by have := FAR.out; omega) _)⟩
        case measure => simp [intOf]; omega
      · obtain rfl : n = j := by omega
        have q2 : decide ((n : Int) < (n : Int)) = false := decide_eq_false (by omega)
        have HF := Lib.hid (show wr.ownsRow w2.heap.size 2 1 (.slice AO n cO) n (Y.map (Value.int .i64)) by have h := HO.out; rwa [mixI_all _ _ n HYL.out (by rw [List.length_map]; exact HL.out)] at h)
        go_wp2
        go_ret2
        exact PS_yes HYES.out HL.out HSZ.out (own_reads HF.out) HB.out
end Go.Proofs.Ytglomkpnbdnnoaa.Flex

/- Chapter 23: the program's share, walked. No condition but bounds. -/
import Derived.Test.YtglomkpnbdnnoaaFlexB
namespace Go.Proofs.Ytglomkpnbdnnoaa.Flex
open Go.RowKit Go.Proofs.Ytglomkpnbdnnoaa.Unit Go.Proofs.Ytglomkpnbdnnoaa.Div
set_option linter.unusedVariables false
set_option linter.unusedSimpArgs false
set_option maxHeartbeats 2000000 in
theorem share_any (g : Nat) (cap : Array Value) (eg : ∀ args w, (callFunc g args).run Try.prog w = .ok (.enter g args) w) (ws : List Int) (many : Nat) (hl : ws.length = many) (hm : many ≤ 65536) (n : Int) (n0 : 0 ≤ n) (n1 : n ≤ 70368744177664) (hw : ∀ x ∈ ws, 0 ≤ x ∧ x ≤ 70368744177664) (w : World)
    (hcall : ∀ (i : Nat) (x : Int) (V : World), ws[i]? = some x → Below w.heap.size w V → Calls Try.prog g (#[.int .i64 (i : Int)] ++ cap) V fun e w' => e = .returned (.int .i64 x) ∧ Below V.heap.size V w') :
    Calls Try.prog 25 #[.int .i64 n, .int .i64 (many : Int), .func (.func g) #[] cap] w fun e w' => (∃ v, e = .returned v ∧ ((ws.sum = 0 ∧ v = .slice none 0 0) ∨ (1 ≤ ws.sum ∧ w'.ownsRow w.heap.size 2 1 v many ((shareL n ws).map (Value.int .i64))))) ∧ Below w.heap.size w w' := by
  have nn : (many : Int) ≤ 65536 := by omega
  have hmk := make_i64 many (by omega)
  have HC := Lib.hid hcall
  have HL := Lib.hid hl
  have HW := Lib.hid hw
  have hw0 : ∀ x ∈ ws, 0 ≤ x := fun x hx => (hw x hx).1
  have HW0 := Lib.hid hw0
  have hsum : ∀ k, 0 ≤ sT ws k ∧ sT ws k ≤ 4611686018427387904 := fun k => by
    have := sT_bd ws k 70368744177664 (by omega) hw
    rw [hl] at this
    omega
  have HSB := Lib.hid hsum
  have hsall : ws.sum = sT ws many := (sT_all ws many (by omega)).symm
  have hs0 := hsum many
  rw [← hsall] at hs0
  clear hcall hw hw0 hsum hsall
  go_enter Try.func25, Try.ntmps25
  go_upto_region 1 with fail
  go_cut [7] (fun s wx => ∃ A' c', s = .slice A' many c' ∧ Hid (wx.ownsRow w.heap.size 2 1 (.slice A' many c') many ((mixI ws (List.replicate many 0) 0).map (Value.int .i64))) ∧ Hid (Below w.heap.size w wx))
  case first =>
    go_wp2
    go_meet
    exact ⟨_, _, rfl, Lib.hid (by rw [mixI_zero, ← rep_map]; exact made_own w _ _ many (by omega)), Lib.hid (bel_alloc (Below.refl _ _) _)⟩
  case rest =>
  obtain ⟨A', c', rfl, HO, HB⟩ := hcut
  clear hmk
  go_wp2_with (fail)
  go_loopw [8, 20] (fun a i wr => ∃ k : Nat, i = .int .i64 k ∧ k ≤ many ∧ Hid (wr.ownsRow w.heap.size 2 1 (.slice A' many c') many ((mixI ws (List.replicate many 0) k).map (Value.int .i64))) ∧ Hid (Below w.heap.size w wr)) (fun _ i _ => many - (intOf i).toNat)
  case atStart => exact ⟨0, rfl, by omega, HO, HB⟩
  case round =>
    obtain ⟨k, rfl, hk, HO, HWr⟩ := hrel
    by_cases hlt : k < many
    · have q1 : decide ((k : Int) < (many : Int)) = true := decide_eq_true (by omega)
      have i0 : (0 : Int) ≤ (k : Int) := by omega
      have i1 : (k : Int) < (many : Int) := by omega
      have hx := List.getElem?_eq_getElem (l := ws) (i := k) (by have := HL.out; omega)
      generalize ws[k]'(by have := HL.out; omega) = x at hx
      have HS := Lib.hid (mixI_set ws (List.replicate many 0) k x hx (by rw [List.length_replicate]; exact hlt))
      have HK := Lib.hid (HC.out k x wr hx HWr.out)
      obtain ⟨ad', _, rfl, _⟩ := own_cell HO.out hlt
      clear hx
      go_wp2_with (go_at_fn g; (refine HK.out.mono ?_); rintro e w1 ⟨rfl, b1⟩; have B1 := Lib.hid b1; have O1 := Lib.hid (own_below HO.out B1.out); obtain ⟨_, y, e1, Y⟩ := own_cell O1.out hlt; injection e1 with e1; subst e1; have d0 := Y.cell; have d1 := Y.free; have P := Lib.hid Y.put; have F := Lib.hid Y.far; clear b1 Y)
      go_roundw
      case rel => exact ⟨k + 1, by go_num, by omega, Lib.hid (by have h := P.out x; rwa [HS.out] at h), Lib.hid ((bel_trans HWr.out B1.out).setCell F.out _)⟩
      case measure => simp [intOf]; omega
    · obtain rfl : k = many := by omega
      have q1 : decide ((k : Int) < (k : Int)) = false := decide_eq_false (by omega)
      obtain ⟨W0, hW0⟩ : ∃ W0, W0 = wr := ⟨_, rfl⟩
      subst hW0
      have HO0 := Lib.hid (show W0.ownsRow w.heap.size 2 1 (.slice A' k c') k (ws.map (Value.int .i64)) by have h := HO.out; rwa [mixI_all _ _ k HL.out (by simp)] at h)
      have HSu := Lib.hid (sum64_any 40 (Go.Proofs.enters_of Try.func40 (by kernel_rfl) rfl) id_share A' k c' ws HL.out (by omega) (fun j _ => ⟨by have := HSB.out j; omega, by have := HSB.out j; omega⟩) _ W0 (own_reads HO0.out))
      obtain ⟨all, hall⟩ : ∃ all, ws.sum = all := ⟨_, rfl⟩
      rw [hall] at HSu hs0
      have HAl := Lib.hid hall
      clear HO
      clear hall
      by_cases hz : all = 0
      · subst hz
        go_wp2_with (go_at_call 37; (with_reducible refine HSu.out.mono ?_); rintro e w1 ⟨rfl, rfl⟩)
        go_ret
        exact ⟨⟨_, rfl, .inl ⟨HAl.out, rfl⟩⟩, HWr.out⟩
      · have ha1 : 1 ≤ all := by omega
        have q2 : (all == 0) = false := by simpa using hz
        have HA1 := Lib.hid ha1
        have HA2 := Lib.hid hs0.2
        clear hz ha1 hs0
        go_wp2_with (go_at_call 37; (with_reducible refine HSu.out.mono ?_); rintro e w1 ⟨rfl, rfl⟩)
        have HC0 := Lib.hid (cutN_zero n ws (by rw [HAl.out]; exact HA1.out))
        have c0 : (Value.int .i64 0) = .int .i64 (cutN n ws 0) := by rw [HC0.out]
        go_loopw [10, 11, 12, 13, 14, 15, 36] (fun a l i x y z ix wr => ∃ j : Nat, ix = .int .i64 j ∧ a = .int .i64 (sT ws j) ∧ l = .int .i64 (cutN n ws j) ∧ j ≤ k ∧ Hid (wr.ownsRow w.heap.size 2 1 (.slice A' k c') k ((mixI (shareL n ws) ws j).map (Value.int .i64))) ∧ Hid (Below w.heap.size w wr)) (fun _ _ _ _ _ _ ix _ => k - (intOf ix).toNat)
        case atStart => exact ⟨0, rfl, rfl, c0, by omega, by rw [mixI_zero]; exact HO0, HWr⟩
        case round =>
          clear c0 HC0
          obtain ⟨j, rfl, rfl, rfl, hj, HO, HWr⟩ := hrel
          by_cases hlt : j < k
          · have q1 : decide ((j : Int) < (k : Int)) = true := decide_eq_true (by omega)
            have i0 : (0 : Int) ≤ (j : Int) := by omega
            have i1 : (j : Int) < (k : Int) := by omega
            have hjl : j < ws.length := by have := HL.out; omega
            have hx := List.getElem?_eq_getElem (l := ws) (i := j) hjl
            generalize ws[j]'hjl = x at hx
            have hss := sT_succ ws j x hx
            have hsh := shareL_at n ws j hjl
            have HS := Lib.hid (mixI_set (shareL n ws) ws j _ hsh hjl)
            have hb1 := HSB.out (j + 1)
            have hb2 := sT_le_sum ws HW0.out (j + 1)
            have hc1 := cutN_bd n ws n0 HW0.out (by rw [HAl.out]; exact HA1.out) (j + 1)
            have hc2 := cutN_bd n ws n0 HW0.out (by rw [HAl.out]; exact HA1.out) j
            have HSc := Lib.hid (show cC n (sT ws (j + 1)) all (cutN n ws (j + 1)) 0 from by
              have := (share_scale n (sT ws (j + 1)) all n0 n1 hb1.1 (by rw [← HAl.out]; exact hb2) HA1.out (by have := HA2.out; omega)).1
              unfold cutN
              rw [HAl.out]
              exact this)
            obtain ⟨ad', y, rfl, Y0⟩ := own_cell HO.out hlt
            have hy := Y0.at_
            rw [mixI_at _ ws j x (by rw [shareL_len]; omega) hx] at hy
            injection hy with hy
            subst hy
            have d0 := Y0.cell
            rw [hss] at HSc
            have wS : IntKind.i64.wrap (sT ws j + x) = sT ws j + x := IntWalk.i64_in _ ⟨by omega, by omega⟩
            have HSS := Lib.hid hss
            obtain ⟨p, hp⟩ : ∃ p, cutN n ws j = p := ⟨_, rfl⟩
            obtain ⟨q, hq⟩ : ∃ q, cutN n ws (j + 1) = q := ⟨_, rfl⟩
            have wD : IntKind.i64.wrap (q - p) = q - p := by rw [hp] at hc2; rw [hq] at hc1; exact IntWalk.i64_in _ ⟨by omega, by omega⟩
            have HD := Lib.hid (show shN n ws j = q - p by unfold shN; rw [hp, hq])
            have HQ := Lib.hid hq
            have HS2 := Lib.hid (show (mixI (shareL n ws) ws j).set j (q - p) = mixI (shareL n ws) ws (j + 1) by rw [← HD.out]; exact HS.out)
            rw [hq] at HSc
            rw [hp]
            generalize sT ws j = s at wS HSS HSc
            clear hx hss hsh hb1 hb2 hc1 hc2 hp hq Y0 hjl
            go_wp2_with (go_at_call 41; (refine (HSc.out _).mono ?_); rintro e w1 ⟨rfl, b1⟩; have B1 := Lib.hid b1.below; have O1 := Lib.hid (own_below HO.out B1.out); obtain ⟨_, y, e1, Y⟩ := own_cell O1.out hlt; injection e1 with e1; subst e1; have f0 := Y.cell; have f1 := Y.free; have P := Lib.hid Y.put; have F := Lib.hid Y.far; clear b1 Y)
            go_roundw
            case rel => exact ⟨j + 1, by go_num, by rw [HSS.out], by rw [HQ.out], by omega, Lib.hid (by have h := P.out (q - p); rwa [HS2.out] at h), Lib.hid ((bel_trans HWr.out B1.out).setCell F.out _)⟩
            case measure => simp [intOf]; omega
          · obtain rfl : j = k := by omega
            have q1 : decide ((j : Int) < (j : Int)) = false := decide_eq_false (by omega)
            have HF := Lib.hid (show wr.ownsRow w.heap.size 2 1 (.slice A' j c') j ((shareL n ws).map (Value.int .i64)) by have h := HO.out; rwa [mixI_all _ _ j (by rw [shareL_len]; exact HL.out) HL.out] at h)
            generalize sT ws j = s
            generalize cutN n ws j = p
            go_wp2
            go_ret
            exact ⟨⟨_, rfl, .inr ⟨by rw [HAl.out]; exact HA1.out, HF.out⟩⟩, HWr.out⟩
end Go.Proofs.Ytglomkpnbdnnoaa.Flex

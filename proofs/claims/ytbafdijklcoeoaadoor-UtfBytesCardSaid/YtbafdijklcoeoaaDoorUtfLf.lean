/- Chapter 2: UtfBytes, walked. -/
import Derived.Test.YtbafdijklcoeoaaDoorUtfLe
namespace Go.Proofs.YtbafdijklcoeoaaDoor.Utf
open Go.RowKit
set_option linter.unusedVariables false
set_option linter.unusedSimpArgs false

def lowB (y : Int) : UInt8 := UInt8.ofNat (y % 128).toNat
def highB (y : Int) : UInt8 := UInt8.ofNat (y % 64 + 192).toNat
theorem lowB_nat (y : Int) : ((lowB y).toNat : Int) = y % 128 := u8n (by omega)
theorem highB_nat (y : Int) : ((highB y).toNat : Int) = y % 64 + 192 := u8n (by omega)
theorem low_cr (ys : List Int) (j : Nat) (y : Int) (h : ys[j]? = some y) : (chs (ys.map lowB) 0)[j]? = some (Ch.mk (y % 128) j 1 true) := by
  have := (chs_low (ys.map lowB) (fun x hx => by
    obtain ⟨y, _, rfl⟩ := List.mem_map.1 hx
    have := lowB_nat y
    omega) 0).2.2 j (lowB y) (by rw [List.getElem?_map, h]; rfl)
  rw [this, lowB_nat, Nat.zero_add]
theorem high_cr (ys : List Int) (j : Nat) (y : Int) (h : ys[j]? = some y) : (chs (ys.map highB) 0)[j]? = some (Ch.mk 65533 j 1 false) := by
  have := (chs_high (ys.map highB) (fun x hx => by
    obtain ⟨y, _, rfl⟩ := List.mem_map.1 hx
    have := highB_nat y
    omega) 0).2.2 j (highB y) (by rw [List.getElem?_map, h]; rfl)
  rw [this, Nat.zero_add]
theorem map_take {α β : Type} (f : α → β) {l : List α} {j : Nat} {x : α} (h : l[j]? = some x) : (l.map f).take (j + 1) = (l.map f).take j ++ [f x] := by
  obtain ⟨hj, rfl⟩ := List.getElem?_eq_some_iff.1 h
  rw [List.take_succ_eq_append_getElem (by rw [List.length_map]; exact hj), List.getElem_map]
set_option maxHeartbeats 16000000 in
set_option maxRecDepth 100000 in
theorem UtfBytes_in (A : Option Addr) (n c : Nat) (ys : List Int) (w : World) (hr : Reads w w.heap.size 1 A n (ys.map (Value.int .u8))) (hx : ys.length = n) (h0 : ∀ x ∈ ys, 0 ≤ x ∧ x ≤ 255) (hn : n ≤ 2000) (hT : Tabs w) :
    Calls Tryd.prog 8 #[.slice A n c] w fun e w' => e = .returned (.bool true) ∧ Below w.heap.size w w' := by
  have HH := Lib.hid (fun (W : World) (h : Tabs W) => head_any W h h.three)
  have T0 := Lib.hid hT
  have q1 : decide ((2000 : Int) < (n : Int)) = false := decide_eq_false (by omega)
  have q2 : ¬ (2000 < n) := by omega
  have nn : (n : Int) ≤ 2000 := by omega
  have HR := Lib.hid hr
  have HX := Lib.hid hx
  have H0 := Lib.hid h0
  have S1 := str_app
  have C1 := fun (W : World) (a : Int) => convL W [a] #[.int .u8 a] 1 rfl rfl (by omega)
  clear hT hr hx h0
  go_enter Tryd.func8, Tryd.ntmps8
  go_wp2_with (fail)
  go_loopw [3, 4, 5] (fun lo hi i wr => ∃ (j : Nat), i = .int .i64 j ∧ lo = strV ((ys.map lowB).take j) ∧ hi = strV ((ys.map highB).take j) ∧ j ≤ n ∧ Hid (Below w.heap.size w wr)) (fun _ _ i _ => n - (intOf i).toNat)
  case atStart => exact ⟨0, rfl, rfl, rfl, Nat.zero_le _, Lib.hid (Below.refl _ _)⟩
  case round =>
    obtain ⟨j, rfl, rfl, rfl, hj, HB⟩ := hrel
    by_cases hlt : j < n
    · obtain ⟨ad, u, rfl, hb, hyu, hc⟩ := HR.out.at_ hlt
      rw [List.getElem?_map] at hyu
      obtain ⟨y, hyj, rfl⟩ := Option.map_eq_some_iff.1 hyu
      have c0 : wr.cell? (ad.add j) = some (.int .u8 y) := (HB.out.cell (by rw [block_of_add]; exact hb)).trans hc
      have hb2 : ad.block < wr.heap.size := Nat.lt_of_lt_of_le hb HB.out.size
      have hy := H0.out y (List.mem_of_getElem? hyj)
      have HT1 := Lib.hid (map_take lowB hyj)
      have HT2 := Lib.hid (map_take highB hyj)
      obtain ⟨a, ha⟩ : ∃ a, y % 128 = a := ⟨_, rfl⟩
      obtain ⟨b, hb'⟩ : ∃ b, y % 64 = b := ⟨_, rfl⟩
      have t1 : y.tmod 128 = a := by rw [Int.tmod_eq_emod_of_nonneg hy.1, ha]
      have t2 : y.tmod 64 = b := by rw [Int.tmod_eq_emod_of_nonneg hy.1, hb']
      have t3 : IntKind.u8.wrap (b + 192) = b + 192 := u8_in (by omega)
      have E1 := Lib.hid (show [UInt8.ofNat a.toNat] = [lowB y] by unfold lowB; rw [ha])
      have E2 := Lib.hid (show [UInt8.ofNat (b + 192).toNat] = [highB y] by unfold highB; rw [hb'])
      have c1 : (wr.alloc (.cells #[.int .u8 a] 5)).cell? (ad.add j) = some (.int .u8 y) := (World.cell?_alloc_lt wr _ _ (by rw [block_of_add]; exact hb2)).trans c0
      have i1 : (j : Int) < (n : Int) := by omega
      have HB2 := Lib.hid (bel_trans HB.out ((bel_alloc (Below.refl _ _) (.cells #[.int .u8 a] 5)).alloc (by simp) (.cells #[.int .u8 (b + 192)] 5)))
      have X1 := S1 ((ys.map lowB).take j) [UInt8.ofNat a.toNat]
      have X2 := S1 ((ys.map highB).take j) [UInt8.ofNat (b + 192).toNat]
      have C2 := C1 (wr.alloc (.cells #[.int .u8 a] 5)) (b + 192)
      rw [World.size_alloc] at C2
      clear hyu hc hyj ha hb' hy hb
      go_wp2_with (fail)
      go_roundw
      case rel => exact ⟨j + 1, by go_num, by rw [HT1.out, ← E1.out], by rw [HT2.out, ← E2.out], by omega, HB2⟩
      case measure => simp [intOf]; omega
    · obtain rfl : j = n := by omega
      have hl1 : (ys.map lowB).length = j := by rw [List.length_map, HX.out]
      have hl2 : (ys.map highB).length = j := by rw [List.length_map, HX.out]
      rw [List.take_of_length_le (by omega), List.take_of_length_le (by omega)]
      have lo := chs_low (ys.map lowB) (fun x hx => by
        obtain ⟨y, _, rfl⟩ := List.mem_map.1 hx
        have := lowB_nat y
        omega) 0
      have hi := chs_high (ys.map highB) (fun x hx => by
        obtain ⟨y, _, rfl⟩ := List.mem_map.1 hx
        have := highB_nat y
        omega) 0
      have D1 := Lib.hid (fun (W : World) (h : Tabs W) => Decode_cr (ys.map lowB) (by omega) W h h.three j _ rfl (by rw [lo.2.1, hl1]))
      have D2 := Lib.hid (fun (W : World) (h : Tabs W) => Decode_cr (ys.map highB) (by omega) W h h.three j _ rfl (by rw [hi.2.1, hl2]))
      have D3 := Lib.hid (fun (W : World) (h : Tabs W) => Valid_any (ys.map lowB) (by omega) W h h.three)
      rw [show allOk (chs (ys.map lowB) 0) = true from lo.1] at D3
      have D4 : Hid (0 < j → ∀ (W : World) (h : Tabs W), Calls Tryd.prog 14 #[strV (ys.map highB)] W fun e w' => e = .returned (.bool false) ∧ Below W.heap.size W w') := Lib.hid (fun h0 W h => by
        have := Valid_any (ys.map highB) (by omega) W h h.three
        rwa [show allOk (chs (ys.map highB) 0) = false from hi.1 (by intro e; rw [e] at hl2; simp at hl2; omega)] at this)
      have HL1 := Lib.hid (low_cr ys)
      have HL2 := Lib.hid (high_cr ys)
      have TW := Lib.hid (T0.out.below HB.out)
      generalize chs (ys.map lowB) 0 = cs1 at D1 HL1
      generalize chs (ys.map highB) 0 = cs2 at D2 HL2
      have JJ : ((j : Int) != (j : Int)) = false := by simp
      clear lo hi hl1 hl2 C1 S1
      by_cases hj0 : j = 0
      · have g1 : decide ((0 : Int) < (j : Int)) = false := decide_eq_false (by omega)
        have g2 : ¬ 0 < j := by omega
        have g3 : decide (0 < j) = false := decide_eq_false g2
        clear hj0
        go_wp2_with (first
          | (go_at_call 10; (with_reducible refine (D1.out _ TW.out).mono ?_); rintro e W1 ⟨A1, c1, rfl, o1, b1⟩; have T1 := Lib.hid (TW.out.below b1); have B1 := Lib.hid (bel_trans HB.out b1); have R1 := Lib.hid (own_reads o1); clear o1 b1)
          | (go_at_call 10; (with_reducible refine (D2.out _ T1.out).mono ?_); rintro e W2 ⟨A2, c2, rfl, o2, b2⟩; have T2 := Lib.hid (T1.out.below b2); have B2 := Lib.hid (bel_trans B1.out b2); have R2 := Lib.hid ((R1.out.below b2).more b2.size); have Q2 := Lib.hid (own_reads o2); clear o2 b2)
          | (go_at_call 14; (with_reducible refine (D3.out _ T2.out).mono ?_); rintro e W3 ⟨rfl, b3⟩; have T3 := Lib.hid (T2.out.below b3); have B3 := Lib.hid (bel_trans B2.out b3); have R3 := Lib.hid ((R2.out.below b3).more b3.size); have Q3 := Lib.hid ((Q2.out.below b3).more b3.size); clear b3))
        go_loopw [8] (fun i wz => ∃ (q : Nat), i = .int .i64 q ∧ q ≤ j ∧ Hid (Reads wz W3.heap.size 5 A1 j (crL (cs1.map toCr))) ∧ Hid (Reads wz W3.heap.size 5 A2 j (crL (cs2.map toCr))) ∧ Hid (Reads wz w.heap.size 1 A j (ys.map (Value.int .u8))) ∧ Hid (Tabs wz) ∧ Hid (Below w.heap.size w wz)) (fun i _ => j - (intOf i).toNat)
        case atStart => exact ⟨0, rfl, Nat.zero_le _, R3, Q3, Lib.hid (HR.out.below B3.out), T3, B3⟩
        case round =>
          obtain ⟨q, rfl, hq, Ra, Rb, Rc, Tz, Bz⟩ := hrel
          by_cases hlt : q < j
          · obtain ⟨ad, cr, rfl, _, hcr, cc⟩ := reads_cr Ra.out hlt
            obtain ⟨ad2, cr2, rfl, _, hcr2, cc2⟩ := reads_cr Rb.out hlt
            obtain ⟨ad3, u, rfl, hb3, hyu, hc3⟩ := Rc.out.at_ hlt
            rw [List.getElem?_map] at hyu
            obtain ⟨y, hyj, rfl⟩ := Option.map_eq_some_iff.1 hyu
            have hy := H0.out y (List.mem_of_getElem? hyj)
            rw [List.getElem?_map, HL1.out q y hyj] at hcr
            rw [List.getElem?_map, HL2.out q y hyj] at hcr2
            obtain ⟨a, ha⟩ : ∃ a, y % 128 = a := ⟨_, rfl⟩
            have t1 : y.tmod 128 = a := by rw [Int.tmod_eq_emod_of_nonneg hy.1, ha]
            have t2 : IntKind.i32.wrap a = a := wrap32_in (by omega)
            have hpb : pointB a = true := (pointB_iff a).2 (by omega)
            have HPt := Lib.hid (fun W => Point_any a W (by omega))
            rw [hpb] at HPt
            rw [ha] at hcr
            obtain rfl : cr = ⟨a, 0, q, 1, 0⟩ := by cases hcr; rfl
            obtain rfl : cr2 = ⟨65533, 0, q, 1, 0⟩ := by cases hcr2; rfl
            obtain ⟨a0, a1, a2, a3, a4⟩ := cc
            obtain ⟨b0, b1, b2, b3, b4⟩ := cc2
            simp only at a0 a2 b0 b3
            have i1 : (q : Int) < (j : Int) := by omega
            have i0 : (0 : Int) ≤ (q : Int) := by omega
            have QA : (a != a) = false := by simp
            have QQ : ((q : Int) != (q : Int)) = false := by simp
            clear hcr hcr2 hyu hyj ha hy hpb a1 a3 a4 b1 b2 b4
            go_upto_region 15 with fail
            go_quiet ((go_at_call 18; exact Calls.quiet_of_same ((HPt.out _).mono fun _ _ ⟨a, b⟩ => ⟨a, b.symm⟩)))
            go_wp2
            go_roundw
            case rel => exact ⟨q + 1, by go_num, by omega, Ra, Rb, Rc, Lib.hid (Tz.out.below (bel_drewN (Below.refl _ _) nq)), Lib.hid (bel_drewN Bz.out nq)⟩
            case measure => simp [intOf]; omega
          · obtain rfl : q = j := by omega
            go_wp2_with (go_at_call 9; (with_reducible refine (HH.out _ Tz.out).mono ?_); rintro e v2 ⟨rfl, b2⟩; have B4 := Lib.hid (bel_trans Bz.out b2); clear b2)
            go_ret
            exact ⟨rfl, B4.out⟩
      · have g1 : decide ((0 : Int) < (j : Int)) = true := decide_eq_true (by omega)
        have g2 : 0 < j := by omega
        have g3 : decide (0 < j) = true := decide_eq_true g2
        have D5 := Lib.hid (D4.out g2)
        clear hj0
        go_wp2_with (first
          | (go_at_call 10; (with_reducible refine (D1.out _ TW.out).mono ?_); rintro e W1 ⟨A1, c1, rfl, o1, b1⟩; have T1 := Lib.hid (TW.out.below b1); have B1 := Lib.hid (bel_trans HB.out b1); have R1 := Lib.hid (own_reads o1); clear o1 b1)
          | (go_at_call 10; (with_reducible refine (D2.out _ T1.out).mono ?_); rintro e W2 ⟨A2, c2, rfl, o2, b2⟩; have T2 := Lib.hid (T1.out.below b2); have B2 := Lib.hid (bel_trans B1.out b2); have R2 := Lib.hid ((R1.out.below b2).more b2.size); have Q2 := Lib.hid (own_reads o2); clear o2 b2)
          | (go_at_call 14; (with_reducible refine (D3.out _ T2.out).mono ?_); rintro e W4 ⟨rfl, b3⟩; have T4 := Lib.hid (T2.out.below b3); have B4 := Lib.hid (bel_trans B2.out b3); have R4 := Lib.hid ((R2.out.below b3).more b3.size); have Q4 := Lib.hid ((Q2.out.below b3).more b3.size); clear b3)
          | (go_at_call 14; (with_reducible refine (D5.out _ T4.out).mono ?_); rintro e W3 ⟨rfl, b3⟩; have T3 := Lib.hid (T4.out.below b3); have B3 := Lib.hid (bel_trans B4.out b3); have R3 := Lib.hid ((R4.out.below b3).more b3.size); have Q3 := Lib.hid ((Q4.out.below b3).more b3.size); clear b3))
        go_loopw [8] (fun i wz => ∃ (q : Nat), i = .int .i64 q ∧ q ≤ j ∧ Hid (Reads wz W3.heap.size 5 A1 j (crL (cs1.map toCr))) ∧ Hid (Reads wz W3.heap.size 5 A2 j (crL (cs2.map toCr))) ∧ Hid (Reads wz w.heap.size 1 A j (ys.map (Value.int .u8))) ∧ Hid (Tabs wz) ∧ Hid (Below w.heap.size w wz)) (fun i _ => j - (intOf i).toNat)
        case atStart => exact ⟨0, rfl, Nat.zero_le _, R3, Q3, Lib.hid (HR.out.below B3.out), T3, B3⟩
        case round =>
          obtain ⟨q, rfl, hq, Ra, Rb, Rc, Tz, Bz⟩ := hrel
          by_cases hlt : q < j
          · obtain ⟨ad, cr, rfl, _, hcr, cc⟩ := reads_cr Ra.out hlt
            obtain ⟨ad2, cr2, rfl, _, hcr2, cc2⟩ := reads_cr Rb.out hlt
            obtain ⟨ad3, u, rfl, hb3, hyu, hc3⟩ := Rc.out.at_ hlt
            rw [List.getElem?_map] at hyu
            obtain ⟨y, hyj, rfl⟩ := Option.map_eq_some_iff.1 hyu
            have hy := H0.out y (List.mem_of_getElem? hyj)
            rw [List.getElem?_map, HL1.out q y hyj] at hcr
            rw [List.getElem?_map, HL2.out q y hyj] at hcr2
            obtain ⟨a, ha⟩ : ∃ a, y % 128 = a := ⟨_, rfl⟩
            have t1 : y.tmod 128 = a := by rw [Int.tmod_eq_emod_of_nonneg hy.1, ha]
            have t2 : IntKind.i32.wrap a = a := wrap32_in (by omega)
            have hpb : pointB a = true := (pointB_iff a).2 (by omega)
            have HPt := Lib.hid (fun W => Point_any a W (by omega))
            rw [hpb] at HPt
            rw [ha] at hcr
            obtain rfl : cr = ⟨a, 0, q, 1, 0⟩ := by cases hcr; rfl
            obtain rfl : cr2 = ⟨65533, 0, q, 1, 0⟩ := by cases hcr2; rfl
            obtain ⟨a0, a1, a2, a3, a4⟩ := cc
            obtain ⟨b0, b1, b2, b3, b4⟩ := cc2
            simp only at a0 a2 b0 b3
            have i1 : (q : Int) < (j : Int) := by omega
            have i0 : (0 : Int) ≤ (q : Int) := by omega
            have QA : (a != a) = false := by simp
            have QQ : ((q : Int) != (q : Int)) = false := by simp
            clear hcr hcr2 hyu hyj ha hy hpb a1 a3 a4 b1 b2 b4
            go_upto_region 15 with fail
            go_quiet ((go_at_call 18; exact Calls.quiet_of_same ((HPt.out _).mono fun _ _ ⟨a, b⟩ => ⟨a, b.symm⟩)))
            go_wp2
            go_roundw
            case rel => exact ⟨q + 1, by go_num, by omega, Ra, Rb, Rc, Lib.hid (Tz.out.below (bel_drewN (Below.refl _ _) nq)), Lib.hid (bel_drewN Bz.out nq)⟩
            case measure => simp [intOf]; omega
          · obtain rfl : q = j := by omega
            go_wp2_with (go_at_call 9; (with_reducible refine (HH.out _ Tz.out).mono ?_); rintro e v2 ⟨rfl, b2⟩; have B4 := Lib.hid (bel_trans Bz.out b2); clear b2)
            go_ret
            exact ⟨rfl, B4.out⟩
theorem wf_u8 {x : Int} (h : (Lit.int .u8 x).wf = true) : 0 ≤ x ∧ x ≤ 255 := by
  simp [Lit.wf, IntKind.min, IntKind.max, IntKind.bits, IntKind.signed] at h
  omega
theorem UtfBytes_row (A : Option Addr) (n c : Nat) (ys : List Int) (w : World) (hr : Reads w w.heap.size 1 A n (ys.map (Value.int .u8))) (hx : ys.length = n) (h0 : ∀ x ∈ ys, 0 ≤ x ∧ x ≤ 255) (hm : n ≤ 140737488351232) (hL : laidMetH Tryd.prog laidU w) :
    Calls Tryd.prog 8 #[.slice A n c] w fun e w' => e = .returned (.bool true) ∧ Below w.heap.size w w' := by
  have hT := tabs_of_laid hL
  clear hL
  have HH := Lib.hid (fun (W : World) (h : Tabs W) => head_any W h h.three)
  have T0 := Lib.hid hT
  by_cases h : n ≤ 2000
  · exact UtfBytes_in A n c ys w hr hx h0 h hT
  · have q1 : decide ((2000 : Int) < (n : Int)) = true := decide_eq_true (by omega)
    have q2 : 2000 < n := by omega
    clear hT h hr hx h0
    go_enter Tryd.func8, Tryd.ntmps8
    go_wp2_with (go_at_call 9; (with_reducible refine (HH.out _ T0.out).mono ?_); rintro e w7 ⟨rfl, b7⟩; have B7 := Lib.hid b7; clear b7)
    go_ret
    exact ⟨rfl, B7.out⟩
end Go.Proofs.YtbafdijklcoeoaaDoor.Utf

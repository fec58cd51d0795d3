/- Chapter 2: UtfAgain, walked. -/
import Derived.Test.YtbafdijklcoeoaaDoorUtfLc
namespace Go.Proofs.YtbafdijklcoeoaaDoor.Utf
open Go.RowKit
set_option linter.unusedVariables false
set_option linter.unusedSimpArgs false

theorem take_pt {l : List Int} {j : Nat} {x : Int} (h : l[j]? = some x) : l.take (j + 1) = l.take j ++ [x] := by
  obtain ⟨hj, rfl⟩ := List.getElem?_eq_some_iff.1 h
  exact List.take_succ_eq_append_getElem hj
set_option maxHeartbeats 16000000 in
set_option maxRecDepth 100000 in
theorem UtfAgain_in (l : List UInt8) (hl : l.length ≤ 3000) (w : World) (hT : Tabs w) :
    Calls Tryd.prog 7 #[strV l] w fun e w' => e = .returned (.bool true) ∧ Below w.heap.size w w' := by
  obtain ⟨i0, hi, hz0, hz1, hz2⟩ := info_parts A_infoI32
  have gl : (⟨l.toArray⟩ : ByteArray).size = l.length := rfl
  have HH := Lib.hid (fun (W : World) (h : Tabs W) => head_any W h h.three)
  have T0 := Lib.hid hT
  have q1 : decide ((3000 : Int) < (l.length : Int)) = false := decide_eq_false (by omega)
  have q2 : ¬ (3000 < l.length) := by omega
  obtain ⟨n, hn⟩ : ∃ n, (chs l 0).length = n := ⟨_, rfl⟩
  have ln : n ≤ 3000 := by have := chs_len l 0; omega
  have nn : (n : Int) ≤ 3000 := by omega
  obtain ⟨pts, hp⟩ : ∃ pts, (chs l 0).map (·.r) = pts := ⟨_, rfl⟩
  have hpl : pts.length = n := by rw [← hp, List.length_map, hn]
  have hpp : ∀ x ∈ pts, isPoint x := by rw [← hp]; exact points_of l 0
  have hp2 : ∀ x ∈ pts, -2147483648 ≤ x ∧ x ≤ 2147483647 := fun x hx => by have := hpp x hx; unfold isPoint at this; omega
  have le := encL_len pts
  have D1 := Lib.hid (fun (W : World) (h : Tabs W) => Decode_cr l (by omega) W h h.three n (chs l 0) rfl hn)
  have D2 := Lib.hid (fun (W : World) (h : Tabs W) => Decode_cr (encL pts) (by omega) W h h.three n (encCh pts 0) (chs_encL pts 0) (by rw [encCh_len, hpl]))
  have D3 := Lib.hid (fun (W : World) (h : Tabs W) => Count_any (encL pts) (by omega) W h h.three)
  rw [chs_encL, encCh_len, hpl] at D3
  have D4 := Lib.hid (fun (W : World) (h : Tabs W) => Valid_any (encL pts) (by omega) W h h.three)
  rw [chs_encL, show allOk (encCh pts 0) = true from encCh_ok pts 0] at D4
  have D5 := Lib.hid (fun (A : Option Addr) (c : Nat) (W : World) (hr : Reads W W.heap.size 1 A n (pts.map (Value.int .i32))) => Encode_any A n c pts W hr hpl hp2 (by omega))
  have HX := Lib.hid (fun j x (h : pts[j]? = some x) => encCh_at pts 0 j x h)
  have HPt := Lib.hid (fun j (c : Ch) (h : (chs l 0)[j]? = some c) => (show pts[j]? = some c.r by rw [← hp, List.getElem?_map, h]; rfl))
  have HPx := Lib.hid hpp
  have HPl := Lib.hid hpl
  generalize encCh pts 0 = cs2 at D2 HX
  generalize chs l 0 = cs1 at D1 HPt hn
  have HN := Lib.hid hn
  simp only [strV] at D2 D3 D4 D5
  generalize (⟨(encL pts).toArray⟩ : ByteArray) = st at D2 D3 D4 D5
  clear hT hl hn hp hpl hpp hp2 le
  go_enter Tryd.func7, Tryd.ntmps7
  go_wp2_with (go_at_call 10; (with_reducible refine (D1.out _ T0.out).mono ?_); rintro e w1 ⟨A1, c1, rfl, o1, b1⟩; have R1 := Lib.hid (own_reads o1); have T1 := Lib.hid (T0.out.below b1); have B1 := Lib.hid b1; have L3 := Lib.hid (Nat.le_trans T0.out.three b1.size); clear o1 b1)
  go_loopw [4, 5] (fun pt i wr => ∃ (j : Nat) (A2 : Option Addr) (c2 : Nat), i = .int .i64 j ∧ pt = .slice A2 j c2 ∧ j ≤ n ∧ Hid (wr.ownsRow w1.heap.size 21 1 (.slice A2 j c2) j ((pts.take j).map (Value.int .i32))) ∧ Hid (Below w1.heap.size w1 wr)) (fun _ i _ => n - (intOf i).toNat)
  case atStart => exact ⟨0, none, 0, rfl, rfl, Nat.zero_le _, Lib.hid (own_nil _ _ _ _), Lib.hid (Below.refl _ _)⟩
  case round =>
    obtain ⟨j, A2, c2, rfl, rfl, hj, HO, HB⟩ := hrel
    by_cases hlt : j < n
    · obtain ⟨ad, cr, rfl, hbk, hcr, cc⟩ := reads_cr (R1.out.below HB.out) hlt
      rw [List.getElem?_map] at hcr
      obtain ⟨ch, hch, rfl⟩ := Option.map_eq_some_iff.1 hcr
      have HTk := Lib.hid (take_pt (HPt.out j ch hch))
      have k0 : wr.cell? (ad.add (j * 5)) = some (.int .i32 ch.r) := cc.c0
      have i1 : (j : Int) < (n : Int) := by omega
      obtain ⟨r, hr⟩ : ∃ r, ch.r = r := ⟨_, rfl⟩
      rw [hr] at k0 HTk
      have hown := HO.out
      clear hcr hch cc hr hbk
      go_wp2_with (at_builtin; refine wpList_append_own _ rfl (.tmp 21) (.tmp 27) 28 rfl w1.heap.size 21 i0 (.int .i32 0) 1 4 Tryd.underlying28 hi hz0 hz1 hz2 rfl (by decide) (.slice A2 j c2) _ _ rfl (hown.alloc _) ⟨_, 0, none⟩ 1 1 [.int .i32 r] rfl rfl (cell_one_new _ _ _) (by simp [Value.oneCell']) ?c4 ?c5 ?c6 ?_)
      case c4 => unfold maxLen; omega
      case c5 => omega
      case c6 => have := HB.out.size; simp only [World.size_alloc]; omega
      intro v' w7 hown' hg _
      obtain ⟨A', c', rfl⟩ := own_shape hown'
      have hb7 := Lib.hid (bel_grown ((HB.out).alloc HB.out.size (.cells #[.int .i32 r] 21)) (hown.alloc _) hg)
      go_wp2
      go_roundw
      case rel => exact ⟨j + 1, A', c', by go_num, by simp, by omega, Lib.hid (by rw [HTk.out, List.map_append]; simpa using hown'), hb7⟩
      case measure => simp [intOf]; omega
    · obtain rfl : j = n := by omega
      have RP := Lib.hid (show Reads wr wr.heap.size 1 A2 j (pts.map (Value.int .i32)) by
        have := own_reads HO.out
        rwa [List.take_of_length_le (by rw [HPl.out]; omega)] at this)
      have TW := Lib.hid (T1.out.belowB HB.out L3.out)
      have BW := Lib.hid (B1.out.trans (HB.out.mono B1.out.size))
      have RW := Lib.hid (R1.out.below HB.out)
      have LW := Lib.hid HB.out.size
      clear HO HB
      go_wp2_with (first
        | (go_at_call 16; (with_reducible refine (D5.out _ _ _ RP.out).mono ?_); rintro e v1 ⟨rfl, b1⟩; have T2 := Lib.hid (TW.out.below b1); have B2 := Lib.hid (bel_trans BW.out b1); have R2 := Lib.hid (RW.out.below (b1.mono LW.out)); have L2 := Lib.hid (Nat.le_trans LW.out b1.size); have P2 := Lib.hid ((RP.out.below b1).more b1.size); clear b1)
        | (go_at_call 10; (with_reducible refine (D2.out _ T2.out).mono ?_); rintro e v2 ⟨A4, c4, rfl, o4, b2⟩; have O4 := Lib.hid (own_reads o4); have T3 := Lib.hid (T2.out.below b2); have B3 := Lib.hid (bel_trans B2.out b2); have R3 := Lib.hid (R2.out.below (b2.mono L2.out)); have L3 := Lib.hid (Nat.le_trans L2.out b2.size); have P3 := Lib.hid ((P2.out.below b2).more b2.size); clear b2 o4)
        | (go_at_call 14; (with_reducible refine (D4.out _ T3.out).mono ?_); rintro e v3 ⟨rfl, b3⟩; have T4 := Lib.hid (T3.out.below b3); have B4 := Lib.hid (bel_trans B3.out b3); have R4 := Lib.hid (R3.out.below (b3.mono L3.out)); have L4 := Lib.hid (Nat.le_trans L3.out b3.size); have P4 := Lib.hid ((P3.out.below b3).more b3.size); have O5 := Lib.hid ((O4.out.below b3).more b3.size); clear b3)
        | (go_at_call 13; (with_reducible refine (D3.out _ T4.out).mono ?_); rintro e v4 ⟨rfl, b4⟩; have T5 := Lib.hid (T4.out.below b4); have B5 := Lib.hid (bel_trans B4.out b4); have R5 := Lib.hid (R4.out.below (b4.mono L4.out)); have P5 := Lib.hid ((P4.out.below b4).more b4.size); have O6 := Lib.hid ((O5.out.below b4).more b4.size); clear b4))
      go_loopw [8] (fun i wz => ∃ (q : Nat), i = .int .i64 q ∧ q ≤ j ∧ Hid (Reads wz w1.heap.size 5 A1 j (crL (cs1.map toCr))) ∧ Hid (Reads wz wz.heap.size 5 A4 j (crL (cs2.map toCr))) ∧ Hid (Reads wz wz.heap.size 1 A2 j (pts.map (Value.int .i32))) ∧ Hid (Tabs wz) ∧ Hid (Below w.heap.size w wz)) (fun i _ => j - (intOf i).toNat)
      case atStart => exact ⟨0, rfl, Nat.zero_le _, R5, O6, P5, T5, B5⟩
      case round =>
        obtain ⟨q, rfl, hq, Ra, Rb, Rp, Tz, Bz⟩ := hrel
        by_cases hlt : q < j
        · obtain ⟨ad, cr, rfl, _, hcr, cc⟩ := reads_cr Ra.out hlt
          rw [List.getElem?_map] at hcr
          obtain ⟨ch, hch, rfl⟩ := Option.map_eq_some_iff.1 hcr
          have hpt := HPt.out q ch hch
          obtain ⟨ad2, cr2, rfl, _, hcr2, cc2⟩ := reads_cr Rb.out hlt
          rw [List.getElem?_map] at hcr2
          obtain ⟨ch2, hch2, rfl⟩ := Option.map_eq_some_iff.1 hcr2
          obtain ⟨ch3, hch3, hr3⟩ := HX.out q ch.r hpt
          obtain rfl : ch2 = ch3 := by rw [hch2] at hch3; exact Option.some.inj hch3
          have k0 : wr.cell? (ad.add (q * 5)) = some (.int .i32 ch.r) := cc.c0
          have k1 : wr.cell? (ad2.add (q * 5)) = some (.int .i32 ch.r) := by
            have := cc2.c0
            show wr.cell? (ad2.add (q * 5)) = _
            rw [this]
            show some (Value.int IntKind.i32 ch2.r) = _
            rw [hr3, fixR_point (HPx.out _ (List.mem_of_getElem? hpt))]
          have i1 : (q : Int) < (j : Int) := by omega
          obtain ⟨r, hr⟩ : ∃ r, ch.r = r := ⟨_, rfl⟩
          rw [hr] at k0 k1
          have QR : (r != r) = false := by simp
          clear hcr hch cc hr hcr2 hch2 cc2 hch3 hr3 hpt
          go_wp2_with (fail)
          go_quiet (fail)
          go_wp2
          go_roundw
          case rel => exact ⟨q + 1, by go_num, by omega, Ra, Rb, Rp, Lib.hid (Tz.out.below (bel_drewN (Below.refl _ _) nq)), Lib.hid (bel_drewN Bz.out nq)⟩
          case measure => simp [intOf]; omega
        · obtain rfl : q = j := by omega
          go_wp2_with (first
            | (go_at_call 16; (with_reducible refine (D5.out _ _ _ Rp.out).mono ?_); rintro e v1 ⟨rfl, b1⟩; have T2 := Lib.hid (Tz.out.below b1); have B2 := Lib.hid (bel_trans Bz.out b1); clear b1)
            | (go_at_call 9; (with_reducible refine (HH.out _ T2.out).mono ?_); rintro e v2 ⟨rfl, b2⟩; have B3 := Lib.hid (bel_trans B2.out b2); clear b2))
          go_ret
          exact ⟨rfl, B3.out⟩
theorem UtfAgain_row (s : ByteArray) (hm : s.size ≤ 140737488351232) (w : World) (hL : laidMetH Tryd.prog laidU w) :
    Calls Tryd.prog 7 #[.string s] w fun e w' => e = .returned (.bool true) ∧ Below w.heap.size w w' := by
  have hT := tabs_of_laid hL
  clear hL
  rw [← strV_of]
  obtain ⟨l, hl⟩ : ∃ l, s.data.toList = l := ⟨_, rfl⟩
  have hz : l.length ≤ 140737488351232 := by rw [← hl, Array.length_toList]; exact hm
  rw [hl]
  clear hl hm
  by_cases h : l.length ≤ 3000
  · exact UtfAgain_in l h w hT
  · have gl : (⟨l.toArray⟩ : ByteArray).size = l.length := rfl
    have q1 : decide ((3000 : Int) < (l.length : Int)) = true := decide_eq_true (by omega)
    have q2 : 3000 < l.length := by omega
    have HH := Lib.hid (fun (W : World) (h : Tabs W) => head_any W h h.three)
    have T0 := Lib.hid hT
    clear hT h
    go_enter Tryd.func7, Tryd.ntmps7
    go_wp2_with (go_at_call 9; (with_reducible refine (HH.out _ T0.out).mono ?_); rintro e w7 ⟨rfl, b7⟩; have B7 := Lib.hid b7; clear b7)
    go_ret
    exact ⟨rfl, B7.out⟩
end Go.Proofs.YtbafdijklcoeoaaDoor.Utf

/- Chapter 23: the reference's Sizes, walked. No condition but a bound. -/
import Derived.Test.YtglomkpnbdnnoaaFlexSq
import Derived.Test.YtglomkpnbdnnoaaFlexCk
namespace Go.Proofs.Ytglomkpnbdnnoaa.Flex
open Go.RowKit Go.Proofs.Ytglomkpnbdnnoaa.Unit Go.Proofs.Ytglomkpnbdnnoaa.Div
set_option linter.unusedVariables false
set_option linter.unusedSimpArgs false
attribute [local go_sem] max2_V max_two
/-- What the second loop keeps: the sizes, the shares. -/
structure Duo (w : World) (g3 : Nat) (V : World) (A1 : Option Addr) (c1 : Nat) (AP : Option Addr) (cP : Nat) (n : Nat) (ys : List Int) (ps : List Int) : Prop where
  o : V.ownsRow w.heap.size 2 1 (.slice A1 n c1) n (ys.map (Value.int .i64))
  p : V.ownsRow g3 2 1 (.slice AP n cP) n (ps.map (Value.int .i64))
  b : Below w.heap.size w V
  h1 : ∀ r, (Value.slice A1 n c1).ownBlock = some r → r < g3
section
variable {w V V' : World} {g3 c1 cP n : Nat} {A1 AP : Option Addr} {ys ps : List Int}
theorem Duo.below (h : Duo w g3 V A1 c1 AP cP n ys ps) (hb : Below V.heap.size V V') : Duo w g3 V' A1 c1 AP cP n ys ps :=
  ⟨own_below h.o hb, own_below h.p hb, bel_trans h.b hb, h.h1⟩
theorem Duo.setO {ad : Addr} (h : Duo w g3 V (some ad) c1 AP cP n ys ps) {k : Nat} (hk : k < n) (u : Int) : Duo w g3 (V.setCell (ad.add k) (.int .i64 u)) (some ad) c1 AP cP n (ys.set k u) ps := by
  obtain ⟨ad', x, e, Y⟩ := own_cell h.o hk
  injection e with e
  subst e
  exact ⟨Y.put u, own_far h.p _ _ (h.h1 _ (by rw [block_of_add]; rfl)), h.b.setCell Y.far _, h.h1⟩
end
set_option maxHeartbeats 16000000 in
set_option maxRecDepth 100000 in
theorem refSizes_any (A : Option Addr) (n c : Nat) (xs : List It) (hn : n ≤ 60) (room : Int) (w : World) (hr : Reads w w.heap.size 4 A n (itL xs)) :
    Calls Try.prog 11 #[.slice A n c, .int .i64 room] w (PS w xs room) := by
  have HCk := Lib.hid (rcheck_any A n c xs hn room w hr)
  have nn : (n : Int) ≤ 60 := by omega
  cases hok : okS xs room with
  | false =>
    have e2 : errS xs room = 2 := by unfold errS; rw [hok]; rfl
    rw [e2] at HCk
    have HNo := Lib.hid hok
    clear hr hok e2
    go_enter Try.func11, Try.ntmps11
    go_wp2_with (go_at_call 27; (with_reducible refine HCk.out.mono ?_); rintro e w1 ⟨rfl, b⟩; have B1 := Lib.hid b; clear b)
    go_ret2
    exact PS_no HNo.out B1.out
  | true =>
    have e2 : errS xs room = 0 := by unfold errS; rw [hok]; rfl
    rw [e2] at HCk
    have hl := len_it hr
    obtain ⟨r0, r1, ho⟩ := okS_parts hok
    have HY := Lib.hid hok
    have HOK := Lib.hid ho
    have HL := Lib.hid hl
    have HR := Lib.hid hr
    have hfb : ∀ y ∈ xs.map fiI, 0 ≤ y ∧ y ≤ 1073741824 := fun y hy => by
      obtain ⟨x, hx, rfl⟩ := List.mem_map.1 hy
      exact ⟨(szI_bd (ho x hx) false).1, (szI_bd (ho x hx) false).2.1⟩
    have hgb : ∀ y ∈ xs.map It.grow, 0 ≤ y ∧ y ≤ 1000 := fun y hy => by
      obtain ⟨x, hx, rfl⟩ := List.mem_map.1 hy
      have := ho x hx
      unfold okI at this
      omega
    have HFB := Lib.hid hfb
    have HGB := Lib.hid hgb
    have HSB := Lib.hid (fun (j : Nat) => (show 0 ≤ sT (xs.map fiI) j ∧ sT (xs.map fiI) j ≤ 1099511627776 by
      have := sT_bd (xs.map fiI) j 1073741824 (by omega) hfb
      rw [List.length_map, hl] at this
      omega))
    have HSA := Lib.hid (sT_all (xs.map fiI) n (by rw [List.length_map, hl]; exact Nat.le_refl _))
    have hc0 : (Value.int .i64 room) = .int .i64 (room - sT (xs.map fiI) 0) := by rw [sT_zero, Int.sub_zero]
    have HC0 := Lib.hid hc0
    have hmk := make_bool n (by omega)
    have HMK := Lib.hid hmk
    obtain ⟨i0, hi, hz0, hz1, hz2⟩ := info_parts info_i64
    have HI := Lib.hid hi
    have HZ0 := Lib.hid hz0
    have HZ1 := Lib.hid hz1
    have HZ2 := Lib.hid hz2
    clear hr hok e2 ho hl hfb hgb hc0 hi hz0 hz1 hz2 hmk
    go_enter Try.func11, Try.ntmps11
    go_wp2_with (go_at_call 27; (with_reducible refine HCk.out.mono ?_); rintro e w1 ⟨rfl, b⟩; have B1 := Lib.hid b; clear b)
    clear HCk
    go_loopw [6, 7, 8, 9] (fun o t v i wr => ∃ (j : Nat) (A1 : Option Addr) (c1 : Nat) (A2 : Option Addr) (c2 : Nat), i = .int .i64 j ∧ j ≤ n ∧ o = .slice A1 j c1 ∧ t = .slice A2 j c2 ∧ v = .int .i64 (room - sT (xs.map fiI) j) ∧ Hid (Two w wr (.slice A1 j c1) (.slice A2 j c2) j j ((xs.map fiI).take j) ((xs.map It.grow).take j))) (fun _ _ _ i _ => n - (intOf i).toNat)
    case atStart => exact ⟨0, none, 0, none, 0, rfl, by omega, rfl, rfl, HC0.out, Lib.hid ((Two.nil w).below B1.out)⟩
    case round =>
      clear HC0 B1
      obtain ⟨j, A1, c1, A2, c2, rfl, hj, rfl, rfl, rfl, HT⟩ := hrel
      by_cases hlt : j < n
      · have q1 : decide ((j : Int) < (n : Int)) = true := decide_eq_true (by omega)
        have i0' : (0 : Int) ≤ (j : Int) := by omega
        have i1 : (j : Int) < (n : Int) := by omega
        obtain ⟨ad, _, rfl, _, _, _⟩ := reads_it HR.out hlt
        obtain ⟨m, hm, _, hC⟩ := itsAt HR.out hlt
        have HC := Lib.hid hC
        obtain ⟨c0, c1', c2', c3'⟩ := hC wr HT.out.b
        have hs : (xs.map fiI)[j]? = some (fiI m) := by rw [List.getElem?_map, hm]; rfl
        have hw : (xs.map It.grow)[j]? = some m.grow := by rw [List.getElem?_map, hm]; rfl
        have hsb := HFB.out _ (List.mem_of_getElem? hs)
        have hS := HSB.out j
        have HSs := Lib.hid (sT_succ _ j _ hs)
        have wV : IntKind.i64.wrap (room - sT (xs.map fiI) j - fiI m) = room - sT (xs.map fiI) j - fiI m := IntWalk.i64_in _ ⟨by omega, by omega⟩
        obtain ⟨l1, hl1⟩ : ∃ l1, (xs.map fiI).take (j + 1) = l1 := ⟨_, rfl⟩
        obtain ⟨l2, hl2⟩ : ∃ l2, (xs.map It.grow).take (j + 1) = l2 := ⟨_, rfl⟩
        have HTs := Lib.hid (take_add hs)
        have HTw := Lib.hid (take_add hw)
        rw [hl1] at HTs
        rw [hl2] at HTw
        have HL1 := Lib.hid hl1
        have HL2 := Lib.hid hl2
        have HFi := Lib.hid (fun V => rfirst_any m V)
        clear hm hC hs hw hsb hS hl1 hl2
        generalize sT (xs.map fiI) j = s at wV HSs ⊢
        generalize (xs.map fiI).take j = k1 at HTs HT
        generalize (xs.map It.grow).take j = k2 at HTw HT
        go_upto_region 9 with (first | (go_at_call 28; (with_reducible refine (HFi.out _).mono ?_); rintro e w1 ⟨rfl, b1⟩; have HT1 := Lib.hid (HT.out.below b1); clear b1) | (at_builtin; refine wpList_append_any _ rfl (.tmp 25) (.tmp 31) 24 rfl w.heap.size 2 i0 (.int .i64 0) 1 8 Try.underlying24 HI.out HZ0.out HZ1.out HZ2.out rfl (by decide) _ _ _ rfl (HT1.out.o1.alloc _) _ _ 1 1 [Value.int .i64 (fiI m)] rfl (reads_new _ _ _ 1 _ rfl rfl) (by simp [Value.oneCell']) (by unfold maxLen; omega) (by omega) (by have := HT1.out.b.size; simp; omega) ?_; intro v1 w3 hown3 hg3 hb3; obtain ⟨A3, c3, rfl⟩ := own_shape hown3; have T3 := Lib.hid ((HT1.out.below (bel_alloc (Below.refl _ _) (.cells #[Value.int .i64 (fiI m)] 2))).left hown3 hg3 hb3); clear hown3 hg3 hb3))
        clear c0 c1' c2' c3' HT HT1
        obtain ⟨c0, c1', c2', c3'⟩ := HC.out _ T3.out.b
        go_upto_region 10 with (at_builtin; refine wpList_append_any _ rfl (.tmp 33) (.tmp 39) 24 rfl w.heap.size 2 i0 (.int .i64 0) 1 8 Try.underlying24 HI.out HZ0.out HZ1.out HZ2.out rfl (by decide) _ _ _ rfl (T3.out.o2.alloc _) _ _ 1 1 [Value.int .i64 m.grow] rfl (reads_new _ _ _ 1 _ rfl rfl) (by simp [Value.oneCell']) (by unfold maxLen; omega) (by omega) (by have := T3.out.b.size; simp; omega) ?_; intro v1 w4 hown3 hg3 hb3; obtain ⟨A4, c4, rfl⟩ := own_shape hown3; have T4 := Lib.hid ((T3.out.below (bel_alloc (Below.refl _ _) (.cells #[Value.int .i64 m.grow] 2))).right hown3 hg3 hb3); clear hown3 hg3 hb3)
        clear c0 c1' c2' c3' T3
        obtain ⟨c0, c1', c2', c3'⟩ := HC.out _ T4.out.b
        have T5 := Lib.hid (show Two w w4 (.slice A3 (j + 1) c3) (.slice A4 (j + 1) c4) (j + 1) (j + 1) l1 l2 by rw [HTs.out, HTw.out]; exact T4.out)
        clear T4 HC
        go_wp2_with (go_at_call 28; (with_reducible refine (HFi.out _).mono ?_); rintro e w6 ⟨rfl, b1⟩; have T6 := Lib.hid (T5.out.below b1); clear b1)
        go_roundw
        case rel => exact ⟨j + 1, A3, c3, A4, c4, by go_num, by omega, rfl, rfl, by rw [HSs.out]; congr 1; omega, by rw [HL1.out, HL2.out]; exact T6⟩
        case measure => simp [intOf]; omega
      · obtain rfl : n = j := by omega
        have q1 : decide ((n : Int) < (n : Int)) = false := decide_eq_false (by omega)
        rw [HSA.out]
        have hlt1 := List.take_of_length_le (l := xs.map fiI) (i := n) (by rw [List.length_map, HL.out]; exact Nat.le_refl _)
        have hlt2 := List.take_of_length_le (l := xs.map It.grow) (i := n) (by rw [List.length_map, HL.out]; exact Nat.le_refl _)
        rw [hlt1, hlt2] at HT
        clear hlt1 hlt2 hlt hj
        have hob := HSB.out n
        rw [HSA.out] at hob
        obtain ⟨lf, hlf⟩ : ∃ lf, room - (xs.map fiI).sum = lf := ⟨_, rfl⟩
        have HLf := Lib.hid (show room - fsum xs = lf from hlf)
        have hlb : lf ≤ 1073741824 := by omega
        rw [hlf]
        clear hob hlf HSB HSA
        obtain ⟨W0, hW0⟩ : ∃ W0, W0 = wr := ⟨_, rfl⟩
        subst hW0
        by_cases h0 : 0 ≤ lf
        · have q2 : decide (0 ≤ lf) = true := decide_eq_true h0
          have hle : fsum xs ≤ room := by have := HLf.out; omega
          have HSo := Lib.hid (some_any A2 n c2 (xs.map It.grow) (by omega) W0.heap.size W0 (own_reads HT.out.o2) (Nat.le_refl _))
          have hps := pos_sum (fun x hx => (HGB.out x hx).1)
          cases hp : posB (xs.map It.grow) with
          | false =>
            rw [hp] at HSo
            have HSz := Lib.hid (show sizesL xs room = xs.map fiI by unfold sizesL; rw [if_pos hle, if_pos (hps.2.1 hp)])
            clear hps hp hle h0
            go_wp2_with (go_at_call 29; (with_reducible refine HSo.out.mono ?_); rintro e w3 ⟨rfl, bb⟩; have T3 := Lib.hid (HT.out.below bb); clear bb)
            go_ret2
            exact PS_yes HY.out HL.out HSz.out (own_reads T3.out.o1) T3.out.b
          | true =>
            rw [hp] at HSo
            have hs1 := hps.1.1 hp
            have HSz := Lib.hid (show sizesL xs room = List.zipWith (fun a b => a + b) (xs.map fiI) (shareL lf (xs.map It.grow)) by unfold sizesL; rw [if_pos hle, if_neg (by omega), HLf.out])
            have HPB := Lib.hid (shareL_bd lf (xs.map It.grow) h0 (fun x hx => (HGB.out x hx).1) hs1)
            have HSh := Lib.hid (fun (V : World) (h : Two w V (.slice A1 n c1) (.slice A2 n c2) n n (xs.map fiI) (xs.map It.grow)) => rshare_own lf h0 (by omega) A2 n c2 (xs.map It.grow) (by omega) (fun x hx => by have := HGB.out x hx; omega) hs1 V.heap.size V (own_reads h.o2) (Nat.le_refl _))
            have HPL := Lib.hid (show (shareL lf (xs.map It.grow)).length = n by rw [shareL_len, List.length_map, HL.out])
            clear hps hp hle h0 hs1
            generalize shareL lf (xs.map It.grow) = ps at HSz HPB HSh HPL
            go_upto_region 15 with (first
              | (go_at_call 29; (with_reducible refine HSo.out.mono ?_); rintro e w3 ⟨rfl, bb⟩; have T3 := Lib.hid (HT.out.below bb); clear bb)
              | (go_at_call 30; (with_reducible refine (HSh.out w3 T3.out).mono ?_); rintro e w4 ⟨⟨AP, cP, rfl, op⟩, bb⟩; have D4 := Lib.hid (show Duo w w3.heap.size w4 A1 c1 AP cP n (mixI (List.zipWith (fun a b => a + b) (xs.map fiI) ps) (xs.map fiI) 0) ps from ⟨by rw [mixI_zero]; exact own_below T3.out.o1 bb, op, bel_trans T3.out.b bb, fun r h => (T3.out.o1.lt r h).2⟩); clear bb op))
            clear T3 HT HSo HSh
            generalize w3.heap.size = g3 at D4
            go_wp2
            go_loopw [11] (fun i wr => ∃ j : Nat, i = .int .i64 j ∧ j ≤ n ∧ Hid (Duo w g3 wr A1 c1 AP cP n (mixI (List.zipWith (fun a b => a + b) (xs.map fiI) ps) (xs.map fiI) j) ps)) (fun i _ => n - (intOf i).toNat)
            case atStart => exact ⟨0, rfl, by omega, D4⟩
            case round =>
              clear D4
              obtain ⟨j, rfl, hj, HD⟩ := hrel
              by_cases hlt : j < n
              · have q3 : decide ((j : Int) < (n : Int)) = true := decide_eq_true (by omega)
                have i0' : (0 : Int) ≤ (j : Int) := by omega
                have i1 : (j : Int) < (n : Int) := by omega
                obtain ⟨adO, y1, rfl, Y1⟩ := own_cell HD.out.o hlt
                obtain ⟨adP, p, rfl, Y3⟩ := own_cell HD.out.p hlt
                obtain ⟨f, hf⟩ := at_len (show (xs.map fiI).length = n by rw [List.length_map, HL.out]) hlt
                have hp := Y3.at_
                have hy : (List.zipWith (fun a b => a + b) (xs.map fiI) ps)[j]? = some (f + p) := zip_at _ _ _ j _ _ hf hp
                have e1 : y1 = f := by
                  have := Y1.at_
                  rw [mixI_at _ _ j f (by rw [List.length_zipWith, List.length_map, HL.out, HPL.out]; omega) hf] at this
                  injection this with this
                  exact this.symm
                have hpb := HPB.out p (List.mem_of_getElem? hp)
                have hfb := HFB.out f (List.mem_of_getElem? hf)
                have wD : IntKind.i64.wrap (f + p) = f + p := IntWalk.i64_in _ ⟨by omega, by omega⟩
                have co := Y1.cell
                have fo := Y1.free
                have cp := Y3.cell
                rw [e1] at co
                have HYs := Lib.hid (mixI_set _ (xs.map fiI) j _ hy (by rw [List.length_map, HL.out]; exact hlt))
                clear hf hp hy e1 hpb hfb Y1 Y3
                go_upto_region 18 with fail
                go_still_tail 12, (by kernel_rfl)
                change wpList _ _ _ _ _ wr.drew
                have D7 := Lib.hid ((HD.out.below (Below.refl _ _).drew).setO hlt (f + p))
                rw [HYs.out] at D7
                go_wp2
                go_roundw
                case rel => exact ⟨j + 1, by go_num, by omega, D7⟩
                case measure => simp [intOf]; omega
              · obtain rfl : n = j := by omega
                have q3 : decide ((n : Int) < (n : Int)) = false := decide_eq_false (by omega)
                have hE : mixI (List.zipWith (fun a b => a + b) (xs.map fiI) ps) (xs.map fiI) n = List.zipWith (fun a b => a + b) (xs.map fiI) ps := mixI_all _ _ n (by rw [List.length_zipWith, List.length_map, HL.out, HPL.out]; omega) (by rw [List.length_map, HL.out])
                rw [hE] at HD
                clear hE
                go_wp2
                go_ret2
                exact PS_yes HY.out HL.out HSz.out (own_reads HD.out.o) HD.out.b
        · have q2 : decide (0 ≤ lf) = false := decide_eq_false h0
          obtain ⟨R, hR0, hR1, hR2⟩ := rounds_end HOK.out room
          have HSz := Lib.hid (show sizesL xs room = yL xs room (fzK xs room R) by
            unfold sizesL
            rw [if_neg (by have := HLf.out; omega)]
            exact finL_eq xs room R hR1 hR2 xs.length 0 (by omega) (by omega))
          have HMo := Lib.hid (fun k (hk : k ≤ R) => (show moB xs room (fzK xs room k) = decide (k + 1 ≤ R) by
            rcases Nat.lt_or_ge k R with h | h
            · rw [hR2 k h, decide_eq_true (by omega)]
            · obtain rfl : k = R := by omega
              rw [hR1, decide_eq_false (by omega)]))
          have HSk := Lib.hid (fun (AF : Option Addr) (cF k : Nat) (V : World) (hb : Below w.heap.size w V) (h : Reads V V.heap.size 1 AF n ((fzK xs room k).map Value.bool)) => shrinks_any A n c xs HOK.out (by omega) room r0 r1 AF cF (fzK xs room k) (fzK_len HL.out k) V ((HR.out.below hb).more hb.size) h)
          have hmk := HMK.out
          have B0 := Lib.hid (bel_trans HT.out.b (bel_alloc (Below.refl W0.heap.size W0) (.cells (madeCells #[Value.bool false] n) 4)))
          have F0 := Lib.hid (show Reads (W0.alloc (.cells (madeCells #[Value.bool false] n) 4)) (W0.alloc (.cells (madeCells #[Value.bool false] n) 4)).heap.size 1 (some ⟨W0.heap.size, 0, none⟩) n ((fzK xs room 0).map Value.bool) by
            have h := own_reads (made_own W0 4 (.bool false) n (by omega))
            have e : (fzK xs room 0).map Value.bool = List.replicate n (Value.bool false) := by unfold fzK; rw [HL.out]; simp
            rw [e]
            exact h)
          clear h0 hR0 hR1 hR2 HT
          go_upto_region 21 with fail
          obtain ⟨gF, hgF⟩ : ∃ gF, W0.heap.size = gF := ⟨_, rfl⟩
          rw [hgF] at F0 ⊢
          generalize W0.alloc (.cells (madeCells #[Value.bool false] n) 4) = W1 at B0 F0 ⊢
          clear hmk hgF
          go_wp2
          go_loopg [6, 12, 13] (R + 1) (fun m o f mo wr => ∃ (k : Nat) (AO : Option Addr) (mO cO : Nat) (AF : Option Addr) (cF : Nat), m + k = R + 1 ∧ o = .slice AO mO cO ∧ f = .slice AF n cF ∧ mo = .bool (decide (k ≤ R)) ∧ Hid (Reads wr wr.heap.size 1 AF n ((fzK xs room k).map Value.bool)) ∧ Hid (Below w.heap.size w wr) ∧ Hid (k = R + 1 → mO = n ∧ Reads wr wr.heap.size 1 AO n ((yL xs room (fzK xs room R)).map (Value.int .i64))))
          case atStart => exact ⟨0, A1, n, c1, _, n, by omega, rfl, rfl, by rw [decide_eq_true (by omega)], F0, B0, Lib.hid (fun h => absurd h (by omega))⟩
          case round =>
            clear F0 B0
            obtain ⟨k, AO, mO, cO, AF, cF, hmk, rfl, rfl, rfl, HF, HB, HE⟩ := hrel
            by_cases hk : k ≤ R
            · rw [decide_eq_true hk]
              have HS := Lib.hid (HSk.out AF cF k wr HB.out HF.out)
              unfold PK at HS
              rw [HMo.out k hk] at HS
              go_wp2_with (go_at_call 31; (with_reducible refine HS.out.mono ?_); rintro e w5 ⟨A5, c5, A6, c6, rfl, ry, rn, bb⟩; have RY := Lib.hid ry; have RN := Lib.hid (show Reads w5 w5.heap.size 1 A6 n ((fzK xs room (k + 1)).map Value.bool) from rn); have B5 := Lib.hid (bel_trans HB.out bb); clear ry rn bb)
              go_roundg (R + 1 - (k + 1))
              case measure => omega
              case rel => exact ⟨k + 1, A5, n, c5, A6, c6, by omega, rfl, rfl, rfl, RN, B5, Lib.hid (fun h => ⟨rfl, by obtain rfl : k = R := (by omega); exact RY.out⟩)⟩
            · rw [decide_eq_false hk]
              obtain ⟨h1, h2⟩ := HE.out (by omega)
              subst h1
              have RY := Lib.hid h2
              clear h2
              go_wp2
              go_ret2
              exact PS_yes HY.out HL.out HSz.out RY.out HB.out
end Go.Proofs.Ytglomkpnbdnnoaa.Flex

/- Chapter 8: the law WhiteAlone, walked. No condition. -/
import Derived.Test.YtmjacmjogckihaaWhiteX
import Derived.Deep.RegionHeld
namespace Go.Proofs.Ytmjacmjogckihaa.White
open Go.RowKit Utf
set_option linter.unusedVariables false
set_option linter.unusedSimpArgs false
def kp (ss : List St) (cs : List Cr) (k : Nat) : Bool := (cs.take k).all fun c => !foldW (whOf ss c.node)
theorem kp_step (ss : List St) (cs : List Cr) (k : Nat) (c : Cr) (h : cs[k]? = some c) : kp ss cs (k + 1) = (kp ss cs k && !foldW (whOf ss c.node)) := by
  unfold kp
  obtain ⟨hk, rfl⟩ := List.getElem?_eq_some_iff.1 h
  rw [List.take_succ_eq_append_getElem hk, List.all_append]
  simp
theorem pc_next (cs : List Cr) (J G : Nat) (x y : Cr) (h1 : cs[J]? = some x) (h2 : cs[J + 1]? = some y) (h : G + pc (cs.drop J) = pc cs) : (G + (if (isT x 13 && isT y 10) = true then 1 else 0)) + pc (cs.drop (J + 1)) = pc cs := by
  rw [drop_step cs J x h1, drop_step cs (J + 1) y h2] at h
  rw [drop_step cs (J + 1) y h2]
  have e : pc (x :: y :: cs.drop (J + 1 + 1)) = (if (isT x 13 && isT y 10) = true then 1 else 0) + pc (y :: cs.drop (J + 1 + 1)) := rfl
  omega
theorem pc_end (cs : List Cr) (n : Nat) (h : cs.length = n) : pc (cs.drop (n - 1)) = 0 := by
  have : (cs.drop (n - 1)).length ≤ 1 := by rw [List.length_drop]; omega
  match cs.drop (n - 1), this with
  | [], _ => rfl
  | [_], _ => rfl
set_option maxHeartbeats 16000000 in
set_option maxRecDepth 40000 in
theorem WhiteAlone_any (A : Option Addr) (n c : Nat) (cs : List Cr) (AS : Option Addr) (nS cS : Nat) (ss : List St) (w : World) (hr : Reads w w.heap.size 5 A n (crL cs)) (hrS : Reads w w.heap.size 9 AS nS (stL ss)) :
    Calls Try.prog 5 #[.slice A n c, .slice AS nS cS] w fun e w' => e = .returned (.bool true) ∧ Below w.heap.size w w' := by
  have HG := Lib.hid (great_any A n c AS nS cS w)
  have HH := Lib.hid (fun V => head_any V)
  by_cases hg : n ≤ 150 ∧ nS ≤ 40
  · have q0 : greatB n nS = false := by unfold greatB; rw [decide_eq_false (by omega), decide_eq_false (by omega)]; rfl
    rw [q0] at HG
    have hlc := len_cr hr
    have hls := len_st hrS
    have HMd := Lib.hid (made_any A n c cs (by omega) w hr)
    by_cases hmd : cs.any mdB = true
    · rw [hmd] at HMd
      clear hr hrS q0 hg hlc hls hmd
      go_enter Try.func5, Try.ntmps5
      go_wp2_with (first
        | (go_at_call 8; (with_reducible refine HG.out.mono ?_); rintro e w1 ⟨rfl, rfl⟩)
        | (go_at_call 19; (with_reducible refine HMd.out.mono ?_); rintro e w2 ⟨rfl, b2⟩; have B2 := Lib.hid b2; clear b2)
        | (go_at_call 9; (with_reducible refine (HH.out _).mono ?_); rintro e w9 ⟨rfl, b⟩; have T6 := Lib.hid (bel_trans B2.out b); clear b))
      go_ret
      exact ⟨rfl, T6.out⟩
    · have hmd : cs.any mdB = false := by simpa using hmd
      rw [hmd] at HMd
      have HCol := Lib.hid (fun (V : World) (hV : Below w.heap.size w V) => (Collapse_any A n c cs AS nS cS ss (by omega) (by omega) V ((hr.below hV).more hV.size) ((hrS.below hV).more hV.size)).mono (fun e w' h => ans_of h))
      by_cases hok : okAll ss cs = true
      · have hI := mdB_in hok hmd
        have hnd := nodes_ok hok
        rw [hls] at hnd
        have hln := len_out ss cs
        obtain ⟨hkW, hkC⟩ := out_known ss cs hI
        have HKe := Lib.hid (fun (h : kp ss cs n = true) => out_kept ss cs (fun c hc => by
          unfold kp at h
          rw [List.take_of_length_le (by omega), List.all_eq_true] at h
          simpa using h c hc))
        have e1 : ansL ss cs = outL ss cs := by unfold ansL; rw [hok]; rfl
        have e2 : ansE ss cs = 0 := by unfold ansE; rw [hok]; rfl
        rw [e1, e2] at HCol
        obtain ⟨zs, hzs⟩ : ∃ zs, outL ss cs = zs := ⟨_, rfl⟩
        rw [hzs] at HCol HKe hln hkW hkC
        obtain ⟨N, hN⟩ : ∃ N, zs.length = N := ⟨_, rfl⟩
        rw [hN] at HCol HKe hln
        have HW := Lib.hid hkW
        have HC := Lib.hid hkC
        have HR := Lib.hid hr
        have HRS := Lib.hid hrS
        have HND := Lib.hid hnd
        have HLC := Lib.hid hlc
        have nn : (n : Int) ≤ 150 := by omega
        have nN : N ≤ 150 := by omega
        have nI : (N : Int) ≤ 150 := by omega
        have hn150 : n ≤ 150 := hg.1
        clear hr hrS q0 hg hlc hls hmd hok hI hnd hln hkW hkC e1 e2 hzs hN
        go_enter Try.func5, Try.ntmps5
        go_wp2_with (first
          | (go_at_call 8; (with_reducible refine HG.out.mono ?_); rintro e w1 ⟨rfl, rfl⟩)
          | (go_at_call 19; (with_reducible refine HMd.out.mono ?_); rintro e w2 ⟨rfl, b2⟩; have B2 := Lib.hid b2; clear b2)
          | (go_at_call 10; (with_reducible refine (HCol.out _ B2.out).mono ?_); rintro e w3 ⟨A1, c1, rfl, r1, b1⟩; have R1 := Lib.hid r1; have B3 := Lib.hid (bel_trans B2.out b1); clear r1 b1))
        go_loopw [7] (fun i wr => ∃ k : Nat, i = .int .i64 k ∧ k ≤ N ∧ Hid (Below w3.heap.size w3 wr)) (fun i _ => N - (intOf i).toNat)
        case atStart => exact ⟨0, rfl, by omega, Lib.hid (Below.refl _ _)⟩
        case round =>
          obtain ⟨k, rfl, hk, HB⟩ := hrel
          by_cases hlt : k < N
          · have g1 : decide ((k : Int) < (N : Int)) = true := decide_eq_true (by omega)
            have g2 : (k : Int) < (N : Int) := by omega
            have g3 : (0 : Int) ≤ (k : Int) := by omega
            obtain ⟨ad, _, rfl, _, _, _⟩ := reads_cr R1.out hlt
            obtain ⟨m, hm, hC⟩ := cellsAt R1.out hlt
            obtain ⟨z0, z1, z2, z3, z4⟩ := hC _ HB.out
            have hWm := HW.out m (List.mem_of_getElem? hm)
            by_cases h0 : k = 0
            · have p0 : decide (0 < (k : Int)) = false := decide_eq_false (by omega)
              have p1 : decide (0 < k) = false := decide_eq_false (by omega)
              clear h0 hC hm
              obtain ⟨r, nd, p, n', kd⟩ := m
              simp only at z0 z1 z2 z3 z4
              simp only [Wt] at hWm
              by_cases k0 : kd = 0
              · subst k0
                have hr4 : ¬ r = 9 ∧ ¬ r = 10 ∧ ¬ r = 13 ∧ ¬ r = 32 := by omega
                have x1 : (r == 9) = false := by simpa using hr4.1
                have x2 : (r == 10) = false := by simpa using hr4.2.1
                have x3 : (r == 13) = false := by simpa using hr4.2.2.1
                have x4 : (r == 32) = false := by simpa using hr4.2.2.2
                clear hr4 hWm
                go_wp2
                go_roundw
                case rel => exact ⟨k + 1, by go_num, by omega, HB⟩
                case measure => simp [intOf] <;> omega
              · have x1 : (kd == 0) = false := by simpa using k0
                clear k0 hWm
                go_wp2
                go_roundw
                case rel => exact ⟨k + 1, by go_num, by omega, HB⟩
                case measure => simp [intOf] <;> omega
            · have p0 : decide (0 < (k : Int)) = true := decide_eq_true (by omega)
              have p1 : decide (0 < k) = true := decide_eq_true (by omega)
              obtain ⟨J, hJ⟩ : ∃ J, k = J + 1 := ⟨k - 1, by omega⟩
              have wj : IntKind.i64.wrap ((k : Int) - 1) = (J : Int) := by rw [show (k : Int) - 1 = (J : Int) by omega]; exact IntWalk.i64_in _ ⟨by omega, by omega⟩
              have g6 : (0 : Int) ≤ (J : Int) := by omega
              have g7 : (J : Int) < (N : Int) := by omega
              obtain ⟨m2, hm2, hC2⟩ := cellsAt R1.out (show J < N by omega)
              obtain ⟨y0, y1, y2, y3, y4⟩ := hC2 _ HB.out
              have hch := Ch.at_ zs J m2 m HC.out hm2 (by rw [← hJ]; exact hm)
              clear h0 hJ hC hm hC2 hm2
              obtain ⟨r, nd, p, n', kd⟩ := m
              obtain ⟨r', nd', p', n'', kd'⟩ := m2
              simp only at z0 z1 z2 z3 z4 y0 y1 y2 y3 y4
              simp only [Wt, brk, Bool.and_eq_false_iff, decide_eq_false_iff_not] at hWm hch
              by_cases k0 : kd = 0
              · subst k0
                have hr4 : ¬ r = 9 ∧ ¬ r = 10 ∧ ¬ r = 13 ∧ ¬ r = 32 := by omega
                have x1 : (r == 9) = false := by simpa using hr4.1
                have x2 : (r == 10) = false := by simpa using hr4.2.1
                have x3 : (r == 13) = false := by simpa using hr4.2.2.1
                have x4 : (r == 32) = false := by simpa using hr4.2.2.2
                clear hr4 hWm
                by_cases k1 : kd' = 1
                · subst k1
                  clear hch
                  go_wp2
                  go_roundw
                  case rel => exact ⟨k + 1, by go_num, by omega, HB⟩
                  case measure => simp [intOf] <;> omega
                · have x5 : (kd' == 1) = false := by simpa using k1
                  clear k1 hch
                  go_wp2
                  go_roundw
                  case rel => exact ⟨k + 1, by go_num, by omega, HB⟩
                  case measure => simp [intOf] <;> omega
              · have x1 : (kd == 0) = false := by simpa using k0
                by_cases k1 : kd = 1
                · subst k1
                  have k2 : ¬ kd' = 1 := fun h => (hch.1 h).1 rfl
                  have x2 : (kd' == 1) = false := by simpa using k2
                  have k3 := hch.2 rfl
                  clear hch hWm k0 k2
                  by_cases k4 : kd' = 5
                  · subst k4
                    have k5 : ¬ r' = 10 := by omega
                    have x3 : (r' == 10) = false := by simpa using k5
                    clear k3 k5
                    go_wp2
                    go_roundw
                    case rel => exact ⟨k + 1, by go_num, by omega, HB⟩
                    case measure => simp [intOf] <;> omega
                  · have x3 : (kd' == 5) = false := by simpa using k4
                    clear k3 k4
                    go_wp2
                    go_roundw
                    case rel => exact ⟨k + 1, by go_num, by omega, HB⟩
                    case measure => simp [intOf] <;> omega
                · have x2 : (kd == 1) = false := by simpa using k1
                  clear hWm k0
                  by_cases k2 : kd' = 1
                  · subst k2
                    have k3 := (hch.1 rfl).2
                    clear hch k1
                    by_cases k4 : kd = 5
                    · subst k4
                      have k5 : ¬ r = 10 := by omega
                      have x3 : (r == 10) = false := by simpa using k5
                      clear k3 k5
                      go_wp2
                      go_roundw
                      case rel => exact ⟨k + 1, by go_num, by omega, HB⟩
                      case measure => simp [intOf] <;> omega
                    · have x3 : (kd == 5) = false := by simpa using k4
                      clear k3 k4
                      go_wp2
                      go_roundw
                      case rel => exact ⟨k + 1, by go_num, by omega, HB⟩
                      case measure => simp [intOf] <;> omega
                  · have x3 : (kd' == 1) = false := by simpa using k2
                    clear hch k1 k2
                    go_wp2
                    go_roundw
                    case rel => exact ⟨k + 1, by go_num, by omega, HB⟩
                    case measure => simp [intOf] <;> omega
          · obtain rfl : k = N := by omega
            have g1 : decide ((k : Int) < (k : Int)) = false := decide_eq_false (by omega)
            obtain ⟨W0, hW0⟩ : ∃ W0, W0 = wr := ⟨_, rfl⟩
            subst hW0
            have T0 := Lib.hid (bel_trans B3.out HB.out)
            go_wp2
            go_loopw [8, 9, 10] (fun b g i wr => ∃ (j G : Nat), b = .bool (kp ss cs j) ∧ g = .int .i64 G ∧ i = .int .i64 j ∧ j ≤ n ∧ G ≤ j ∧ Hid (G + pc (cs.drop (j - 1)) = pc cs) ∧ Hid (Below w.heap.size w wr)) (fun b g i _ => n - (intOf i).toNat)
            case atStart => exact ⟨0, 0, rfl, rfl, rfl, by omega, by omega, Lib.hid (by simp), T0⟩
            case round =>
              obtain ⟨j, G, rfl, rfl, rfl, hj, hGj, HP, HB2⟩ := hrel
              by_cases hlt : j < n
              · have g1 : decide ((j : Int) < (n : Int)) = true := decide_eq_true (by omega)
                have g2 : (j : Int) < (n : Int) := by omega
                have g3 : (0 : Int) ≤ (j : Int) := by omega
                have g4 : (G : Int) ≤ 150 := by omega
                obtain ⟨ad, _, rfl, _, _, _⟩ := reads_cr HR.out hlt
                obtain ⟨m, hm, hC⟩ := cellsAt HR.out hlt
                have HCm := Lib.hid hC
                obtain ⟨nd0, nd1⟩ := HND.out.at_ hm
                obtain ⟨ndN, hndN⟩ : ∃ ndN : Nat, m.node = ndN := ⟨m.node.toNat, by omega⟩
                have hndl : ndN < nS := by omega
                obtain ⟨adS, st, rfl, hbS, hs, cS'⟩ := reads_st HRS.out hndl
                have i0 : (0 : Int) ≤ (ndN : Int) := by omega
                have i1 : (ndN : Int) < (nS : Int) := by omega
                obtain ⟨s0, s1, s2, s3, s4, s5, s6, s7, s8⟩ := cellS_keep cS' HB2.out (by rw [block_of_add]; exact hbS)
                have HCo := Lib.hid (fun V => collapses_any st V)
                obtain ⟨fo, hfo⟩ : ∃ fo, foldW st.white = fo := ⟨_, rfl⟩
                rw [hfo] at HCo
                have hkp := kp_step ss cs j m hm
                rw [hndN, whOf_at hs, hfo] at hkp
                have HKP := Lib.hid hkp
                obtain ⟨b, hb⟩ : ∃ b, kp ss cs j = b := ⟨_, rfl⟩
                rw [hb] at HKP
                rw [hb]
                obtain ⟨x0, x1, x2, x3, x4⟩ := hC _ HB2.out
                rw [hndN] at x1
                clear hb hkp hfo hs cS' nd0 nd1 hndl
                have HU := Lib.hid HB2.out
                have F0 := Lib.hid (HP.out)
                by_cases h0 : j = 0
                · have p0 : decide (0 < (j : Int)) = false := decide_eq_false (by omega)
                  have p1 : decide (0 < j) = false := decide_eq_false (by omega)
                  have HP2 := Lib.hid (show G + pc (cs.drop (j + 1 - 1)) = pc cs by have := HP.out; rw [h0] at this ⊢; exact this)
                  clear h0 hm hC hndN HP F0
                  obtain ⟨r, nd, p, n', kd⟩ := m
                  simp only at x0 x1 x2 x3 x4
                  cases b
                  · go_wp2
                    go_roundw
                    case rel => exact ⟨j + 1, G, by rw [HKP.out]; rfl, rfl, by go_num, by omega, by omega, HP2, HB2⟩
                    case measure => simp [intOf] <;> omega
                  · go_wp2_with (go_at_call 12; (with_reducible refine (HCo.out _).mono ?_); rintro e w4 ⟨rfl, b⟩; have HV := Lib.hid (bel_trans HB2.out b); obtain ⟨x0, x1, x2, x3, x4⟩ := HCm.out _ HV.out; simp only at x0 x1 x2 x3 x4; clear b)
                    go_roundw
                    case rel => exact ⟨j + 1, G, by rw [HKP.out]; rfl, rfl, by go_num, by omega, by omega, HP2, HV⟩
                    case measure => simp [intOf] <;> omega
                · have p0 : decide (0 < (j : Int)) = true := decide_eq_true (by omega)
                  have p1 : decide (0 < j) = true := decide_eq_true (by omega)
                  obtain ⟨J, hJ⟩ : ∃ J, j = J + 1 := ⟨j - 1, by omega⟩
                  have wj : IntKind.i64.wrap ((j : Int) - 1) = (J : Int) := by rw [show (j : Int) - 1 = (J : Int) by omega]; exact IntWalk.i64_in _ ⟨by omega, by omega⟩
                  have g6 : (0 : Int) ≤ (J : Int) := by omega
                  have g7 : (J : Int) < (n : Int) := by omega
                  obtain ⟨m2, hm2, hC2⟩ := cellsAt HR.out (show J < n by omega)
                  have HCm2 := Lib.hid hC2
                  obtain ⟨y0, y1, y2, y3, y4⟩ := hC2 _ HB2.out
                  have HPn := Lib.hid (pc_next cs J G m2 m hm2 (by rw [← hJ]; exact hm) (by have := HP.out; rw [hJ] at this; exact this))
                  have hPj : cs.drop (j + 1 - 1) = cs.drop (J + 1) := by rw [hJ]; rfl
                  rw [← hPj] at HPn
                  clear h0 hm hC hndN HP F0 hm2 hC2 hJ hPj
                  obtain ⟨r, nd, p, n', kd⟩ := m
                  obtain ⟨r', nd', p', n'', kd'⟩ := m2
                  simp only at x0 x1 x2 x3 x4 y0 y1 y2 y3 y4
                  by_cases k0 : kd = 0
                  · by_cases k1 : r = 10
                    · by_cases k2 : kd' = 0
                      · by_cases k3 : r' = 13
                        · subst k0 k1 k2 k3
                          have HP2 := Lib.hid (show (G + 1) + pc (cs.drop (j + 1 - 1)) = pc cs from HPn.out)
                          clear HPn
                          cases b
                          · go_wp2
                            go_roundw
                            case rel => exact ⟨j + 1, G + 1, by rw [HKP.out]; rfl, by go_num, by go_num, by omega, by omega, HP2, HB2⟩
                            case measure => simp [intOf] <;> omega
                          · go_wp2_with (go_at_call 12; (with_reducible refine (HCo.out _).mono ?_); rintro e w4 ⟨rfl, b⟩; have HV := Lib.hid (bel_trans HB2.out b); obtain ⟨x0, x1, x2, x3, x4⟩ := HCm.out _ HV.out; obtain ⟨y0, y1, y2, y3, y4⟩ := HCm2.out _ HV.out; simp only at x0 x1 x2 x3 x4 y0 y1 y2 y3 y4; clear b)
                            go_roundw
                            case rel => exact ⟨j + 1, G + 1, by rw [HKP.out]; rfl, by go_num, by go_num, by omega, by omega, HP2, HV⟩
                            case measure => simp [intOf] <;> omega
                        · have x5 : (r' == 13) = false := by simpa using k3
                          have HP2 := Lib.hid (show G + pc (cs.drop (j + 1 - 1)) = pc cs by have := HPn.out; simpa [isT, k0, k1, k2, k3] using this)
                          clear HPn
                          subst k0 k1 k2
                          clear k3
                          cases b
                          · go_wp2
                            go_roundw
                            case rel => exact ⟨j + 1, G, by rw [HKP.out]; rfl, rfl, by go_num, by omega, by omega, HP2, HB2⟩
                            case measure => simp [intOf] <;> omega
                          · go_wp2_with (go_at_call 12; (with_reducible refine (HCo.out _).mono ?_); rintro e w4 ⟨rfl, b⟩; have HV := Lib.hid (bel_trans HB2.out b); obtain ⟨x0, x1, x2, x3, x4⟩ := HCm.out _ HV.out; obtain ⟨y0, y1, y2, y3, y4⟩ := HCm2.out _ HV.out; simp only at x0 x1 x2 x3 x4 y0 y1 y2 y3 y4; clear b)
                            go_roundw
                            case rel => exact ⟨j + 1, G, by rw [HKP.out]; rfl, rfl, by go_num, by omega, by omega, HP2, HV⟩
                            case measure => simp [intOf] <;> omega
                      · have x5 : (kd' == 0) = false := by simpa using k2
                        have HP2 := Lib.hid (show G + pc (cs.drop (j + 1 - 1)) = pc cs by have := HPn.out; simpa [isT, k0, k1, k2] using this)
                        clear HPn
                        subst k0 k1
                        clear k2
                        cases b
                        · go_wp2
                          go_roundw
                          case rel => exact ⟨j + 1, G, by rw [HKP.out]; rfl, rfl, by go_num, by omega, by omega, HP2, HB2⟩
                          case measure => simp [intOf] <;> omega
                        · go_wp2_with (go_at_call 12; (with_reducible refine (HCo.out _).mono ?_); rintro e w4 ⟨rfl, b⟩; have HV := Lib.hid (bel_trans HB2.out b); obtain ⟨x0, x1, x2, x3, x4⟩ := HCm.out _ HV.out; obtain ⟨y0, y1, y2, y3, y4⟩ := HCm2.out _ HV.out; simp only at x0 x1 x2 x3 x4 y0 y1 y2 y3 y4; clear b)
                          go_roundw
                          case rel => exact ⟨j + 1, G, by rw [HKP.out]; rfl, rfl, by go_num, by omega, by omega, HP2, HV⟩
                          case measure => simp [intOf] <;> omega
                    · have x5 : (r == 10) = false := by simpa using k1
                      have HP2 := Lib.hid (show G + pc (cs.drop (j + 1 - 1)) = pc cs by have := HPn.out; simpa [isT, k0, k1] using this)
                      clear HPn
                      subst k0
                      clear k1
                      cases b
                      · go_wp2
                        go_roundw
                        case rel => exact ⟨j + 1, G, by rw [HKP.out]; rfl, rfl, by go_num, by omega, by omega, HP2, HB2⟩
                        case measure => simp [intOf] <;> omega
                      · go_wp2_with (go_at_call 12; (with_reducible refine (HCo.out _).mono ?_); rintro e w4 ⟨rfl, b⟩; have HV := Lib.hid (bel_trans HB2.out b); obtain ⟨x0, x1, x2, x3, x4⟩ := HCm.out _ HV.out; obtain ⟨y0, y1, y2, y3, y4⟩ := HCm2.out _ HV.out; simp only at x0 x1 x2 x3 x4 y0 y1 y2 y3 y4; clear b)
                        go_roundw
                        case rel => exact ⟨j + 1, G, by rw [HKP.out]; rfl, rfl, by go_num, by omega, by omega, HP2, HV⟩
                        case measure => simp [intOf] <;> omega
                  · have x5 : (kd == 0) = false := by simpa using k0
                    have HP2 := Lib.hid (show G + pc (cs.drop (j + 1 - 1)) = pc cs by have := HPn.out; simpa [isT, k0] using this)
                    clear HPn k0
                    cases b
                    · go_wp2
                      go_roundw
                      case rel => exact ⟨j + 1, G, by rw [HKP.out]; rfl, rfl, by go_num, by omega, by omega, HP2, HB2⟩
                      case measure => simp [intOf] <;> omega
                    · go_wp2_with (go_at_call 12; (with_reducible refine (HCo.out _).mono ?_); rintro e w4 ⟨rfl, b⟩; have HV := Lib.hid (bel_trans HB2.out b); obtain ⟨x0, x1, x2, x3, x4⟩ := HCm.out _ HV.out; obtain ⟨y0, y1, y2, y3, y4⟩ := HCm2.out _ HV.out; simp only at x0 x1 x2 x3 x4 y0 y1 y2 y3 y4; clear b)
                      go_roundw
                      case rel => exact ⟨j + 1, G, by rw [HKP.out]; rfl, rfl, by go_num, by omega, by omega, HP2, HV⟩
                      case measure => simp [intOf] <;> omega
              · obtain rfl : j = n := by omega
                have g1 : decide ((j : Int) < (j : Int)) = false := decide_eq_false (by omega)
                have hG : G = pc cs := by have := HP.out; rw [pc_end cs j HLC.out] at this; exact this
                have HE := Lib.hid (show kp ss cs j = true → IntKind.i64.wrap ((j : Int) - (G : Int)) = (k : Int) from fun h => by
                  have e := HKe.out h
                  have e3 := HLC.out
                  rw [show (j : Int) - (G : Int) = (k : Int) by omega]
                  exact IntWalk.i64_in _ ⟨by omega, by omega⟩)
                clear hG
                obtain ⟨b, hb⟩ : ∃ b, kp ss cs j = b := ⟨_, rfl⟩
                rw [hb] at HE
                rw [hb]
                clear hb
                have t1 : ((k : Int) == (k : Int)) = true := by simp
                cases b
                · go_wp2_with (go_at_call 9; (with_reducible refine (HH.out _).mono ?_); rintro e w9 ⟨rfl, b⟩; have T6 := Lib.hid (bel_trans HB2.out b); clear b)
                  go_ret
                  exact ⟨rfl, T6.out⟩
                · have wG := HE.out rfl
                  go_wp2_with (go_at_call 9; (with_reducible refine (HH.out _).mono ?_); rintro e w9 ⟨rfl, b⟩; have T6 := Lib.hid (bel_trans HB2.out b); clear b)
                  go_ret
                  exact ⟨rfl, T6.out⟩
      · have hok : okAll ss cs = false := by simpa using hok
        have e1 : ansL ss cs = [] := by unfold ansL; rw [hok]; rfl
        have e2 : ansE ss cs = 2 := by unfold ansE; rw [hok]; rfl
        rw [e1, e2] at HCol
        clear hr hrS q0 hg hlc hls hmd hok e1 e2
        go_enter Try.func5, Try.ntmps5
        go_wp2_with (first
          | (go_at_call 8; (with_reducible refine HG.out.mono ?_); rintro e w1 ⟨rfl, rfl⟩)
          | (go_at_call 19; (with_reducible refine HMd.out.mono ?_); rintro e w2 ⟨rfl, b2⟩; have B2 := Lib.hid b2; clear b2)
          | (go_at_call 10; (with_reducible refine (HCol.out _ B2.out).mono ?_); rintro e w3 ⟨A1, c1, rfl, r1, b1⟩; have B3 := Lib.hid (bel_trans B2.out b1); clear r1 b1)
          | (go_at_call 9; (with_reducible refine (HH.out _).mono ?_); rintro e w9 ⟨rfl, b⟩; have T6 := Lib.hid (bel_trans B3.out b); clear b))
        go_ret
        exact ⟨rfl, T6.out⟩
  · have q0 : greatB n nS = true := by unfold greatB; rcases (show 150 < n ∨ 40 < nS by omega) with h | h <;> simp [h]
    rw [q0] at HG
    clear hr hrS q0 hg
    go_enter Try.func5, Try.ntmps5
    go_wp2_with (first
      | (go_at_call 8; (with_reducible refine HG.out.mono ?_); rintro e w1 ⟨rfl, rfl⟩)
      | (go_at_call 9; (with_reducible refine (HH.out _).mono ?_); rintro e w9 ⟨rfl, b⟩; have T6 := Lib.hid b; clear b))
    go_ret
    exact ⟨rfl, T6.out⟩
end Go.Proofs.Ytmjacmjogckihaa.White

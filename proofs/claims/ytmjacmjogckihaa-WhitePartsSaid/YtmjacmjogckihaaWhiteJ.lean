/- Chapter 8: what stands beside a place, as the reference asks; walked. No condition but bounds. -/
import Derived.Test.YtmjacmjogckihaaWhiteI
import Derived.Test.YtmjacmjogckihaaWhiteB
namespace Go.Proofs.Ytmjacmjogckihaa.White
open Go.RowKit
set_option linter.unusedVariables false
set_option linter.unusedSimpArgs false
theorem cell5_keep {w w' : World} {B : Nat} {a : Addr} {m : Cr} (h : Cell5 w a m) (hb : Below B w w') (ha : a.block < B) : Cell5 w' a m :=
  ⟨(hb.cell ha).trans h.c0, (hb.cell (p := ⟨a.block, a.off + 1, none⟩) ha).trans h.c1, (hb.cell (p := ⟨a.block, a.off + 2, none⟩) ha).trans h.c2, (hb.cell (p := ⟨a.block, a.off + 3, none⟩) ha).trans h.c3, (hb.cell (p := ⟨a.block, a.off + 4, none⟩) ha).trans h.c4⟩
theorem len_cr {w : World} {B n : Nat} {A : Option Addr} {xs : List Cr} (hr : Reads w B 5 A n (crL xs)) : xs.length = n := by have := hr.1; rw [crL_len] at this; omega
/-- Every node has a style. -/
def NodesIn (nS : Nat) (cs : List Cr) : Prop := ∀ c, c ∈ cs → 0 ≤ c.node ∧ c.node < (nS : Int)
theorem NodesIn.at_ {nS : Nat} {cs : List Cr} (h : NodesIn nS cs) {j : Nat} {m : Cr} (hm : cs[j]? = some m) : 0 ≤ m.node ∧ m.node < (nS : Int) := h m (List.mem_of_getElem? hm)
set_option maxHeartbeats 4000000 in
set_option maxRecDepth 20000 in
theorem beside_any (A : Option Addr) (n c : Nat) (cs : List Cr) (AS : Option Addr) (nS cS : Nat) (ss : List St) (j : Nat) (hj : j < n) (hn : n ≤ 1000000000) (hI : NodesIn nS cs) (w : World) (hr : Reads w w.heap.size 5 A n (crL cs)) (hrS : Reads w w.heap.size 9 AS nS (stL ss)) :
    Calls Try.prog 61 #[.slice A n c, .slice AS nS cS, .int .i64 j] w fun e w' => e = .returned (.bool (hd (((cs.take j).reverse).dropWhile (whC ss)) enC || hd ((cs.drop (j + 1)).dropWhile (whC ss)) enC)) ∧ Below w.heap.size w w' := by
  have HL := Lib.hid (len_cr hr)
  obtain ⟨ad, _, rfl, hbA, _, _⟩ := reads_cr hr hj
  have HR := Lib.hid (fun (i : Nat) (hi : i < n) => (by obtain ⟨ad', m, e, _, hm, hc⟩ := reads_cr hr hi; injection e with e; subst e; exact ⟨m, hm, fun (V : World) (hV : Below w.heap.size w V) => cell5_keep hc hV (by rw [block_of_add]; exact hbA)⟩ : ∃ m, cs[i]? = some m ∧ ∀ V, Below w.heap.size w V → Cell5 V (ad.add (i * 5)) m))
  have HP := Lib.hid (fun (i : Nat) (m : Cr) (hm : cs[i]? = some m) (V : World) (hV : Below w.heap.size w V) => rwhite_any m AS nS cS ss (hI.at_ hm).1 (hI.at_ hm).2 V ((hrS.below hV).more hV.size))
  have HEn := Lib.hid (fun (m : Cr) (V : World) => End_any m V)
  obtain ⟨LL, hLL⟩ : ∃ LL, (cs.take j).reverse = LL := ⟨_, rfl⟩
  obtain ⟨RR, hRR⟩ : ∃ RR, cs.drop (j + 1) = RR := ⟨_, rfl⟩
  have HLL := Lib.hid hLL
  have HRR := Lib.hid hRR
  rw [hLL, hRR]
  have nn : (n : Int) ≤ 1000000000 := by omega
  have jj : (j : Int) < (n : Int) := by omega
  clear hr hrS hI hLL hRR
  go_enter Try.func61, Try.ntmps61
  go_wp2_with (fail)
  go_loopw [7] (fun i wr => ∃ q : Int, i = .int .i64 q ∧ -1 ≤ q ∧ q ≤ (j : Int) - 1 ∧ Hid (LL.dropWhile (whC ss) = (cs.take (q + 1).toNat).reverse.dropWhile (whC ss)) ∧ Hid (Below w.heap.size w wr)) (fun i _ => (intOf i + 1).toNat)
  case atStart => exact ⟨(j : Int) - 1, by go_num, by omega, by omega, Lib.hid (by rw [← HLL.out, show ((j : Int) - 1 + 1).toNat = j by omega]), Lib.hid (Below.refl _ _)⟩
  case round =>
    obtain ⟨q, rfl, q0, q1, HD, HB⟩ := hrel
    by_cases h0 : 0 ≤ q
    · have g0 : decide (0 ≤ q) = true := decide_eq_true h0
      obtain ⟨k, rfl⟩ : ∃ k : Nat, q = k := ⟨q.toNat, by omega⟩
      obtain ⟨m, hm, hC⟩ := HR.out k (by omega)
      have i1 : (k : Int) < (n : Int) := by omega
      have HS := Lib.hid (rev_step cs k m hm)
      have HE : Hid (((k : Int) + 1).toNat = k + 1) := Lib.hid (by omega)
      have HF := Lib.hid (fun V hV => HP.out k m hm V hV)
      have HCC := Lib.hid hC
      rw [HE.out, HS.out, dw_cons] at HD
      obtain ⟨b, hb'⟩ : ∃ b, (whC ss) m = b := ⟨_, rfl⟩
      rw [hb'] at HD
      rw [show whC ss m = b from hb'] at HF
      have wj : IntKind.i64.wrap ((k : Int) - 1) = (k : Int) - 1 := IntWalk.i64_in _ ⟨by omega, by omega⟩
      obtain ⟨c0, c1, c2, c3, c4⟩ := hC _ HB.out
      clear hm hb' HS hC
      cases b with
      | true =>
        have HD2 := Lib.hid (show LL.dropWhile (whC ss) = (cs.take k).reverse.dropWhile (whC ss) by have := HD.out; rwa [if_pos rfl] at this)
        go_wp2_with (go_at_call 55; (with_reducible refine (HF.out _ HB.out).mono ?_); rintro e w1 ⟨rfl, b1⟩; have B1 := Lib.hid (bel_trans HB.out b1); clear b1)
        go_roundw
        case rel => exact ⟨(k : Int) - 1, by go_num, by omega, by omega, Lib.hid (by rw [show ((k : Int) - 1 + 1).toNat = k by omega]; exact HD2.out), B1⟩
        case measure => simp [intOf] <;> omega
      | false =>
        have HX := Lib.hid (show hd (LL.dropWhile (whC ss)) enC = enC m by have := HD.out; rw [if_neg (by simp)] at this; rw [this]; rfl)
        go_wp2_with (go_at_call 55; (with_reducible refine (HF.out _ HB.out).mono ?_); rintro e w1 ⟨rfl, b1⟩; have B1 := Lib.hid (bel_trans HB.out b1); clear b1)
        clear c0 c1 c2 c3 c4 HF
        have HEx := Lib.hid (fun V => HEn.out m V)
        generalize enC m = ex at HX HEx
        go_loopw [8] (fun i wr => ∃ k2 : Nat, i = .int .i64 k2 ∧ k2 ≤ n ∧ Hid (RR.dropWhile (whC ss) = (cs.drop k2).dropWhile (whC ss)) ∧ Hid (Below w.heap.size w wr)) (fun i _ => n - (intOf i).toNat)
        case atStart => exact ⟨j + 1, by go_num, by omega, Lib.hid (by rw [← HRR.out]), B1⟩
        case round =>
          obtain ⟨k2, rfl, hk2, HD', HB'⟩ := hrel
          by_cases h1 : k2 < n
          · have g1 : decide ((k2 : Int) < (n : Int)) = true := decide_eq_true (by omega)
            obtain ⟨m2, hm2, hC2⟩ := HR.out k2 h1
            have i2 : (k2 : Int) < (n : Int) := by omega
            have HS2 := Lib.hid (drop_step cs k2 m2 hm2)
            have HF2 := Lib.hid (fun V hV => HP.out k2 m2 hm2 V hV)
            have HCC2 := Lib.hid hC2
            rw [HS2.out, dw_cons] at HD'
            obtain ⟨b2, hb2'⟩ : ∃ b2, (whC ss) m2 = b2 := ⟨_, rfl⟩
            rw [hb2'] at HD'
            rw [show whC ss m2 = b2 from hb2'] at HF2
            obtain ⟨d0, d1, d2, d3, d4⟩ := hC2 _ HB'.out
            clear hm2 hb2' HS2 hC2
            cases b2 with
            | true =>
              have HD2' := Lib.hid (show RR.dropWhile (whC ss) = (cs.drop (k2 + 1)).dropWhile (whC ss) by have := HD'.out; rwa [if_pos rfl] at this)
              go_wp2_with (go_at_call 55; (with_reducible refine (HF2.out _ HB'.out).mono ?_); rintro e w2 ⟨rfl, b1⟩; have B2 := Lib.hid (bel_trans HB'.out b1); clear b1)
              go_roundw
              case rel => exact ⟨k2 + 1, by go_num, by omega, HD2', B2⟩
              case measure => simp [intOf] <;> omega
            | false =>
              have HY := Lib.hid (show hd (RR.dropWhile (whC ss)) enC = enC m2 by have := HD'.out; rw [if_neg (by simp)] at this; rw [this]; rfl)
              have HE1 := Lib.hid (fun V => HEx.out V)
              have HE2 := Lib.hid (fun V => HEn.out m2 V)
              generalize enC m2 = ey at HY HE2
              cases ex
              · go_wp2_with (first
                  | (go_at_call 55; (with_reducible refine (HF2.out _ HB'.out).mono ?_); rintro e w2 ⟨rfl, b1⟩; have B2 := Lib.hid (bel_trans HB'.out b1); obtain ⟨x0, x1, x2, x3, x4⟩ := HCC.out _ B2.out; clear b1)
                  | (go_at_call 59; (with_reducible refine (HE1.out _).mono ?_); rintro e w3 ⟨rfl, b1⟩; have B3 := Lib.hid (bel_trans B2.out b1); obtain ⟨y0, y1, y2, y3, y4⟩ := HCC2.out _ B3.out; clear b1)
                  | (go_at_call 59; (with_reducible refine (HE2.out _).mono ?_); rintro e w4 ⟨rfl, b1⟩; have B4 := Lib.hid (bel_trans B3.out b1); clear b1))
                go_ret
                exact ⟨by rw [HX.out, HY.out]; rfl, B4.out⟩
              · go_wp2_with (first
                  | (go_at_call 55; (with_reducible refine (HF2.out _ HB'.out).mono ?_); rintro e w2 ⟨rfl, b1⟩; have B2 := Lib.hid (bel_trans HB'.out b1); obtain ⟨x0, x1, x2, x3, x4⟩ := HCC.out _ B2.out; clear b1)
                  | (go_at_call 59; (with_reducible refine (HE1.out _).mono ?_); rintro e w3 ⟨rfl, b1⟩; have B3 := Lib.hid (bel_trans B2.out b1); skip; clear b1))
                go_ret
                exact ⟨by rw [HX.out, HY.out]; rfl, B3.out⟩
          · have g1 : decide ((k2 : Int) < (n : Int)) = false := decide_eq_false (by omega)
            have HY := Lib.hid (show hd (RR.dropWhile (whC ss)) enC = false by
              rw [HD'.out, List.drop_of_length_le (by rw [HL.out]; omega)]
              rfl)
            have HE1 := Lib.hid (fun V => HEx.out V)
            obtain ⟨x0, x1, x2, x3, x4⟩ := HCC.out _ HB'.out
            cases ex
            · go_wp2_with ((go_at_call 59; (with_reducible refine (HE1.out _).mono ?_); rintro e w3 ⟨rfl, b1⟩; have B3 := Lib.hid (bel_trans HB'.out b1); skip; clear b1))
              go_ret
              exact ⟨by rw [HX.out, HY.out]; rfl, B3.out⟩
            · go_wp2_with ((go_at_call 59; (with_reducible refine (HE1.out _).mono ?_); rintro e w3 ⟨rfl, b1⟩; have B3 := Lib.hid (bel_trans HB'.out b1); skip; clear b1))
              go_ret
              exact ⟨by rw [HX.out, HY.out]; rfl, B3.out⟩
    · have g0 : decide (0 ≤ q) = false := decide_eq_false h0
      have HX := Lib.hid (show hd (LL.dropWhile (whC ss)) enC = false by
        rw [HD.out, show (q + 1).toNat = 0 by omega]
        rfl)
      obtain ⟨Wq, hWq⟩ : ∃ Wq, Wq = wr := ⟨_, rfl⟩
      subst hWq
      have B1 := HB
      go_wp2_with (fail)
      go_loopw [8] (fun i wr => ∃ k2 : Nat, i = .int .i64 k2 ∧ k2 ≤ n ∧ Hid (RR.dropWhile (whC ss) = (cs.drop k2).dropWhile (whC ss)) ∧ Hid (Below w.heap.size w wr)) (fun i _ => n - (intOf i).toNat)
      case atStart => exact ⟨j + 1, by go_num, by omega, Lib.hid (by rw [← HRR.out]), B1⟩
      case round =>
        obtain ⟨k2, rfl, hk2, HD', HB'⟩ := hrel
        by_cases h1 : k2 < n
        · have g1 : decide ((k2 : Int) < (n : Int)) = true := decide_eq_true (by omega)
          obtain ⟨m2, hm2, hC2⟩ := HR.out k2 h1
          have i2 : (k2 : Int) < (n : Int) := by omega
          have HS2 := Lib.hid (drop_step cs k2 m2 hm2)
          have HF2 := Lib.hid (fun V hV => HP.out k2 m2 hm2 V hV)
          have HCC2 := Lib.hid hC2
          rw [HS2.out, dw_cons] at HD'
          obtain ⟨b2, hb2'⟩ : ∃ b2, (whC ss) m2 = b2 := ⟨_, rfl⟩
          rw [hb2'] at HD'
          rw [show whC ss m2 = b2 from hb2'] at HF2
          obtain ⟨d0, d1, d2, d3, d4⟩ := hC2 _ HB'.out
          clear hm2 hb2' HS2 hC2
          cases b2 with
          | true =>
            have HD2' := Lib.hid (show RR.dropWhile (whC ss) = (cs.drop (k2 + 1)).dropWhile (whC ss) by have := HD'.out; rwa [if_pos rfl] at this)
            go_wp2_with (go_at_call 55; (with_reducible refine (HF2.out _ HB'.out).mono ?_); rintro e w2 ⟨rfl, b1⟩; have B2 := Lib.hid (bel_trans HB'.out b1); clear b1)
            go_roundw
            case rel => exact ⟨k2 + 1, by go_num, by omega, HD2', B2⟩
            case measure => simp [intOf] <;> omega
          | false =>
            have HY := Lib.hid (show hd (RR.dropWhile (whC ss)) enC = enC m2 by have := HD'.out; rw [if_neg (by simp)] at this; rw [this]; rfl)
            have HE2 := Lib.hid (fun V => HEn.out m2 V)
            generalize enC m2 = ey at HY HE2
            go_wp2_with (first
              | (go_at_call 55; (with_reducible refine (HF2.out _ HB'.out).mono ?_); rintro e w2 ⟨rfl, b1⟩; have B2 := Lib.hid (bel_trans HB'.out b1); obtain ⟨y0, y1, y2, y3, y4⟩ := HCC2.out _ B2.out; clear b1)
              | (go_at_call 59; (with_reducible refine (HE2.out _).mono ?_); rintro e w4 ⟨rfl, b1⟩; have B4 := Lib.hid (bel_trans B2.out b1); clear b1))
            go_ret
            exact ⟨by rw [HX.out, HY.out]; rfl, B4.out⟩
        · have g1 : decide ((k2 : Int) < (n : Int)) = false := decide_eq_false (by omega)
          have HY := Lib.hid (show hd (RR.dropWhile (whC ss)) enC = false by
            rw [HD'.out, List.drop_of_length_le (by rw [HL.out]; omega)]
            rfl)
          go_wp2
          go_ret
          exact ⟨by rw [HX.out, HY.out]; rfl, HB'.out⟩
set_option maxHeartbeats 4000000 in
set_option maxRecDepth 20000 in
theorem hard_any (A : Option Addr) (n c : Nat) (cs : List Cr) (AS : Option Addr) (nS cS : Nat) (ss : List St) (j : Nat) (hj : j < n) (hn : n ≤ 1000000000) (hI : NodesIn nS cs) (w : World) (hr : Reads w w.heap.size 5 A n (crL cs)) (hrS : Reads w w.heap.size 9 AS nS (stL ss)) :
    Calls Try.prog 60 #[.slice A n c, .slice AS nS cS, .int .i64 j] w fun e w' => e = .returned (.bool (hd (((cs.take (j + 1)).reverse).dropWhile (sfC ss)) enC || hd ((cs.drop j).dropWhile (sfC ss)) enC)) ∧ Below w.heap.size w w' := by
  have HL := Lib.hid (len_cr hr)
  obtain ⟨ad, _, rfl, hbA, _, _⟩ := reads_cr hr hj
  have HR := Lib.hid (fun (i : Nat) (hi : i < n) => (by obtain ⟨ad', m, e, _, hm, hc⟩ := reads_cr hr hi; injection e with e; subst e; exact ⟨m, hm, fun (V : World) (hV : Below w.heap.size w V) => cell5_keep hc hV (by rw [block_of_add]; exact hbA)⟩ : ∃ m, cs[i]? = some m ∧ ∀ V, Below w.heap.size w V → Cell5 V (ad.add (i * 5)) m))
  have HP := Lib.hid (fun (i : Nat) (m : Cr) (hm : cs[i]? = some m) (V : World) (hV : Below w.heap.size w V) => rsoft_any m AS nS cS ss (hI.at_ hm).1 (hI.at_ hm).2 V ((hrS.below hV).more hV.size))
  have HEn := Lib.hid (fun (m : Cr) (V : World) => End_any m V)
  obtain ⟨LL, hLL⟩ : ∃ LL, (cs.take (j + 1)).reverse = LL := ⟨_, rfl⟩
  obtain ⟨RR, hRR⟩ : ∃ RR, cs.drop j = RR := ⟨_, rfl⟩
  have HLL := Lib.hid hLL
  have HRR := Lib.hid hRR
  rw [hLL, hRR]
  have nn : (n : Int) ≤ 1000000000 := by omega
  have jj : (j : Int) < (n : Int) := by omega
  clear hr hrS hI hLL hRR
  go_enter Try.func60, Try.ntmps60
  go_wp2_with (fail)
  go_loopw [7] (fun i wr => ∃ q : Int, i = .int .i64 q ∧ -1 ≤ q ∧ q ≤ (j : Int) ∧ Hid (LL.dropWhile (sfC ss) = (cs.take (q + 1).toNat).reverse.dropWhile (sfC ss)) ∧ Hid (Below w.heap.size w wr)) (fun i _ => (intOf i + 1).toNat)
  case atStart => exact ⟨(j : Int), by go_num, by omega, by omega, Lib.hid (by rw [← HLL.out, show ((j : Int) + 1).toNat = j + 1 by omega]), Lib.hid (Below.refl _ _)⟩
  case round =>
    obtain ⟨q, rfl, q0, q1, HD, HB⟩ := hrel
    by_cases h0 : 0 ≤ q
    · have g0 : decide (0 ≤ q) = true := decide_eq_true h0
      obtain ⟨k, rfl⟩ : ∃ k : Nat, q = k := ⟨q.toNat, by omega⟩
      obtain ⟨m, hm, hC⟩ := HR.out k (by omega)
      have i1 : (k : Int) < (n : Int) := by omega
      have HS := Lib.hid (rev_step cs k m hm)
      have HE : Hid (((k : Int) + 1).toNat = k + 1) := Lib.hid (by omega)
      have HF := Lib.hid (fun V hV => HP.out k m hm V hV)
      have HCC := Lib.hid hC
      rw [HE.out, HS.out, dw_cons] at HD
      obtain ⟨b, hb'⟩ : ∃ b, (sfC ss) m = b := ⟨_, rfl⟩
      rw [hb'] at HD
      rw [show sfC ss m = b from hb'] at HF
      have wj : IntKind.i64.wrap ((k : Int) - 1) = (k : Int) - 1 := IntWalk.i64_in _ ⟨by omega, by omega⟩
      obtain ⟨c0, c1, c2, c3, c4⟩ := hC _ HB.out
      clear hm hb' HS hC
      cases b with
      | true =>
        have HD2 := Lib.hid (show LL.dropWhile (sfC ss) = (cs.take k).reverse.dropWhile (sfC ss) by have := HD.out; rwa [if_pos rfl] at this)
        go_wp2_with (go_at_call 57; (with_reducible refine (HF.out _ HB.out).mono ?_); rintro e w1 ⟨rfl, b1⟩; have B1 := Lib.hid (bel_trans HB.out b1); clear b1)
        go_roundw
        case rel => exact ⟨(k : Int) - 1, by go_num, by omega, by omega, Lib.hid (by rw [show ((k : Int) - 1 + 1).toNat = k by omega]; exact HD2.out), B1⟩
        case measure => simp [intOf] <;> omega
      | false =>
        have HX := Lib.hid (show hd (LL.dropWhile (sfC ss)) enC = enC m by have := HD.out; rw [if_neg (by simp)] at this; rw [this]; rfl)
        go_wp2_with (go_at_call 57; (with_reducible refine (HF.out _ HB.out).mono ?_); rintro e w1 ⟨rfl, b1⟩; have B1 := Lib.hid (bel_trans HB.out b1); clear b1)
        clear c0 c1 c2 c3 c4 HF
        have HEx := Lib.hid (fun V => HEn.out m V)
        generalize enC m = ex at HX HEx
        go_loopw [8] (fun i wr => ∃ k2 : Nat, i = .int .i64 k2 ∧ k2 ≤ n ∧ Hid (RR.dropWhile (sfC ss) = (cs.drop k2).dropWhile (sfC ss)) ∧ Hid (Below w.heap.size w wr)) (fun i _ => n - (intOf i).toNat)
        case atStart => exact ⟨j, by go_num, by omega, Lib.hid (by rw [← HRR.out]), B1⟩
        case round =>
          obtain ⟨k2, rfl, hk2, HD', HB'⟩ := hrel
          by_cases h1 : k2 < n
          · have g1 : decide ((k2 : Int) < (n : Int)) = true := decide_eq_true (by omega)
            obtain ⟨m2, hm2, hC2⟩ := HR.out k2 h1
            have i2 : (k2 : Int) < (n : Int) := by omega
            have HS2 := Lib.hid (drop_step cs k2 m2 hm2)
            have HF2 := Lib.hid (fun V hV => HP.out k2 m2 hm2 V hV)
            have HCC2 := Lib.hid hC2
            rw [HS2.out, dw_cons] at HD'
            obtain ⟨b2, hb2'⟩ : ∃ b2, (sfC ss) m2 = b2 := ⟨_, rfl⟩
            rw [hb2'] at HD'
            rw [show sfC ss m2 = b2 from hb2'] at HF2
            obtain ⟨d0, d1, d2, d3, d4⟩ := hC2 _ HB'.out
            clear hm2 hb2' HS2 hC2
            cases b2 with
            | true =>
              have HD2' := Lib.hid (show RR.dropWhile (sfC ss) = (cs.drop (k2 + 1)).dropWhile (sfC ss) by have := HD'.out; rwa [if_pos rfl] at this)
              go_wp2_with (go_at_call 57; (with_reducible refine (HF2.out _ HB'.out).mono ?_); rintro e w2 ⟨rfl, b1⟩; have B2 := Lib.hid (bel_trans HB'.out b1); clear b1)
              go_roundw
              case rel => exact ⟨k2 + 1, by go_num, by omega, HD2', B2⟩
              case measure => simp [intOf] <;> omega
            | false =>
              have HY := Lib.hid (show hd (RR.dropWhile (sfC ss)) enC = enC m2 by have := HD'.out; rw [if_neg (by simp)] at this; rw [this]; rfl)
              have HE1 := Lib.hid (fun V => HEx.out V)
              have HE2 := Lib.hid (fun V => HEn.out m2 V)
              generalize enC m2 = ey at HY HE2
              cases ex
              · go_wp2_with (first
                  | (go_at_call 57; (with_reducible refine (HF2.out _ HB'.out).mono ?_); rintro e w2 ⟨rfl, b1⟩; have B2 := Lib.hid (bel_trans HB'.out b1); obtain ⟨x0, x1, x2, x3, x4⟩ := HCC.out _ B2.out; clear b1)
                  | (go_at_call 59; (with_reducible refine (HE1.out _).mono ?_); rintro e w3 ⟨rfl, b1⟩; have B3 := Lib.hid (bel_trans B2.out b1); obtain ⟨y0, y1, y2, y3, y4⟩ := HCC2.out _ B3.out; clear b1)
                  | (go_at_call 59; (with_reducible refine (HE2.out _).mono ?_); rintro e w4 ⟨rfl, b1⟩; have B4 := Lib.hid (bel_trans B3.out b1); clear b1))
                go_ret
                exact ⟨by rw [HX.out, HY.out]; rfl, B4.out⟩
              · go_wp2_with (first
                  | (go_at_call 57; (with_reducible refine (HF2.out _ HB'.out).mono ?_); rintro e w2 ⟨rfl, b1⟩; have B2 := Lib.hid (bel_trans HB'.out b1); obtain ⟨x0, x1, x2, x3, x4⟩ := HCC.out _ B2.out; clear b1)
                  | (go_at_call 59; (with_reducible refine (HE1.out _).mono ?_); rintro e w3 ⟨rfl, b1⟩; have B3 := Lib.hid (bel_trans B2.out b1); skip; clear b1))
                go_ret
                exact ⟨by rw [HX.out, HY.out]; rfl, B3.out⟩
          · have g1 : decide ((k2 : Int) < (n : Int)) = false := decide_eq_false (by omega)
            have HY := Lib.hid (show hd (RR.dropWhile (sfC ss)) enC = false by
              rw [HD'.out, List.drop_of_length_le (by rw [HL.out]; omega)]
              rfl)
            have HE1 := Lib.hid (fun V => HEx.out V)
            obtain ⟨x0, x1, x2, x3, x4⟩ := HCC.out _ HB'.out
            cases ex
            · go_wp2_with ((go_at_call 59; (with_reducible refine (HE1.out _).mono ?_); rintro e w3 ⟨rfl, b1⟩; have B3 := Lib.hid (bel_trans HB'.out b1); skip; clear b1))
              go_ret
              exact ⟨by rw [HX.out, HY.out]; rfl, B3.out⟩
            · go_wp2_with ((go_at_call 59; (with_reducible refine (HE1.out _).mono ?_); rintro e w3 ⟨rfl, b1⟩; have B3 := Lib.hid (bel_trans HB'.out b1); skip; clear b1))
              go_ret
              exact ⟨by rw [HX.out, HY.out]; rfl, B3.out⟩
    · have g0 : decide (0 ≤ q) = false := decide_eq_false h0
      have HX := Lib.hid (show hd (LL.dropWhile (sfC ss)) enC = false by
        rw [HD.out, show (q + 1).toNat = 0 by omega]
        rfl)
      obtain ⟨Wq, hWq⟩ : ∃ Wq, Wq = wr := ⟨_, rfl⟩
      subst hWq
      have B1 := HB
      go_wp2_with (fail)
      go_loopw [8] (fun i wr => ∃ k2 : Nat, i = .int .i64 k2 ∧ k2 ≤ n ∧ Hid (RR.dropWhile (sfC ss) = (cs.drop k2).dropWhile (sfC ss)) ∧ Hid (Below w.heap.size w wr)) (fun i _ => n - (intOf i).toNat)
      case atStart => exact ⟨j, by go_num, by omega, Lib.hid (by rw [← HRR.out]), B1⟩
      case round =>
        obtain ⟨k2, rfl, hk2, HD', HB'⟩ := hrel
        by_cases h1 : k2 < n
        · have g1 : decide ((k2 : Int) < (n : Int)) = true := decide_eq_true (by omega)
          obtain ⟨m2, hm2, hC2⟩ := HR.out k2 h1
          have i2 : (k2 : Int) < (n : Int) := by omega
          have HS2 := Lib.hid (drop_step cs k2 m2 hm2)
          have HF2 := Lib.hid (fun V hV => HP.out k2 m2 hm2 V hV)
          have HCC2 := Lib.hid hC2
          rw [HS2.out, dw_cons] at HD'
          obtain ⟨b2, hb2'⟩ : ∃ b2, (sfC ss) m2 = b2 := ⟨_, rfl⟩
          rw [hb2'] at HD'
          rw [show sfC ss m2 = b2 from hb2'] at HF2
          obtain ⟨d0, d1, d2, d3, d4⟩ := hC2 _ HB'.out
          clear hm2 hb2' HS2 hC2
          cases b2 with
          | true =>
            have HD2' := Lib.hid (show RR.dropWhile (sfC ss) = (cs.drop (k2 + 1)).dropWhile (sfC ss) by have := HD'.out; rwa [if_pos rfl] at this)
            go_wp2_with (go_at_call 57; (with_reducible refine (HF2.out _ HB'.out).mono ?_); rintro e w2 ⟨rfl, b1⟩; have B2 := Lib.hid (bel_trans HB'.out b1); clear b1)
            go_roundw
            case rel => exact ⟨k2 + 1, by go_num, by omega, HD2', B2⟩
            case measure => simp [intOf] <;> omega
          | false =>
            have HY := Lib.hid (show hd (RR.dropWhile (sfC ss)) enC = enC m2 by have := HD'.out; rw [if_neg (by simp)] at this; rw [this]; rfl)
            have HE2 := Lib.hid (fun V => HEn.out m2 V)
            generalize enC m2 = ey at HY HE2
            go_wp2_with (first
              | (go_at_call 57; (with_reducible refine (HF2.out _ HB'.out).mono ?_); rintro e w2 ⟨rfl, b1⟩; have B2 := Lib.hid (bel_trans HB'.out b1); obtain ⟨y0, y1, y2, y3, y4⟩ := HCC2.out _ B2.out; clear b1)
              | (go_at_call 59; (with_reducible refine (HE2.out _).mono ?_); rintro e w4 ⟨rfl, b1⟩; have B4 := Lib.hid (bel_trans B2.out b1); clear b1))
            go_ret
            exact ⟨by rw [HX.out, HY.out]; rfl, B4.out⟩
        · have g1 : decide ((k2 : Int) < (n : Int)) = false := decide_eq_false (by omega)
          have HY := Lib.hid (show hd (RR.dropWhile (sfC ss)) enC = false by
            rw [HD'.out, List.drop_of_length_le (by rw [HL.out]; omega)]
            rfl)
          go_wp2
          go_ret
          exact ⟨by rw [HX.out, HY.out]; rfl, HB'.out⟩
end Go.Proofs.Ytmjacmjogckihaa.White

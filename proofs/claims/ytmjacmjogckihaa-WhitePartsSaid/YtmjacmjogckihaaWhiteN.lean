/- Chapter 8: the reference's steps over a list that turn characters, walked. No condition but bounds. -/
import Derived.Test.YtmjacmjogckihaaWhiteM
namespace Go.Proofs.Ytmjacmjogckihaa.White
open Go.RowKit
set_option linter.unusedVariables false
set_option linter.unusedSimpArgs false
theorem reads_one5b (w : World) (t : TypeId) (m : Cr) (B : Nat) (hB : w.heap.size = B) : ∀ j v, (crC m)[j]? = some v → (w.alloc (.cells (crC m).toArray t)).cell? ((⟨B, 0, none⟩ : Addr).add j) = some v := by
  subst hB
  exact reads_one5r w t m
set_option maxHeartbeats 8000000 in
set_option maxRecDepth 20000 in
theorem turned_any (A : Option Addr) (n c : Nat) (cs : List Cr) (AS : Option Addr) (nS cS : Nat) (ss : List St) (hn : n ≤ 1000000000) (hI : NodesIn nS cs) (w : World) (hr : Reads w w.heap.size 5 A n (crL cs)) (hrS : Reads w w.heap.size 9 AS nS (stL ss)) :
    Calls Try.prog 28 #[.slice A n c, .slice AS nS cS] w fun e w' => ∃ v, e = .returned v ∧ w'.ownsRow w.heap.size 38 5 v ((filterZ (q4 ss) [] cs).map (u4 ss)).length (crL ((filterZ (q4 ss) [] cs).map (u4 ss))) ∧ Below w.heap.size w w' := by
  have HL := Lib.hid (len_cr hr)
  have HR := Lib.hid hr
  obtain ⟨j0, hj, hy0, hy1, hy2⟩ := info_parts infoCr2
  obtain ⟨S, hS⟩ : ∃ S, (filterZ (q4 ss) [] cs).map (u4 ss) = S := ⟨_, rfl⟩
  have HS := Lib.hid hS
  have nn : (n : Int) ≤ 1000000000 := by omega
  rw [hS]
  clear hr hS
  go_enter Try.func28, Try.ntmps28
  go_wp2_with (fail)
  go_loopw [5, 6, 7] (fun o i b wr => ∃ (k : Nat) (pre : List Cr) (A0 : Option Addr) (c0' : Nat), i = .int .i64 k ∧ o = .slice A0 pre.length c0' ∧ k ≤ n ∧ pre.length ≤ k ∧ Hid (S = pre ++ (filterZ (q4 ss) (cs.take k).reverse (cs.drop k)).map (u4 ss)) ∧ Hid (wr.ownsRow w.heap.size 38 5 (.slice A0 pre.length c0') pre.length (crL pre)) ∧ Hid (Below w.heap.size w wr)) (fun o i b _ => n - (intOf i).toNat)
  case atStart => exact ⟨0, [], none, 0, rfl, rfl, by omega, Nat.le_refl _, Lib.hid (by rw [← HS.out, List.drop_zero]; rfl), Lib.hid (own_nil _ _ _ _), Lib.hid (Below.refl _ _)⟩
  case round =>
    obtain ⟨k, pre, A0, c0', rfl, rfl, hk, hpk, HP, HO, HB⟩ := hrel
    by_cases hlt : k < n
    · have g1 : decide ((k : Int) < (n : Int)) = true := decide_eq_true (by omega)
      have g2 : (k : Int) < (n : Int) := by omega
      have g3 : (0 : Int) ≤ (k : Int) := by omega
      have lp : (pre.length : Int) ≤ 1000000000 := by omega
      obtain ⟨ad, _, rfl, _, _, _⟩ := reads_cr HR.out hlt
      obtain ⟨m, hm, hC⟩ := cellsAt HR.out hlt
      have HSP := Lib.hid (fun (r : Bool) (hr : (q4 ss) (cs.take k).reverse m (cs.drop (k + 1)) = r) => spec_step _ (u4 ss) cs k m S pre r hm HP.out hr)
      obtain ⟨c0, c1, c2, c3, c4⟩ := hC _ HB.out
      have HWB := Lib.hid (bel_alloc (Below.refl wr.heap.size wr) (.cells #[.int .i32 m.r, .int .i64 m.node, .int .i64 m.p, .int .i64 m.n, .int .u8 m.kind] 38))
      have HOB := Lib.hid (HO.out.alloc (.cells #[.int .i32 m.r, .int .i64 m.node, .int .i64 m.p, .int .i64 m.n, .int .u8 m.kind] 38))
      have HKX := Lib.hid (fun (V : World) (hV : Below (wr.alloc (.cells #[.int .i32 m.r, .int .i64 m.node, .int .i64 m.p, .int .i64 m.n, .int .u8 m.kind] 38)).heap.size (wr.alloc (.cells #[.int .i32 m.r, .int .i64 m.node, .int .i64 m.p, .int .i64 m.n, .int .u8 m.kind] 38)) V) => (Blk.new wr 38 #[.int .i32 m.r, .int .i64 m.node, .int .i64 m.p, .int .i64 m.n, .int .u8 m.kind]).keep hV)
      have HNE := Lib.hid (own_not_new HO.out)
      have HLE := Lib.hid (show w.heap.size ≤ wr.heap.size from HB.out.size)
      have HBW := Lib.hid (bel_alloc HB.out (.cells #[.int .i32 m.r, .int .i64 m.node, .int .i64 m.p, .int .i64 m.n, .int .u8 m.kind] 38))
      have R0 := Lib.hid (Below.refl (wr.alloc (.cells #[.int .i32 m.r, .int .i64 m.node, .int .i64 m.p, .int .i64 m.n, .int .u8 m.kind] 38)).heap.size (wr.alloc (.cells #[.int .i32 m.r, .int .i64 m.node, .int .i64 m.p, .int .i64 m.n, .int .u8 m.kind] 38)))
      have HTo := Lib.hid (fun (V : World) (hV : Below (wr.alloc (.cells #[.int .i32 m.r, .int .i64 m.node, .int .i64 m.p, .int .i64 m.n, .int .u8 m.kind] 38)).heap.size (wr.alloc (.cells #[.int .i32 m.r, .int .i64 m.node, .int .i64 m.p, .int .i64 m.n, .int .u8 m.kind] 38)) V) => bel_trans HBW.out hV)
      have HWh := Lib.hid (fun (i : Nat) (m' : Cr) (hm : cs[i]? = some m') (V : World) (hV : Below (wr.alloc (.cells #[.int .i32 m.r, .int .i64 m.node, .int .i64 m.p, .int .i64 m.n, .int .u8 m.kind] 38)).heap.size (wr.alloc (.cells #[.int .i32 m.r, .int .i64 m.node, .int .i64 m.p, .int .i64 m.n, .int .u8 m.kind] 38)) V) => rwhite_any m' AS nS cS ss (hI.at_ hm).1 (hI.at_ hm).2 V ((hrS.below (HTo.out V hV)).more (HTo.out V hV).size))
      have HSo := Lib.hid (fun (i : Nat) (m' : Cr) (hm : cs[i]? = some m') (V : World) (hV : Below (wr.alloc (.cells #[.int .i32 m.r, .int .i64 m.node, .int .i64 m.p, .int .i64 m.n, .int .u8 m.kind] 38)).heap.size (wr.alloc (.cells #[.int .i32 m.r, .int .i64 m.node, .int .i64 m.p, .int .i64 m.n, .int .u8 m.kind] 38)) V) => rsoft_any m' AS nS cS ss (hI.at_ hm).1 (hI.at_ hm).2 V ((hrS.below (HTo.out V hV)).more (HTo.out V hV).size))
      have HM := Lib.hid hm
      clear hm hC
      have H1 := Lib.hid (fun V hV => HSo.out k m HM.out V hV)
      have H2 := Lib.hid (fun (V : World) (hV : Below (wr.alloc (.cells #[.int .i32 m.r, .int .i64 m.node, .int .i64 m.p, .int .i64 m.n, .int .u8 m.kind] 38)).heap.size (wr.alloc (.cells #[.int .i32 m.r, .int .i64 m.node, .int .i64 m.p, .int .i64 m.n, .int .u8 m.kind] 38)) V) => goes_any (some ad) n c cs k hlt hn V ((HR.out.below (HTo.out V hV)).more (HTo.out V hV).size))
      have H3 := Lib.hid (fun V => End_any m V)
      have H4 := Lib.hid (fun V hV => HWh.out k m HM.out V hV)
      obtain ⟨a, ha⟩ : ∃ a, sfC ss m = a := ⟨_, rfl⟩
      rw [ha] at H1
      have HA := Lib.hid ha
      clear ha
      obtain ⟨g, hg⟩ : ∃ g, goB (cs.take k).reverse (cs.drop (k + 1)) = g := ⟨_, rfl⟩
      rw [hg] at H2
      have HG := Lib.hid hg
      clear hg
      obtain ⟨e1, he1⟩ : ∃ e1, enC m = e1 := ⟨_, rfl⟩
      rw [he1] at H3
      have HE1 := Lib.hid he1
      clear he1
      obtain ⟨b, hb⟩ : ∃ b, whC ss m = b := ⟨_, rfl⟩
      rw [hb] at H4
      have HBw := Lib.hid hb
      clear hb
      cases a with
      | true =>
        cases g with
        | true =>
          go_wp2_with (first
            | (go_at_call 57; (with_reducible refine (H1.out _ R0.out).mono ?_); rintro e w1 ⟨rfl, b1⟩; have Rw1 := Lib.hid (bel_trans R0.out b1); have Kw1 := HKX.out _ Rw1.out; have x0 := Kw1.cell 0; have x1 := Kw1.cell 1; have x2 := Kw1.cell 2; have x3 := Kw1.cell 3; have x4 := Kw1.cell 4; have fx0 := Kw1.frozen 0; have fx4 := Kw1.frozen 4; clear b1)
            | (go_at_call 58; (with_reducible refine (H2.out _ Rw1.out).mono ?_); rintro e w2 ⟨rfl, b1⟩; have Rw2 := Lib.hid (bel_trans Rw1.out b1); clear b1))
          go_roundw
          case rel => exact ⟨k + 1, pre, A0, c0', by go_num, rfl, by omega, by omega, Lib.hid (by have h := HSP.out true (by unfold q4; rw [HA.out, HG.out]; rfl); rwa [if_pos rfl] at h), Lib.hid (own_below HOB.out Rw2.out), Lib.hid (bel_trans HB.out (bel_trans HWB.out Rw2.out))⟩
          case measure => simp [intOf] <;> omega
        | false =>
          have HU := Lib.hid (show u4 ss m = ⟨32, m.node, m.p, m.n, m.kind⟩ by unfold u4; rw [HA.out]; rfl)
          go_wp2_with (first
            | (go_at_call 57; (with_reducible refine (H1.out _ R0.out).mono ?_); rintro e w1 ⟨rfl, b1⟩; have Rw1 := Lib.hid (bel_trans R0.out b1); have Kw1 := HKX.out _ Rw1.out; have x0 := Kw1.cell 0; have x1 := Kw1.cell 1; have x2 := Kw1.cell 2; have x3 := Kw1.cell 3; have x4 := Kw1.cell 4; have fx0 := Kw1.frozen 0; have fx4 := Kw1.frozen 4; clear b1)
            | (go_at_call 58; (with_reducible refine (H2.out _ Rw1.out).mono ?_); rintro e w2 ⟨rfl, b1⟩; have Rw2 := Lib.hid (bel_trans Rw1.out b1); have Kw2 := HKX.out _ Rw2.out; have y0 := Kw2.cell 0; have y1 := Kw2.cell 1; have y2 := Kw2.cell 2; have y3 := Kw2.cell 3; have y4 := Kw2.cell 4; have fy0 := Kw2.frozen 0; have fy4 := Kw2.frozen 4; clear b1)
            | (at_builtin; refine wpList_append_own _ rfl (.tmp 33) (.tmp 35) 22 rfl w.heap.size 38 j0 (.agg #[.int .i32 0, .int .i64 0, .int .i64 0, .int .i64 0, .int .u8 0]) 5 40 Try.underlying22 hj hy0 hy1 hy2 rfl (by decide) (.slice A0 pre.length c0') _ _ rfl ((own_setCell_ne (own_below HOB.out Rw2.out) ⟨wr.heap.size, 0, none⟩ (.int .i32 32) HNE.out).alloc _) ⟨_, 0, none⟩ 1 1 (crC ⟨32, m.node, m.p, m.n, m.kind⟩) rfl rfl (reads_one5b _ _ ⟨32, m.node, m.p, m.n, m.kind⟩ _ (by simp only [World.size_setCell])) (crC_one _) ?d1 ?e1 ?f1 ?_))
          case d1 => unfold maxLen; omega
          case e1 => omega
          case f1 => have := ((bel_trans HB.out (bel_trans HWB.out Rw2.out)).setCell (p := ⟨wr.heap.size, 0, none⟩) HLE.out (.int .i32 32)).size; simp only [World.size_alloc]; omega
          intro v' w7 hown' hg _
          have hb7 := Lib.hid (bel_grown (bel_alloc ((bel_trans HB.out (bel_trans HWB.out Rw2.out)).setCell (p := ⟨wr.heap.size, 0, none⟩) HLE.out (.int .i32 32)) _) ((own_setCell_ne (own_below HOB.out Rw2.out) ⟨wr.heap.size, 0, none⟩ (.int .i32 32) HNE.out).alloc _) hg)
          obtain ⟨A', c', rfl⟩ := own_shape hown'
          have HO7 := Lib.hid hown'
          clear hown' hg
          go_wp2
          go_roundw
          case rel => exact ⟨k + 1, pre ++ [⟨32, m.node, m.p, m.n, m.kind⟩], A', c', by go_num, by rw [List.length_append]; rfl, by omega, by rw [List.length_append]; simp; omega, Lib.hid (by have h := HSP.out false (by unfold q4; rw [HA.out, HG.out]; rfl); rwa [if_neg (by simp), HU.out] at h), Lib.hid (by rw [crL_snoc, List.length_append]; exact HO7.out), hb7⟩
          case measure => simp [intOf] <;> omega
      | false =>
        cases e1 with
        | true =>
          have HU := Lib.hid (show u4 ss m = ⟨10, m.node, m.p, m.n, 5⟩ by unfold u4; rw [HA.out, HE1.out]; rfl)
          go_wp2_with (first
            | (go_at_call 57; (with_reducible refine (H1.out _ R0.out).mono ?_); rintro e w1 ⟨rfl, b1⟩; have Rw1 := Lib.hid (bel_trans R0.out b1); have Kw1 := HKX.out _ Rw1.out; have x0 := Kw1.cell 0; have x1 := Kw1.cell 1; have x2 := Kw1.cell 2; have x3 := Kw1.cell 3; have x4 := Kw1.cell 4; have fx0 := Kw1.frozen 0; have fx4 := Kw1.frozen 4; clear b1)
            | (go_at_call 59; (with_reducible refine (H3.out _).mono ?_); rintro e w2 ⟨rfl, b1⟩; have Rw2 := Lib.hid (bel_trans Rw1.out b1); have Kw2 := HKX.out _ Rw2.out; have y0 := Kw2.cell 0; have y1 := Kw2.cell 1; have y2 := Kw2.cell 2; have y3 := Kw2.cell 3; have y4 := Kw2.cell 4; have fy0 := Kw2.frozen 0; have fy4 := Kw2.frozen 4; clear b1)
            | (at_builtin; refine wpList_append_own _ rfl (.tmp 33) (.tmp 35) 22 rfl w.heap.size 38 j0 (.agg #[.int .i32 0, .int .i64 0, .int .i64 0, .int .i64 0, .int .u8 0]) 5 40 Try.underlying22 hj hy0 hy1 hy2 rfl (by decide) (.slice A0 pre.length c0') _ _ rfl ((own_setCell_ne (own_setCell_ne (own_below HOB.out Rw2.out) ⟨wr.heap.size, 4, none⟩ (.int .u8 5) HNE.out) ⟨wr.heap.size, 0, none⟩ (.int .i32 10) HNE.out).alloc _) ⟨_, 0, none⟩ 1 1 (crC ⟨10, m.node, m.p, m.n, 5⟩) rfl rfl (reads_one5b _ _ ⟨10, m.node, m.p, m.n, 5⟩ _ (by simp only [World.size_setCell])) (crC_one _) ?d2 ?e2 ?f2 ?_))
          case d2 => unfold maxLen; omega
          case e2 => omega
          case f2 => have := (((bel_trans HB.out (bel_trans HWB.out Rw2.out)).setCell (p := ⟨wr.heap.size, 4, none⟩) HLE.out (.int .u8 5)).setCell (p := ⟨wr.heap.size, 0, none⟩) HLE.out (.int .i32 10)).size; simp only [World.size_alloc]; omega
          intro v' w7 hown' hg _
          have hb7 := Lib.hid (bel_grown (bel_alloc (((bel_trans HB.out (bel_trans HWB.out Rw2.out)).setCell (p := ⟨wr.heap.size, 4, none⟩) HLE.out (.int .u8 5)).setCell (p := ⟨wr.heap.size, 0, none⟩) HLE.out (.int .i32 10)) _) ((own_setCell_ne (own_setCell_ne (own_below HOB.out Rw2.out) ⟨wr.heap.size, 4, none⟩ (.int .u8 5) HNE.out) ⟨wr.heap.size, 0, none⟩ (.int .i32 10) HNE.out).alloc _) hg)
          obtain ⟨A', c', rfl⟩ := own_shape hown'
          have HO7 := Lib.hid hown'
          clear hown' hg
          go_wp2
          go_roundw
          case rel => exact ⟨k + 1, pre ++ [⟨10, m.node, m.p, m.n, 5⟩], A', c', by go_num, by rw [List.length_append]; rfl, by omega, by rw [List.length_append]; simp; omega, Lib.hid (by have h := HSP.out false (by unfold q4; rw [HA.out]; rfl); rwa [if_neg (by simp), HU.out] at h), Lib.hid (by rw [crL_snoc, List.length_append]; exact HO7.out), hb7⟩
          case measure => simp [intOf] <;> omega
        | false =>
          cases b with
          | true =>
            have HU := Lib.hid (show u4 ss m = ⟨32, m.node, m.p, m.n, m.kind⟩ by unfold u4; rw [HA.out, HE1.out, HBw.out]; rfl)
            go_wp2_with (first
              | (go_at_call 57; (with_reducible refine (H1.out _ R0.out).mono ?_); rintro e w1 ⟨rfl, b1⟩; have Rw1 := Lib.hid (bel_trans R0.out b1); have Kw1 := HKX.out _ Rw1.out; have x0 := Kw1.cell 0; have x1 := Kw1.cell 1; have x2 := Kw1.cell 2; have x3 := Kw1.cell 3; have x4 := Kw1.cell 4; have fx0 := Kw1.frozen 0; have fx4 := Kw1.frozen 4; clear b1)
              | (go_at_call 59; (with_reducible refine (H3.out _).mono ?_); rintro e w2 ⟨rfl, b1⟩; have Rw2 := Lib.hid (bel_trans Rw1.out b1); have Kw2 := HKX.out _ Rw2.out; have y0 := Kw2.cell 0; have y1 := Kw2.cell 1; have y2 := Kw2.cell 2; have y3 := Kw2.cell 3; have y4 := Kw2.cell 4; have fy0 := Kw2.frozen 0; have fy4 := Kw2.frozen 4; clear b1)
              | (go_at_call 55; (with_reducible refine (H4.out _ Rw2.out).mono ?_); rintro e w3 ⟨rfl, b1⟩; have Rw3 := Lib.hid (bel_trans Rw2.out b1); have Kw3 := HKX.out _ Rw3.out; have z0 := Kw3.cell 0; have z1 := Kw3.cell 1; have z2 := Kw3.cell 2; have z3 := Kw3.cell 3; have z4 := Kw3.cell 4; have fz0 := Kw3.frozen 0; have fz4 := Kw3.frozen 4; clear b1)
              | (at_builtin; refine wpList_append_own _ rfl (.tmp 33) (.tmp 35) 22 rfl w.heap.size 38 j0 (.agg #[.int .i32 0, .int .i64 0, .int .i64 0, .int .i64 0, .int .u8 0]) 5 40 Try.underlying22 hj hy0 hy1 hy2 rfl (by decide) (.slice A0 pre.length c0') _ _ rfl ((own_setCell_ne (own_below HOB.out Rw3.out) ⟨wr.heap.size, 0, none⟩ (.int .i32 32) HNE.out).alloc _) ⟨_, 0, none⟩ 1 1 (crC ⟨32, m.node, m.p, m.n, m.kind⟩) rfl rfl (reads_one5b _ _ ⟨32, m.node, m.p, m.n, m.kind⟩ _ (by simp only [World.size_setCell])) (crC_one _) ?d3 ?e3 ?f3 ?_))
            case d3 => unfold maxLen; omega
            case e3 => omega
            case f3 => have := ((bel_trans HB.out (bel_trans HWB.out Rw3.out)).setCell (p := ⟨wr.heap.size, 0, none⟩) HLE.out (.int .i32 32)).size; simp only [World.size_alloc]; omega
            intro v' w7 hown' hg _
            have hb7 := Lib.hid (bel_grown (bel_alloc ((bel_trans HB.out (bel_trans HWB.out Rw3.out)).setCell (p := ⟨wr.heap.size, 0, none⟩) HLE.out (.int .i32 32)) _) ((own_setCell_ne (own_below HOB.out Rw3.out) ⟨wr.heap.size, 0, none⟩ (.int .i32 32) HNE.out).alloc _) hg)
            obtain ⟨A', c', rfl⟩ := own_shape hown'
            have HO7 := Lib.hid hown'
            clear hown' hg
            go_wp2
            go_roundw
            case rel => exact ⟨k + 1, pre ++ [⟨32, m.node, m.p, m.n, m.kind⟩], A', c', by go_num, by rw [List.length_append]; rfl, by omega, by rw [List.length_append]; simp; omega, Lib.hid (by have h := HSP.out false (by unfold q4; rw [HA.out]; rfl); rwa [if_neg (by simp), HU.out] at h), Lib.hid (by rw [crL_snoc, List.length_append]; exact HO7.out), hb7⟩
            case measure => simp [intOf] <;> omega
          | false =>
            have HU := Lib.hid (show u4 ss m = m by unfold u4; rw [HA.out, HE1.out, HBw.out]; rfl)
            go_wp2_with (first
              | (go_at_call 57; (with_reducible refine (H1.out _ R0.out).mono ?_); rintro e w1 ⟨rfl, b1⟩; have Rw1 := Lib.hid (bel_trans R0.out b1); have Kw1 := HKX.out _ Rw1.out; have x0 := Kw1.cell 0; have x1 := Kw1.cell 1; have x2 := Kw1.cell 2; have x3 := Kw1.cell 3; have x4 := Kw1.cell 4; have fx0 := Kw1.frozen 0; have fx4 := Kw1.frozen 4; clear b1)
              | (go_at_call 59; (with_reducible refine (H3.out _).mono ?_); rintro e w2 ⟨rfl, b1⟩; have Rw2 := Lib.hid (bel_trans Rw1.out b1); have Kw2 := HKX.out _ Rw2.out; have y0 := Kw2.cell 0; have y1 := Kw2.cell 1; have y2 := Kw2.cell 2; have y3 := Kw2.cell 3; have y4 := Kw2.cell 4; have fy0 := Kw2.frozen 0; have fy4 := Kw2.frozen 4; clear b1)
              | (go_at_call 55; (with_reducible refine (H4.out _ Rw2.out).mono ?_); rintro e w3 ⟨rfl, b1⟩; have Rw3 := Lib.hid (bel_trans Rw2.out b1); have Kw3 := HKX.out _ Rw3.out; have z0 := Kw3.cell 0; have z1 := Kw3.cell 1; have z2 := Kw3.cell 2; have z3 := Kw3.cell 3; have z4 := Kw3.cell 4; have fz0 := Kw3.frozen 0; have fz4 := Kw3.frozen 4; clear b1)
              | (at_builtin; refine wpList_append_own _ rfl (.tmp 33) (.tmp 35) 22 rfl w.heap.size 38 j0 (.agg #[.int .i32 0, .int .i64 0, .int .i64 0, .int .i64 0, .int .u8 0]) 5 40 Try.underlying22 hj hy0 hy1 hy2 rfl (by decide) (.slice A0 pre.length c0') _ _ rfl ((own_below HOB.out Rw3.out).alloc _) ⟨_, 0, none⟩ 1 1 (crC m) rfl rfl (reads_one5r _ _ m) (crC_one _) ?d4 ?e4 ?f4 ?_))
            case d4 => unfold maxLen; omega
            case e4 => omega
            case f4 => have := (bel_trans HB.out (bel_trans HWB.out Rw3.out)).size; simp only [World.size_alloc]; omega
            intro v' w7 hown' hg _
            have hb7 := Lib.hid (bel_grown (bel_alloc (bel_trans HB.out (bel_trans HWB.out Rw3.out)) _) ((own_below HOB.out Rw3.out).alloc _) hg)
            obtain ⟨A', c', rfl⟩ := own_shape hown'
            have HO7 := Lib.hid hown'
            clear hown' hg
            go_wp2
            go_roundw
            case rel => exact ⟨k + 1, pre ++ [m], A', c', by go_num, by rw [List.length_append]; rfl, by omega, by rw [List.length_append]; simp; omega, Lib.hid (by have h := HSP.out false (by unfold q4; rw [HA.out]; rfl); rwa [if_neg (by simp), HU.out] at h), Lib.hid (by rw [crL_snoc, List.length_append]; exact HO7.out), hb7⟩
            case measure => simp [intOf] <;> omega
    · obtain rfl : k = n := by omega
      have g1 : decide ((k : Int) < (k : Int)) = false := decide_eq_false (by omega)
      go_wp2
      go_ret
      have e := spec_end _ _ cs k S pre HP.out (by rw [HL.out]; omega)
      exact ⟨_, rfl, by rw [e]; exact HO.out, HB.out⟩
set_option maxHeartbeats 8000000 in
set_option maxRecDepth 20000 in
theorem kinds_any (A : Option Addr) (n c : Nat) (cs : List Cr) (AS : Option Addr) (nS cS : Nat) (ss : List St) (hn : n ≤ 1000000000) (hI : NodesIn nS cs) (w : World) (hr : Reads w w.heap.size 5 A n (crL cs)) (hrS : Reads w w.heap.size 9 AS nS (stL ss)) :
    Calls Try.prog 26 #[.slice A n c, .slice AS nS cS] w fun e w' => ∃ v, e = .returned v ∧ w'.ownsRow w.heap.size 38 5 v ((filterZ (q6) [] cs).map (u6 ss)).length (crL ((filterZ (q6) [] cs).map (u6 ss))) ∧ Below w.heap.size w w' := by
  have HL := Lib.hid (len_cr hr)
  have HR := Lib.hid hr
  obtain ⟨j0, hj, hy0, hy1, hy2⟩ := info_parts infoCr2
  obtain ⟨S, hS⟩ : ∃ S, (filterZ (q6) [] cs).map (u6 ss) = S := ⟨_, rfl⟩
  have HS := Lib.hid hS
  have nn : (n : Int) ≤ 1000000000 := by omega
  rw [hS]
  clear hr hS
  go_enter Try.func26, Try.ntmps26
  go_wp2_with (fail)
  go_loopw [5, 6, 7] (fun o i b wr => ∃ (k : Nat) (pre : List Cr) (A0 : Option Addr) (c0' : Nat), i = .int .i64 k ∧ o = .slice A0 pre.length c0' ∧ k ≤ n ∧ pre.length ≤ k ∧ Hid (S = pre ++ (filterZ (q6) (cs.take k).reverse (cs.drop k)).map (u6 ss)) ∧ Hid (wr.ownsRow w.heap.size 38 5 (.slice A0 pre.length c0') pre.length (crL pre)) ∧ Hid (Below w.heap.size w wr)) (fun o i b _ => n - (intOf i).toNat)
  case atStart => exact ⟨0, [], none, 0, rfl, rfl, by omega, Nat.le_refl _, Lib.hid (by rw [← HS.out, List.drop_zero]; rfl), Lib.hid (own_nil _ _ _ _), Lib.hid (Below.refl _ _)⟩
  case round =>
    obtain ⟨k, pre, A0, c0', rfl, rfl, hk, hpk, HP, HO, HB⟩ := hrel
    by_cases hlt : k < n
    · have g1 : decide ((k : Int) < (n : Int)) = true := decide_eq_true (by omega)
      have g2 : (k : Int) < (n : Int) := by omega
      have g3 : (0 : Int) ≤ (k : Int) := by omega
      have lp : (pre.length : Int) ≤ 1000000000 := by omega
      obtain ⟨ad, _, rfl, _, _, _⟩ := reads_cr HR.out hlt
      obtain ⟨m, hm, hC⟩ := cellsAt HR.out hlt
      have HSP := Lib.hid (fun (r : Bool) (hr : (q6) (cs.take k).reverse m (cs.drop (k + 1)) = r) => spec_step _ (u6 ss) cs k m S pre r hm HP.out hr)
      obtain ⟨c0, c1, c2, c3, c4⟩ := hC _ HB.out
      have HWB := Lib.hid (bel_alloc (Below.refl wr.heap.size wr) (.cells #[.int .i32 m.r, .int .i64 m.node, .int .i64 m.p, .int .i64 m.n, .int .u8 m.kind] 38))
      have HOB := Lib.hid (HO.out.alloc (.cells #[.int .i32 m.r, .int .i64 m.node, .int .i64 m.p, .int .i64 m.n, .int .u8 m.kind] 38))
      have HKX := Lib.hid (fun (V : World) (hV : Below (wr.alloc (.cells #[.int .i32 m.r, .int .i64 m.node, .int .i64 m.p, .int .i64 m.n, .int .u8 m.kind] 38)).heap.size (wr.alloc (.cells #[.int .i32 m.r, .int .i64 m.node, .int .i64 m.p, .int .i64 m.n, .int .u8 m.kind] 38)) V) => (Blk.new wr 38 #[.int .i32 m.r, .int .i64 m.node, .int .i64 m.p, .int .i64 m.n, .int .u8 m.kind]).keep hV)
      have HNE := Lib.hid (own_not_new HO.out)
      have HLE := Lib.hid (show w.heap.size ≤ wr.heap.size from HB.out.size)
      have HBW := Lib.hid (bel_alloc HB.out (.cells #[.int .i32 m.r, .int .i64 m.node, .int .i64 m.p, .int .i64 m.n, .int .u8 m.kind] 38))
      have R0 := Lib.hid (Below.refl (wr.alloc (.cells #[.int .i32 m.r, .int .i64 m.node, .int .i64 m.p, .int .i64 m.n, .int .u8 m.kind] 38)).heap.size (wr.alloc (.cells #[.int .i32 m.r, .int .i64 m.node, .int .i64 m.p, .int .i64 m.n, .int .u8 m.kind] 38)))
      have HTo := Lib.hid (fun (V : World) (hV : Below (wr.alloc (.cells #[.int .i32 m.r, .int .i64 m.node, .int .i64 m.p, .int .i64 m.n, .int .u8 m.kind] 38)).heap.size (wr.alloc (.cells #[.int .i32 m.r, .int .i64 m.node, .int .i64 m.p, .int .i64 m.n, .int .u8 m.kind] 38)) V) => bel_trans HBW.out hV)
      have HWh := Lib.hid (fun (i : Nat) (m' : Cr) (hm : cs[i]? = some m') (V : World) (hV : Below (wr.alloc (.cells #[.int .i32 m.r, .int .i64 m.node, .int .i64 m.p, .int .i64 m.n, .int .u8 m.kind] 38)).heap.size (wr.alloc (.cells #[.int .i32 m.r, .int .i64 m.node, .int .i64 m.p, .int .i64 m.n, .int .u8 m.kind] 38)) V) => rwhite_any m' AS nS cS ss (hI.at_ hm).1 (hI.at_ hm).2 V ((hrS.below (HTo.out V hV)).more (HTo.out V hV).size))
      have HSo := Lib.hid (fun (i : Nat) (m' : Cr) (hm : cs[i]? = some m') (V : World) (hV : Below (wr.alloc (.cells #[.int .i32 m.r, .int .i64 m.node, .int .i64 m.p, .int .i64 m.n, .int .u8 m.kind] 38)).heap.size (wr.alloc (.cells #[.int .i32 m.r, .int .i64 m.node, .int .i64 m.p, .int .i64 m.n, .int .u8 m.kind] 38)) V) => rsoft_any m' AS nS cS ss (hI.at_ hm).1 (hI.at_ hm).2 V ((hrS.below (HTo.out V hV)).more (HTo.out V hV).size))
      have HM := Lib.hid hm
      clear hm hC
      have H1 := Lib.hid (fun V hV => HWh.out k m HM.out V hV)
      have H2 := Lib.hid (fun V => is_any m 9 V)
      have H3 := Lib.hid (fun V => is_any m 32 V)
      have n0 := (hI.at_ HM.out).1
      have n1 := (hI.at_ HM.out).2
      obtain ⟨nd, adS, st, hnd, hndl, rfl, hbS, hwh, ccS⟩ := styleAt hrS n0 n1
      have HY := Lib.hid (fun (V : World) (hV : Below (wr.alloc (.cells #[.int .i32 m.r, .int .i64 m.node, .int .i64 m.p, .int .i64 m.n, .int .u8 m.kind] 38)).heap.size (wr.alloc (.cells #[.int .i32 m.r, .int .i64 m.node, .int .i64 m.p, .int .i64 m.n, .int .u8 m.kind] 38)) V) => (show V.cell? (adS.add (m.node.toNat * 9)) = some (.int .u8 st.white) by rw [hnd, Int.toNat_natCast]; exact (cellS_keep ccS (HTo.out V hV) (by rw [block_of_add]; exact hbS)).c0))
      have HWH := Lib.hid hwh
      have HND := Lib.hid hnd
      clear hnd hwh ccS
      obtain ⟨a, ha⟩ : ∃ a, whC ss m = a := ⟨_, rfl⟩
      rw [ha] at H1
      have HA := Lib.hid ha
      clear ha
      obtain ⟨b, hb⟩ : ∃ b, isT m 9 = b := ⟨_, rfl⟩
      rw [hb] at H2
      have HB9 := Lib.hid hb
      clear hb
      obtain ⟨d, hd⟩ : ∃ d, isT m 32 = d := ⟨_, rfl⟩
      rw [hd] at H3
      have HD := Lib.hid hd
      clear hd
      cases a with
      | true =>
        have HU := Lib.hid (show u6 ss m = ⟨m.r, m.node, m.p, m.n, 1⟩ by unfold u6; rw [HA.out]; rfl)
        go_wp2_with (first
          | (go_at_call 55; (with_reducible refine (H1.out _ R0.out).mono ?_); rintro e w1 ⟨rfl, b1⟩; have Rw1 := Lib.hid (bel_trans R0.out b1); have Kw1 := HKX.out _ Rw1.out; have x0 := Kw1.cell 0; have x1 := Kw1.cell 1; have x2 := Kw1.cell 2; have x3 := Kw1.cell 3; have x4 := Kw1.cell 4; have fx0 := Kw1.frozen 0; have fx4 := Kw1.frozen 4; clear b1)
          | (at_builtin; refine wpList_append_own _ rfl (.tmp 40) (.tmp 42) 22 rfl w.heap.size 38 j0 (.agg #[.int .i32 0, .int .i64 0, .int .i64 0, .int .i64 0, .int .u8 0]) 5 40 Try.underlying22 hj hy0 hy1 hy2 rfl (by decide) (.slice A0 pre.length c0') _ _ rfl ((own_setCell_ne (own_below HOB.out Rw1.out) ⟨wr.heap.size, 4, none⟩ (.int .u8 1) HNE.out).alloc _) ⟨_, 0, none⟩ 1 1 (crC ⟨m.r, m.node, m.p, m.n, 1⟩) rfl rfl (reads_one5b _ _ ⟨m.r, m.node, m.p, m.n, 1⟩ _ (by simp only [World.size_setCell])) (crC_one _) ?d5 ?e5 ?f5 ?_))
        case d5 => unfold maxLen; omega
        case e5 => omega
        case f5 => have := ((bel_trans HB.out (bel_trans HWB.out Rw1.out)).setCell (p := ⟨wr.heap.size, 4, none⟩) HLE.out (.int .u8 1)).size; simp only [World.size_alloc]; omega
        intro v' w7 hown' hg _
        have hb7 := Lib.hid (bel_grown (bel_alloc ((bel_trans HB.out (bel_trans HWB.out Rw1.out)).setCell (p := ⟨wr.heap.size, 4, none⟩) HLE.out (.int .u8 1)) _) ((own_setCell_ne (own_below HOB.out Rw1.out) ⟨wr.heap.size, 4, none⟩ (.int .u8 1) HNE.out).alloc _) hg)
        obtain ⟨A', c', rfl⟩ := own_shape hown'
        have HO7 := Lib.hid hown'
        clear hown' hg
        go_wp2
        go_roundw
        case rel => exact ⟨k + 1, pre ++ [⟨m.r, m.node, m.p, m.n, 1⟩], A', c', by go_num, by rw [List.length_append]; rfl, by omega, by rw [List.length_append]; simp; omega, Lib.hid (by have h := HSP.out false (by rfl); rwa [if_neg (by simp), HU.out] at h), Lib.hid (by rw [crL_snoc, List.length_append]; exact HO7.out), hb7⟩
        case measure => simp [intOf] <;> omega
      | false =>
        cases b with
        | true =>
          have HU := Lib.hid (show u6 ss m = ⟨m.r, m.node, m.p, m.n, 4⟩ by unfold u6; rw [HA.out, HB9.out]; rfl)
          go_wp2_with (first
            | (go_at_call 55; (with_reducible refine (H1.out _ R0.out).mono ?_); rintro e w1 ⟨rfl, b1⟩; have Rw1 := Lib.hid (bel_trans R0.out b1); have Kw1 := HKX.out _ Rw1.out; have x0 := Kw1.cell 0; have x1 := Kw1.cell 1; have x2 := Kw1.cell 2; have x3 := Kw1.cell 3; have x4 := Kw1.cell 4; have fx0 := Kw1.frozen 0; have fx4 := Kw1.frozen 4; clear b1)
            | (go_at_call 56; (with_reducible refine (H2.out _).mono ?_); rintro e w2 ⟨rfl, b1⟩; have Rw2 := Lib.hid (bel_trans Rw1.out b1); have Kw2 := HKX.out _ Rw2.out; have y0 := Kw2.cell 0; have y1 := Kw2.cell 1; have y2 := Kw2.cell 2; have y3 := Kw2.cell 3; have y4 := Kw2.cell 4; have fy0 := Kw2.frozen 0; have fy4 := Kw2.frozen 4; clear b1)
            | (at_builtin; refine wpList_append_own _ rfl (.tmp 40) (.tmp 42) 22 rfl w.heap.size 38 j0 (.agg #[.int .i32 0, .int .i64 0, .int .i64 0, .int .i64 0, .int .u8 0]) 5 40 Try.underlying22 hj hy0 hy1 hy2 rfl (by decide) (.slice A0 pre.length c0') _ _ rfl ((own_setCell_ne (own_below HOB.out Rw2.out) ⟨wr.heap.size, 4, none⟩ (.int .u8 4) HNE.out).alloc _) ⟨_, 0, none⟩ 1 1 (crC ⟨m.r, m.node, m.p, m.n, 4⟩) rfl rfl (reads_one5b _ _ ⟨m.r, m.node, m.p, m.n, 4⟩ _ (by simp only [World.size_setCell])) (crC_one _) ?d6 ?e6 ?f6 ?_))
          case d6 => unfold maxLen; omega
          case e6 => omega
          case f6 => have := ((bel_trans HB.out (bel_trans HWB.out Rw2.out)).setCell (p := ⟨wr.heap.size, 4, none⟩) HLE.out (.int .u8 4)).size; simp only [World.size_alloc]; omega
          intro v' w7 hown' hg _
          have hb7 := Lib.hid (bel_grown (bel_alloc ((bel_trans HB.out (bel_trans HWB.out Rw2.out)).setCell (p := ⟨wr.heap.size, 4, none⟩) HLE.out (.int .u8 4)) _) ((own_setCell_ne (own_below HOB.out Rw2.out) ⟨wr.heap.size, 4, none⟩ (.int .u8 4) HNE.out).alloc _) hg)
          obtain ⟨A', c', rfl⟩ := own_shape hown'
          have HO7 := Lib.hid hown'
          clear hown' hg
          go_wp2
          go_roundw
          case rel => exact ⟨k + 1, pre ++ [⟨m.r, m.node, m.p, m.n, 4⟩], A', c', by go_num, by rw [List.length_append]; rfl, by omega, by rw [List.length_append]; simp; omega, Lib.hid (by have h := HSP.out false (by rfl); rwa [if_neg (by simp), HU.out] at h), Lib.hid (by rw [crL_snoc, List.length_append]; exact HO7.out), hb7⟩
          case measure => simp [intOf] <;> omega
        | false =>
          cases d with
          | false =>
            have HU := Lib.hid (show u6 ss m = m by unfold u6; rw [HA.out, HB9.out, HD.out]; rfl)
            go_wp2_with (first
              | (go_at_call 55; (with_reducible refine (H1.out _ R0.out).mono ?_); rintro e w1 ⟨rfl, b1⟩; have Rw1 := Lib.hid (bel_trans R0.out b1); have Kw1 := HKX.out _ Rw1.out; have x0 := Kw1.cell 0; have x1 := Kw1.cell 1; have x2 := Kw1.cell 2; have x3 := Kw1.cell 3; have x4 := Kw1.cell 4; have fx0 := Kw1.frozen 0; have fx4 := Kw1.frozen 4; clear b1)
              | (go_at_call 56; (with_reducible refine (H2.out _).mono ?_); rintro e w2 ⟨rfl, b1⟩; have Rw2 := Lib.hid (bel_trans Rw1.out b1); have Kw2 := HKX.out _ Rw2.out; have y0 := Kw2.cell 0; have y1 := Kw2.cell 1; have y2 := Kw2.cell 2; have y3 := Kw2.cell 3; have y4 := Kw2.cell 4; have fy0 := Kw2.frozen 0; have fy4 := Kw2.frozen 4; clear b1)
              | (go_at_call 56; (with_reducible refine (H3.out _).mono ?_); rintro e w3 ⟨rfl, b1⟩; have Rw3 := Lib.hid (bel_trans Rw2.out b1); have Kw3 := HKX.out _ Rw3.out; have z0 := Kw3.cell 0; have z1 := Kw3.cell 1; have z2 := Kw3.cell 2; have z3 := Kw3.cell 3; have z4 := Kw3.cell 4; have fz0 := Kw3.frozen 0; have fz4 := Kw3.frozen 4; have s0 := HY.out _ Rw3.out; clear b1)
              | (go_at_call 56; (with_reducible refine (H3.out _).mono ?_); rintro e w4 ⟨rfl, b1⟩; have Rw4 := Lib.hid (bel_trans Rw3.out b1); have Kw4 := HKX.out _ Rw4.out; have v0 := Kw4.cell 0; have v1 := Kw4.cell 1; have v2 := Kw4.cell 2; have v3 := Kw4.cell 3; have v4 := Kw4.cell 4; have fv0 := Kw4.frozen 0; have fv4 := Kw4.frozen 4; clear b1)
              | (at_builtin; refine wpList_append_own _ rfl (.tmp 40) (.tmp 42) 22 rfl w.heap.size 38 j0 (.agg #[.int .i32 0, .int .i64 0, .int .i64 0, .int .i64 0, .int .u8 0]) 5 40 Try.underlying22 hj hy0 hy1 hy2 rfl (by decide) (.slice A0 pre.length c0') _ _ rfl ((own_below HOB.out Rw4.out).alloc _) ⟨_, 0, none⟩ 1 1 (crC m) rfl rfl (reads_one5r _ _ m) (crC_one _) ?d7 ?e7 ?f7 ?_))
            case d7 => unfold maxLen; omega
            case e7 => omega
            case f7 => have := (bel_trans HB.out (bel_trans HWB.out Rw4.out)).size; simp only [World.size_alloc]; omega
            intro v' w7 hown' hg _
            have hb7 := Lib.hid (bel_grown (bel_alloc (bel_trans HB.out (bel_trans HWB.out Rw4.out)) _) ((own_below HOB.out Rw4.out).alloc _) hg)
            obtain ⟨A', c', rfl⟩ := own_shape hown'
            have HO7 := Lib.hid hown'
            clear hown' hg
            go_wp2
            go_roundw
            case rel => exact ⟨k + 1, pre ++ [m], A', c', by go_num, by rw [List.length_append]; rfl, by omega, by rw [List.length_append]; simp; omega, Lib.hid (by have h := HSP.out false (by rfl); rwa [if_neg (by simp), HU.out] at h), Lib.hid (by rw [crL_snoc, List.length_append]; exact HO7.out), hb7⟩
            case measure => simp [intOf] <;> omega
          | true =>
            by_cases h3 : st.white = 3
            · have HU := Lib.hid (show u6 ss m = ⟨m.r, m.node, m.p, m.n, 2⟩ by unfold u6; rw [HA.out, HB9.out, HD.out, HWH.out, if_pos h3]; rfl)
              have p3 : (st.white == 3) = true := by simp [h3]
              clear h3
              go_wp2_with (first
                | (go_at_call 55; (with_reducible refine (H1.out _ R0.out).mono ?_); rintro e w1 ⟨rfl, b1⟩; have Rw1 := Lib.hid (bel_trans R0.out b1); have Kw1 := HKX.out _ Rw1.out; have x0 := Kw1.cell 0; have x1 := Kw1.cell 1; have x2 := Kw1.cell 2; have x3 := Kw1.cell 3; have x4 := Kw1.cell 4; have fx0 := Kw1.frozen 0; have fx4 := Kw1.frozen 4; clear b1)
                | (go_at_call 56; (with_reducible refine (H2.out _).mono ?_); rintro e w2 ⟨rfl, b1⟩; have Rw2 := Lib.hid (bel_trans Rw1.out b1); have Kw2 := HKX.out _ Rw2.out; have y0 := Kw2.cell 0; have y1 := Kw2.cell 1; have y2 := Kw2.cell 2; have y3 := Kw2.cell 3; have y4 := Kw2.cell 4; have fy0 := Kw2.frozen 0; have fy4 := Kw2.frozen 4; clear b1)
                | (go_at_call 56; (with_reducible refine (H3.out _).mono ?_); rintro e w3 ⟨rfl, b1⟩; have Rw3 := Lib.hid (bel_trans Rw2.out b1); have Kw3 := HKX.out _ Rw3.out; have z0 := Kw3.cell 0; have z1 := Kw3.cell 1; have z2 := Kw3.cell 2; have z3 := Kw3.cell 3; have z4 := Kw3.cell 4; have fz0 := Kw3.frozen 0; have fz4 := Kw3.frozen 4; have s0 := HY.out _ Rw3.out; clear b1)
                | (at_builtin; refine wpList_append_own _ rfl (.tmp 40) (.tmp 42) 22 rfl w.heap.size 38 j0 (.agg #[.int .i32 0, .int .i64 0, .int .i64 0, .int .i64 0, .int .u8 0]) 5 40 Try.underlying22 hj hy0 hy1 hy2 rfl (by decide) (.slice A0 pre.length c0') _ _ rfl ((own_setCell_ne (own_below HOB.out Rw3.out) ⟨wr.heap.size, 4, none⟩ (.int .u8 2) HNE.out).alloc _) ⟨_, 0, none⟩ 1 1 (crC ⟨m.r, m.node, m.p, m.n, 2⟩) rfl rfl (reads_one5b _ _ ⟨m.r, m.node, m.p, m.n, 2⟩ _ (by simp only [World.size_setCell])) (crC_one _) ?d8 ?e8 ?f8 ?_))
              case d8 => unfold maxLen; omega
              case e8 => omega
              case f8 => have := ((bel_trans HB.out (bel_trans HWB.out Rw3.out)).setCell (p := ⟨wr.heap.size, 4, none⟩) HLE.out (.int .u8 2)).size; simp only [World.size_alloc]; omega
              intro v' w7 hown' hg _
              have hb7 := Lib.hid (bel_grown (bel_alloc ((bel_trans HB.out (bel_trans HWB.out Rw3.out)).setCell (p := ⟨wr.heap.size, 4, none⟩) HLE.out (.int .u8 2)) _) ((own_setCell_ne (own_below HOB.out Rw3.out) ⟨wr.heap.size, 4, none⟩ (.int .u8 2) HNE.out).alloc _) hg)
              obtain ⟨A', c', rfl⟩ := own_shape hown'
              have HO7 := Lib.hid hown'
              clear hown' hg
              go_wp2
              go_roundw
              case rel => exact ⟨k + 1, pre ++ [⟨m.r, m.node, m.p, m.n, 2⟩], A', c', by go_num, by rw [List.length_append]; rfl, by omega, by rw [List.length_append]; simp; omega, Lib.hid (by have h := HSP.out false (by rfl); rwa [if_neg (by simp), HU.out] at h), Lib.hid (by rw [crL_snoc, List.length_append]; exact HO7.out), hb7⟩
              case measure => simp [intOf] <;> omega
            · have HU := Lib.hid (show u6 ss m = ⟨m.r, m.node, m.p, m.n, 3⟩ by unfold u6; rw [HA.out, HB9.out, HD.out, HWH.out, if_neg h3]; rfl)
              have p3 : (st.white == 3) = false := by simp [h3]
              clear h3
              go_wp2_with (first
                | (go_at_call 55; (with_reducible refine (H1.out _ R0.out).mono ?_); rintro e w1 ⟨rfl, b1⟩; have Rw1 := Lib.hid (bel_trans R0.out b1); have Kw1 := HKX.out _ Rw1.out; have x0 := Kw1.cell 0; have x1 := Kw1.cell 1; have x2 := Kw1.cell 2; have x3 := Kw1.cell 3; have x4 := Kw1.cell 4; have fx0 := Kw1.frozen 0; have fx4 := Kw1.frozen 4; clear b1)
                | (go_at_call 56; (with_reducible refine (H2.out _).mono ?_); rintro e w2 ⟨rfl, b1⟩; have Rw2 := Lib.hid (bel_trans Rw1.out b1); have Kw2 := HKX.out _ Rw2.out; have y0 := Kw2.cell 0; have y1 := Kw2.cell 1; have y2 := Kw2.cell 2; have y3 := Kw2.cell 3; have y4 := Kw2.cell 4; have fy0 := Kw2.frozen 0; have fy4 := Kw2.frozen 4; clear b1)
                | (go_at_call 56; (with_reducible refine (H3.out _).mono ?_); rintro e w3 ⟨rfl, b1⟩; have Rw3 := Lib.hid (bel_trans Rw2.out b1); have Kw3 := HKX.out _ Rw3.out; have z0 := Kw3.cell 0; have z1 := Kw3.cell 1; have z2 := Kw3.cell 2; have z3 := Kw3.cell 3; have z4 := Kw3.cell 4; have fz0 := Kw3.frozen 0; have fz4 := Kw3.frozen 4; have s0 := HY.out _ Rw3.out; clear b1)
                | (go_at_call 56; (with_reducible refine (H3.out _).mono ?_); rintro e w4 ⟨rfl, b1⟩; have Rw4 := Lib.hid (bel_trans Rw3.out b1); have Kw4 := HKX.out _ Rw4.out; have v0 := Kw4.cell 0; have v1 := Kw4.cell 1; have v2 := Kw4.cell 2; have v3 := Kw4.cell 3; have v4 := Kw4.cell 4; have fv0 := Kw4.frozen 0; have fv4 := Kw4.frozen 4; clear b1)
                | (at_builtin; refine wpList_append_own _ rfl (.tmp 40) (.tmp 42) 22 rfl w.heap.size 38 j0 (.agg #[.int .i32 0, .int .i64 0, .int .i64 0, .int .i64 0, .int .u8 0]) 5 40 Try.underlying22 hj hy0 hy1 hy2 rfl (by decide) (.slice A0 pre.length c0') _ _ rfl ((own_setCell_ne (own_below HOB.out Rw4.out) ⟨wr.heap.size, 4, none⟩ (.int .u8 3) HNE.out).alloc _) ⟨_, 0, none⟩ 1 1 (crC ⟨m.r, m.node, m.p, m.n, 3⟩) rfl rfl (reads_one5b _ _ ⟨m.r, m.node, m.p, m.n, 3⟩ _ (by simp only [World.size_setCell])) (crC_one _) ?d9 ?e9 ?f9 ?_))
              case d9 => unfold maxLen; omega
              case e9 => omega
              case f9 => have := ((bel_trans HB.out (bel_trans HWB.out Rw4.out)).setCell (p := ⟨wr.heap.size, 4, none⟩) HLE.out (.int .u8 3)).size; simp only [World.size_alloc]; omega
              intro v' w7 hown' hg _
              have hb7 := Lib.hid (bel_grown (bel_alloc ((bel_trans HB.out (bel_trans HWB.out Rw4.out)).setCell (p := ⟨wr.heap.size, 4, none⟩) HLE.out (.int .u8 3)) _) ((own_setCell_ne (own_below HOB.out Rw4.out) ⟨wr.heap.size, 4, none⟩ (.int .u8 3) HNE.out).alloc _) hg)
              obtain ⟨A', c', rfl⟩ := own_shape hown'
              have HO7 := Lib.hid hown'
              clear hown' hg
              go_wp2
              go_roundw
              case rel => exact ⟨k + 1, pre ++ [⟨m.r, m.node, m.p, m.n, 3⟩], A', c', by go_num, by rw [List.length_append]; rfl, by omega, by rw [List.length_append]; simp; omega, Lib.hid (by have h := HSP.out false (by rfl); rwa [if_neg (by simp), HU.out] at h), Lib.hid (by rw [crL_snoc, List.length_append]; exact HO7.out), hb7⟩
              case measure => simp [intOf] <;> omega
    · obtain rfl : k = n := by omega
      have g1 : decide ((k : Int) < (k : Int)) = false := decide_eq_false (by omega)
      go_wp2
      go_ret
      have e := spec_end _ _ cs k S pre HP.out (by rw [HL.out]; omega)
      exact ⟨_, rfl, by rw [e]; exact HO.out, HB.out⟩
end Go.Proofs.Ytmjacmjogckihaa.White

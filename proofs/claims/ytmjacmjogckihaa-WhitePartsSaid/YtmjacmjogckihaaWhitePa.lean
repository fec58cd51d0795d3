/- Chapter 8: the law WhiteParts, walked. No condition. -/
import Derived.Test.YtmjacmjogckihaaWhiteAg
import Derived.Great.BuildSlice
namespace Go.Proofs.Ytmjacmjogckihaa.White
open Go.RowKit Utf
set_option linter.unusedVariables false
set_option linter.unusedSimpArgs false
def atm : Cr := ⟨65532, 0, 0, 0, 6⟩
abbrev atmC : Array Value := #[.int .i32 65532, .int .i64 0, .int .i64 0, .int .i64 0, .int .u8 6]
theorem fillAtm : Instr.fill (fun i => some (i * 5, 5)) ((Array.range (1 * 5)).map ((Value.agg #[.int .i32 0, .int .i64 0, .int .i64 0, .int .i64 0, .int .u8 0]).cells[· % (Value.agg #[.int .i32 0, .int .i64 0, .int .i64 0, .int .i64 0, .int .u8 0]).cells.size]!)) [(0, .agg #[.int .i32 65532, .int .i64 0, .int .i64 0, .int .i64 0, .int .u8 6])] = some atmC := by kernel_rfl
theorem reads_atm {W : World} {g B : Nat} (h : Blk W g 38 atmC) (hB : g < B) : Reads W B 5 (some ⟨g, 0, none⟩) 1 (crL [atm]) := by
  refine ⟨rfl, fun _ => ⟨_, rfl, hB, fun j u hu => ?_⟩⟩
  rw [add_new, h.cell j, ← Array.getElem?_toList]
  exact hu
theorem own_to5 {w : World} {B e m n : Nat} {v : Value} {Z X : List Value} (h : w.ownsRow B e 5 v m Z) (hm : m = n) (hZ : Z = X) : ∃ A c, v = .slice A n c ∧ Reads w w.heap.size 5 A n X := by
  subst hm hZ
  obtain ⟨A, c, rfl⟩ := own_shape h
  exact ⟨A, c, rfl, own_reads h⟩
theorem okC_atm (ss : List St) (s : St) (h : ss[0]? = some s) (h5 : s.white ≤ 5) : okC ss atm = true := by
  have hl : 0 < ss.length := (List.getElem?_eq_some_iff.1 h).1
  have e := whOf_at h
  unfold okC atm
  simp only
  rw [show whOf ss 0 = s.white from e, decide_eq_true h5]
  simp
  omega
theorem white_cell {w : World} {B n : Nat} {A : Option Addr} {ss : List St} (hr : Reads w B 9 A n (stL ss)) (hn : 0 < n) : ∃ ad s, A = some ad ∧ ss[0]? = some s ∧ w.cell? ad = some (.int .u8 s.white) := by
  obtain ⟨ad, s, e, _, hs, hc⟩ := reads_st hr hn
  refine ⟨ad, s, e, hs, ?_⟩
  have := hc.c0
  rwa [Nat.zero_mul, add_zero_] at this
set_option maxHeartbeats 16000000 in
set_option maxRecDepth 40000 in
theorem WhiteParts_any (A : Option Addr) (n c : Nat) (cs : List Cr) (B : Option Addr) (m d : Nat) (ms : List Cr) (AS : Option Addr) (nS cS : Nat) (ss : List St) (w : World) (hr : Reads w w.heap.size 5 A n (crL cs)) (hr2 : Reads w w.heap.size 5 B m (crL ms)) (hrS : Reads w w.heap.size 9 AS nS (stL ss)) :
    Calls Try.prog 7 #[.slice A n c, .slice B m d, .slice AS nS cS] w fun e w' => e = .returned (.bool true) ∧ Below w.heap.size w w' := by
  have HG := Lib.hid (great_any A n c AS nS cS w)
  have HG2 := Lib.hid (great_any B m d AS nS cS w)
  have HH := Lib.hid (fun V => head_any V)
  by_cases hg : n ≤ 150 ∧ nS ≤ 40
  · have q0 : greatB n nS = false := by unfold greatB; rw [decide_eq_false (by omega), decide_eq_false (by omega)]; rfl
    rw [q0] at HG
    by_cases hg2 : m ≤ 150
    · have q1 : greatB m nS = false := by unfold greatB; rw [decide_eq_false (by omega), decide_eq_false (by omega)]; rfl
      rw [q1] at HG2
      by_cases hS0 : nS = 0
      · have p0 : ((nS : Int) == 0) = true := by simp [hS0]
        clear hr hr2 hrS q0 q1 hg hg2 hS0
        go_enter Try.func7, Try.ntmps7
        go_wp2_with (first
          | (go_at_call 8; (with_reducible refine HG.out.mono ?_); rintro e w1 ⟨rfl, rfl⟩)
          | (go_at_call 8; (with_reducible refine HG2.out.mono ?_); rintro e w1 ⟨rfl, rfl⟩)
          | (go_at_call 9; (with_reducible refine (HH.out _).mono ?_); rintro e w9 ⟨rfl, b⟩; have T6 := Lib.hid b; clear b))
        go_ret
        exact ⟨rfl, T6.out⟩
      · have p0 : ((nS : Int) == 0) = false := by simp [hS0]
        have pS : (0 : Int) < (nS : Int) := by omega
        obtain ⟨ad, s, rfl, hs0, hw0⟩ := white_cell hrS (by omega)
        have az : ad.add 0 = ad := add_zero_ ad
        by_cases h5 : s.white ≤ 5
        · have p5 : decide (5 < s.white) = false := decide_eq_false (by omega)
          have hlc := len_cr hr
          have hlm := len_cr hr2
          have HCol := Lib.hid ((Collapse_any A n c cs (some ad) nS cS ss (by omega) (by omega) w hr hrS).mono (fun e w' h => ans_of h))
          have HCol2 := Lib.hid (fun (V : World) (hV : Below w.heap.size w V) => (Collapse_any B m d ms (some ad) nS cS ss (by omega) (by omega) V ((hr2.below hV).more hV.size) ((hrS.below hV).more hV.size)).mono (fun e w' h => ans_of h))
          by_cases hok : okAll ss cs = true
          · have e1 : ansL ss cs = outL ss cs := by unfold ansL; rw [hok]; rfl
            have e2 : ansE ss cs = 0 := by unfold ansE; rw [hok]; rfl
            rw [e1, e2] at HCol
            by_cases hok2 : okAll ss ms = true
            · have e3 : ansL ss ms = outL ss ms := by unfold ansL; rw [hok2]; rfl
              have e4 : ansE ss ms = 0 := by unfold ansE; rw [hok2]; rfl
              rw [e3, e4] at HCol2
              have hka := okAll_cut ss atm cs ms hok hok2 (okC_atm ss s hs0 h5)
              have hoa := out_cut ss atm (by decide) cs ms
              have hl1 := len_out ss cs
              have hl2 := len_out ss ms
              obtain ⟨z1, hz1⟩ : ∃ z1, outL ss cs = z1 := ⟨_, rfl⟩
              obtain ⟨z2, hz2⟩ : ∃ z2, outL ss ms = z2 := ⟨_, rfl⟩
              rw [hz1] at HCol hoa hl1
              rw [hz2] at HCol2 hoa hl2
              obtain ⟨N1, hN1⟩ : ∃ N1, z1.length = N1 := ⟨_, rfl⟩
              obtain ⟨N2, hN2⟩ : ∃ N2, z2.length = N2 := ⟨_, rfl⟩
              have e5 : ansL ss (cs ++ atm :: ms) = z1 ++ atm :: z2 := by unfold ansL; rw [hka, if_pos rfl, hoa]
              have e6 : ansE ss (cs ++ atm :: ms) = 0 := by unfold ansE; rw [hka]; rfl
              have e7 : (z1 ++ atm :: z2).length = N1 + 1 + N2 := by rw [List.length_append, List.length_cons]; omega
              have HCA := Lib.hid (fun (A4 : Option Addr) (c4 : Nat) (V : World) (hV : Below w.heap.size w V) (hR : Reads V V.heap.size 5 A4 (n + 1 + m) (crL (cs ++ atm :: ms))) => (Collapse_any A4 (n + 1 + m) c4 (cs ++ atm :: ms) (some ad) nS cS ss (by omega) (by omega) V hR ((hrS.below hV).more hV.size)).mono (fun e w' h => ans_of h))
              rw [e5, e6, e7] at HCA
              rw [hN1] at HCol hl1
              rw [hN2] at HCol2 hl2
              have HSa := Lib.hid (fun (A1 A2 : Option Addr) (c1 c2 : Nat) (V : World) (h1 : Reads V V.heap.size 5 A1 (N1 + 1 + N2) (crL (z1 ++ atm :: z2))) (h2 : Reads V V.heap.size 5 A2 (N1 + 1 + N2) (crL (z1 ++ atm :: z2))) => (same_any A1 A2 (N1 + 1 + N2) (N1 + 1 + N2) c1 c2 V.heap.size _ _ V e7 e7 h1 h2 (by omega) (by omega)).mono fun e w' h => (⟨by rw [h.1]; unfold sameCr; simp, h.2.below⟩ : e = .returned (.bool true) ∧ Below V.heap.size V w'))
              have HR := Lib.hid (fun (X : World) (hX : Below w.heap.size w X) => ((hr.below hX).more hX.size : Reads X X.heap.size 5 A n (crL cs)))
              have HR2 := Lib.hid (fun (X : World) (hX : Below w.heap.size w X) => ((hr2.below hX).more hX.size : Reads X X.heap.size 5 B m (crL ms)))
              have B1 : Hid (0 + n ≤ maxLen ∧ (0 + n) * 40 ≤ 140737488355328) := ⟨by unfold maxLen; omega, by omega⟩
              have B2 : Hid (0 + n + 1 ≤ maxLen ∧ (0 + n + 1) * 40 ≤ 140737488355328) := ⟨by unfold maxLen; omega, by omega⟩
              have B3 : Hid (0 + n + 1 + m ≤ maxLen ∧ (0 + n + 1 + m) * 40 ≤ 140737488355328) := ⟨by unfold maxLen; omega, by omega⟩
              have D1 : Hid (0 + N1 ≤ maxLen ∧ (0 + N1) * 40 ≤ 140737488355328) := ⟨by unfold maxLen; omega, by omega⟩
              have D2 : Hid (0 + N1 + 1 ≤ maxLen ∧ (0 + N1 + 1) * 40 ≤ 140737488355328) := ⟨by unfold maxLen; omega, by omega⟩
              have D3 : Hid (0 + N1 + 1 + N2 ≤ maxLen ∧ (0 + N1 + 1 + N2) * 40 ≤ 140737488355328) := ⟨by unfold maxLen; omega, by omega⟩
              obtain ⟨j0, hj, hy0, hy1, hy2⟩ := info_parts infoCr2
              clear hr hr2 hrS q0 q1 hg hg2 hS0 hok hok2 e1 e2 e3 e4 e5 e6 e7 hka hoa hl1 hl2 hz1 hz2 hN1 hN2 hlc hlm hs0 h5
              go_enter Try.func7, Try.ntmps7
              go_upto_region 8 with (first
                | (go_at_call 8; (with_reducible refine HG.out.mono ?_); rintro e w1 ⟨rfl, rfl⟩)
                | (go_at_call 8; (with_reducible refine HG2.out.mono ?_); rintro e w1 ⟨rfl, rfl⟩)
                | (go_at_call 10; (with_reducible refine HCol.out.mono ?_); rintro e w3 ⟨A1, c1, rfl, r1, b1⟩; have R1 := Lib.hid r1; have B4 := Lib.hid b1; clear r1 b1)
                | (go_at_call 10; (with_reducible refine (HCol2.out _ B4.out).mono ?_); rintro e w4 ⟨A2, c2, rfl, r2, b2⟩; have R2 := Lib.hid r2; have R1b := Lib.hid ((R1.out.below b2).more b2.size : Reads w4 w4.heap.size 5 A1 N1 (crL z1)); have B5 := Lib.hid (bel_trans B4.out b2); clear r2 b2))
              have HXB := Lib.hid (bel_alloc B5.out (.cells atmC 38))
              have HZ1 := Lib.hid (fun (X : World) (hX : Below w4.heap.size w4 X) => ((R1b.out.below hX).more hX.size : Reads X X.heap.size 5 A1 N1 (crL z1)))
              have HZ2 := Lib.hid (fun (X : World) (hX : Below w4.heap.size w4 X) => ((R2.out.below hX).more hX.size : Reads X X.heap.size 5 A2 N2 (crL z2)))
              have HX4 := Lib.hid (bel_alloc (Below.refl w4.heap.size w4) (.cells atmC 38))
              have KA := Lib.hid (Blk.new w4 38 atmC)
              obtain ⟨ga, hga⟩ : ∃ ga, w4.heap.size = ga := ⟨_, rfl⟩
              rw [hga] at KA
              generalize hwx : w4.alloc (.cells atmC 38) = wx at HXB KA HX4 ⊢
              try rw [hga]
              clear hwx
              have hga4 := Lib.hid hga
              clear hga
              go_cut [12, 13] (fun s e wy => ∃ Af cf, s = .slice Af (N1 + 1 + N2) cf ∧ e = .int .i64 0 ∧ Hid (Reads wy wy.heap.size 5 Af (N1 + 1 + N2) (crL (z1 ++ atm :: z2))) ∧ Hid (Below w.heap.size w wy) ∧ Hid (Below wx.heap.size wx wy) ∧ Hid (Blk wy ga 38 atmC))
              case first => as_aux_lemma =>
                refine wp_region_held_drew (S := fun X => Blk X ga 38 atmC) (by kernel_rfl) KA.out.drew (fun hS => ?_)
                generalize hV : wx.drew = V at hS ⊢
                have HVw : Below wx.heap.size wx V := by rw [← hV]; exact (Below.refl _ _).drew
                have hga := hS.lt
                have P1 := Lib.hid (World.ownsRow_lit (base := V.heap.size) (e := 38) (size := 5) V #[] 0 (Nat.le_refl _) (by simp [maxLen]) (by simp))
                have P2 := Lib.hid (P1.out.alloc (.cells atmC 38))
                have P3 := Lib.hid (show ((V.alloc (.cells atmC 38)).alloc (.cells #[] 38)).ownsRow V.heap.size 38 5 (.slice (some ⟨V.heap.size + 1, 0, none⟩) 0 0) 0 [] by
                  have := World.ownsRow_lit (base := V.heap.size) (e := 38) (size := 5) (V.alloc (.cells atmC 38)) #[] 0 (by simp) (by simp [maxLen]) (by simp)
                  simpa using this)
                have KB := Lib.hid (show Blk ((V.alloc (.cells #[] 38)).alloc (.cells atmC 38)) (V.heap.size + 1) 38 atmC by
                  have := Blk.new (V.alloc (.cells #[] 38)) 38 atmC
                  simpa using this)
                have KC := Lib.hid ((Blk.new V 38 atmC).alloc (.cells #[] 38))
                have HT := Lib.hid (fun X (hX : Below V.heap.size V X) => ((HR.out _ (bel_trans HXB.out HVw)).below hX : Reads X V.heap.size 5 A n (crL cs)))
                have HD := Lib.hid (fun X (hX : Below V.heap.size V X) => ((HR2.out _ (bel_trans HXB.out HVw)).below hX : Reads X V.heap.size 5 B m (crL ms)))
                refine wpAnyH_take (i := 1) (oi := _) (v := .slice A n c) rfl (by kernel_rfl) (by kernel_rfl) (by kernel_rfl) (fun _ _ _ h => h) (Or.inl ⟨by rfl, ?_⟩) hS ?_
                · intro wz hz
                  clear hz
                  go_simp
                try simp only [List.getElem_toArray, List.getElem_cons_zero, List.getElem_cons_succ, Act.put, List.setIfInBounds_toArray, List.set_cons_zero, List.set_cons_succ]
                refine wpAnyH_take (i := 3) (oi := _) (v := .agg #[.int .i32 65532, .int .i64 0, .int .i64 0, .int .i64 0, .int .u8 6]) rfl (by kernel_rfl) (by kernel_rfl) (by kernel_rfl) (fun _ _ _ h => h) (Or.inl ⟨by rfl, ?_⟩) hS ?_
                · intro wz hz
                  have k0 : wz.cell? ⟨ga, 0, none⟩ = some (.int .i32 65532) := hz.cell 0
                  have k1 : wz.cell? ⟨ga, 1, none⟩ = some (.int .i64 0) := hz.cell 1
                  have k2 : wz.cell? ⟨ga, 2, none⟩ = some (.int .i64 0) := hz.cell 2
                  have k3 : wz.cell? ⟨ga, 3, none⟩ = some (.int .i64 0) := hz.cell 3
                  have k4 : wz.cell? ⟨ga, 4, none⟩ = some (.int .u8 6) := hz.cell 4
                  clear hz
                  go_simp
                try simp only [List.getElem_toArray, List.getElem_cons_zero, List.getElem_cons_succ, Act.put, List.setIfInBounds_toArray, List.set_cons_zero, List.set_cons_succ]
                refine wpAnyH_take (i := 6) (oi := _) (v := .slice B m d) rfl (by kernel_rfl) (by kernel_rfl) (by kernel_rfl) (fun _ _ _ h => h) (Or.inl ⟨by rfl, ?_⟩) hS ?_
                · intro wz hz
                  clear hz
                  go_simp
                try simp only [List.getElem_toArray, List.getElem_cons_zero, List.getElem_cons_succ, Act.put, List.setIfInBounds_toArray, List.set_cons_zero, List.set_cons_succ]
                refine wpAnyH_take (i := 8) (oi := _) (v := .slice (some ad) nS cS) rfl (by kernel_rfl) (by kernel_rfl) (by kernel_rfl) (fun _ _ _ h => h) (Or.inl ⟨by rfl, ?_⟩) hS ?_
                · intro wz hz
                  clear hz
                  go_simp
                try simp only [List.getElem_toArray, List.getElem_cons_zero, List.getElem_cons_succ, Act.put, List.setIfInBounds_toArray, List.set_cons_zero, List.set_cons_succ]
                refine wpAnyH_ready (rs := [0, 4]) (by kernel_rfl) (by simp) ?_
                refine AllReadyH.cons rfl (fun K hK => ?_) ?_
                · skip
                  rw [if_pos (by rfl)]
                  go_simp
                  refine hK.out _ _ (hS.alloc _) (fun hS => ?_)
                  clear hK K
                  try simp only [List.getElem_toArray, List.getElem_cons_zero, List.getElem_cons_succ, Act.put, List.setIfInBounds_toArray, List.set_cons_zero, List.set_cons_succ]
                  refine wpAnyH_ready (rs := [2, 4]) (by kernel_rfl) (by simp) ?_
                  refine AllReadyH.cons rfl (fun K hK => ?_) ?_
                  · skip
                    rw [if_pos (by rfl)]
                    refine wp_append_any (V.alloc (.cells #[] 38)) (.tmp 56) (.tmp 57) 22 rfl V.heap.size 38 j0 (.agg #[.int .i32 0, .int .i64 0, .int .i64 0, .int .i64 0, .int .u8 0]) 5 40 Try.underlying22 hj hy0 hy1 hy2 rfl (by decide) (.slice (some ⟨V.heap.size, 0, none⟩) 0 0) 0 _ (by rfl) P1.out _ A n c (crL cs) (by rfl) (HT.out _ (bel_alloc (Below.refl V.heap.size V) (.cells #[] 38))) (one5 _) B1.out.1 B1.out.2 (bel_alloc (Below.refl V.heap.size V) (.cells #[] 38)).size ?_
                    intro v1 w1 p1 g1 _
                    have o1 := Lib.hid p1
                    have b1 := Lib.hid (bel_grown (bel_alloc (Below.refl V.heap.size V) (.cells #[] 38)) P1.out g1)
                    have s1 := Lib.hid (hS.grown g1 (fun e => by have := (World.ownsRow.lt P1.out _ e.symm).1; omega))
                    clear p1 g1
                    refine hK.out _ _ s1.out (fun hS => ?_)
                    clear hK K
                    try simp only [List.getElem_toArray, List.getElem_cons_zero, List.getElem_cons_succ, Act.put, List.setIfInBounds_toArray, List.set_cons_zero, List.set_cons_succ]
                    refine wpAnyH_ready (rs := [4]) (by kernel_rfl) (by simp) ?_
                    refine AllReadyH.cons rfl (fun K hK => ?_) ?_
                    · skip
                      rw [if_pos (by rfl)]
                      have KN := Lib.hid (Blk.new w1 38 atmC)
                      have o1 := Lib.hid (o1.out.alloc (.cells atmC 38))
                      have b1 := Lib.hid (bel_alloc b1.out (.cells atmC 38))
                      refine wp_buildSlice 22 38 1 #[(0, .tmp 59)] (by rfl) atmC j0 (.agg #[.int .i32 0, .int .i64 0, .int .i64 0, .int .i64 0, .int .u8 0]) Try.underlying22 hj hy0 (by rw [hy1]; decide) (by rw [hy1]; decide) (by simp only [hy1, List.map_toArray, List.map_cons, List.map_nil]; exact fillAtm) ?_
                      refine hK.out _ _ (hS.alloc _) (fun hS => ?_)
                      clear hK K
                      try simp only [List.getElem_toArray, List.getElem_cons_zero, List.getElem_cons_succ, Act.put, List.setIfInBounds_toArray, List.set_cons_zero, List.set_cons_succ]
                      refine wpAnyH_ready (rs := [5]) (by kernel_rfl) (by simp) ?_
                      refine AllReadyH.cons rfl (fun K hK => ?_) ?_
                      · skip
                        rw [if_pos (by rfl)]
                        refine wp_append_any (w1.alloc (.cells atmC 38)) (.tmp 58) (.tmp 60) 22 rfl V.heap.size 38 j0 (.agg #[.int .i32 0, .int .i64 0, .int .i64 0, .int .i64 0, .int .u8 0]) 5 40 Try.underlying22 hj hy0 hy1 hy2 rfl (by decide) (v1) _ _ (by rfl) o1.out _ (some ⟨w1.heap.size, 0, none⟩) 1 1 (crL [atm]) (by rfl) (reads_atm KN.out KN.out.lt) (one5 _) B2.out.1 B2.out.2 b1.out.size ?_
                        intro v2 w2 p2 g2 _
                        have o2 := Lib.hid p2
                        have b2 := Lib.hid (bel_grown b1.out o1.out g2)
                        have s2 := Lib.hid (hS.grown g2 (fun e => by have := (World.ownsRow.lt o1.out _ e.symm).1; omega))
                        clear p2 g2
                        refine hK.out _ _ s2.out (fun hS => ?_)
                        clear hK K
                        try simp only [List.getElem_toArray, List.getElem_cons_zero, List.getElem_cons_succ, Act.put, List.setIfInBounds_toArray, List.set_cons_zero, List.set_cons_succ]
                        refine wpAnyH_ready (rs := [7]) (by kernel_rfl) (by simp) ?_
                        refine AllReadyH.cons rfl (fun K hK => ?_) ?_
                        · skip
                          rw [if_pos (by rfl)]
                          refine wp_append_any w2 (.tmp 61) (.tmp 62) 22 rfl V.heap.size 38 j0 (.agg #[.int .i32 0, .int .i64 0, .int .i64 0, .int .i64 0, .int .u8 0]) 5 40 Try.underlying22 hj hy0 hy1 hy2 rfl (by decide) (v2) _ _ (by rfl) o2.out _ B m d (crL ms) (by rfl) (HD.out _ b2.out) (one5 _) B3.out.1 B3.out.2 b2.out.size ?_
                          intro v3 w3 p3 g3 _
                          have o3 := Lib.hid p3
                          have b3 := Lib.hid (bel_grown b2.out o2.out g3)
                          have s3 := Lib.hid (hS.grown g3 (fun e => by have := (World.ownsRow.lt o2.out _ e.symm).1; omega))
                          clear p3 g3
                          refine hK.out _ _ s3.out (fun hS => ?_)
                          clear hK K
                          try simp only [List.getElem_toArray, List.getElem_cons_zero, List.getElem_cons_succ, Act.put, List.setIfInBounds_toArray, List.set_cons_zero, List.set_cons_succ]
                          refine wpAnyH_ready (rs := [9]) (by kernel_rfl) (by simp) ?_
                          refine AllReadyH.cons rfl (fun K hK => ?_) ?_
                          · skip
                            rw [if_pos (by rfl)]
                            obtain ⟨A8, c8, e8, R8⟩ := own_to5 o3.out (show 0 + n + 1 + m = n + 1 + m by omega) (show _ = crL (cs ++ atm :: ms) by simp [crL])
                            subst e8
                            go_simp
                            (with_reducible refine (HCA.out A8 c8 _ (bel_trans (bel_trans HXB.out HVw) b3.out) R8).mono ?_)
                            rintro e wf ⟨Af, cf, rfl, rf, bf⟩
                            refine hK.out _ _ (hS.keep bf) (fun hS => ?_)
                            clear hK K
                            try simp only [List.getElem_toArray, List.getElem_cons_zero, List.getElem_cons_succ, Act.put, List.setIfInBounds_toArray, List.set_cons_zero, List.set_cons_succ]
                            refine wpAnyH_take (i := 10) (oi := _) (v := .tuple #[.slice Af (N1 + 1 + N2) cf, .int .i64 0]) rfl (by kernel_rfl) (by kernel_rfl) (by kernel_rfl) (fun _ _ _ h => h) (Or.inl ⟨by rfl, ?_⟩) hS ?_
                            · intro wz hz
                              clear hz
                              go_simp
                            try simp only [List.getElem_toArray, List.getElem_cons_zero, List.getElem_cons_succ, Act.put, List.setIfInBounds_toArray, List.set_cons_zero, List.set_cons_succ]
                            refine wpAnyH_take (i := 11) (oi := _) (v := .slice Af (N1 + 1 + N2) cf) rfl (by kernel_rfl) (by kernel_rfl) (by kernel_rfl) (fun _ _ _ h => h) (Or.inl ⟨by rfl, ?_⟩) hS ?_
                            · intro wz hz
                              clear hz
                              go_simp
                            try simp only [List.getElem_toArray, List.getElem_cons_zero, List.getElem_cons_succ, Act.put, List.setIfInBounds_toArray, List.set_cons_zero, List.set_cons_succ]
                            refine wpAnyH_take (i := 12) (oi := _) (v := .int .i64 0) rfl (by kernel_rfl) (by kernel_rfl) (by kernel_rfl) (fun _ _ _ h => h) (Or.inl ⟨by rfl, ?_⟩) hS ?_
                            · intro wz hz
                              clear hz
                              go_simp
                            try simp only [List.getElem_toArray, List.getElem_cons_zero, List.getElem_cons_succ, Act.put, List.setIfInBounds_toArray, List.set_cons_zero, List.set_cons_succ]
                            refine wpAnyH_take (i := 13) (oi := _) (v := .slice Af (N1 + 1 + N2) cf) rfl (by kernel_rfl) (by kernel_rfl) (by kernel_rfl) (fun _ _ _ h => h) (Or.inl ⟨by rfl, ?_⟩) hS ?_
                            · intro wz hz
                              clear hz
                              go_simp
                            try simp only [List.getElem_toArray, List.getElem_cons_zero, List.getElem_cons_succ, Act.put, List.setIfInBounds_toArray, List.set_cons_zero, List.set_cons_succ]
                            refine wpAnyH_take (i := 14) (oi := _) (v := .int .i64 0) rfl (by kernel_rfl) (by kernel_rfl) (by kernel_rfl) (fun _ _ _ h => h) (Or.inl ⟨by rfl, ?_⟩) hS ?_
                            · intro wz hz
                              clear hz
                              go_simp
                            try simp only [List.getElem_toArray, List.getElem_cons_zero, List.getElem_cons_succ, Act.put, List.setIfInBounds_toArray, List.set_cons_zero, List.set_cons_succ]
                            refine wpAnyH_done (by kernel_rfl) ?_ _
                            go_wp2
                            go_meet
                            exact ⟨_, _, rfl, rfl, Lib.hid rf, Lib.hid (bel_trans (bel_trans (bel_trans HXB.out HVw) b3.out) bf), Lib.hid (bel_trans (bel_trans HVw b3.out) bf), Lib.hid hS⟩
                          exact AllReadyH.nil
                        exact AllReadyH.nil
                      exact AllReadyH.nil
                    exact AllReadyH.nil
                  refine AllReadyH.cons rfl (fun K hK => ?_) ?_
                  · skip
                    rw [if_pos (by rfl)]
                    refine wp_buildSlice 22 38 1 #[(0, .tmp 59)] (by rfl) atmC j0 (.agg #[.int .i32 0, .int .i64 0, .int .i64 0, .int .i64 0, .int .u8 0]) Try.underlying22 hj hy0 (by rw [hy1]; decide) (by rw [hy1]; decide) (by simp only [hy1, List.map_toArray, List.map_cons, List.map_nil]; exact fillAtm) ?_
                    refine hK.out _ _ (hS.alloc _) (fun hS => ?_)
                    clear hK K
                    try simp only [List.getElem_toArray, List.getElem_cons_zero, List.getElem_cons_succ, Act.put, List.setIfInBounds_toArray, List.set_cons_zero, List.set_cons_succ]
                    refine wpAnyH_ready (rs := [2]) (by kernel_rfl) (by simp) ?_
                    refine AllReadyH.cons rfl (fun K hK => ?_) ?_
                    · skip
                      rw [if_pos (by rfl)]
                      refine wp_append_any ((V.alloc (.cells #[] 38)).alloc (.cells atmC 38)) (.tmp 56) (.tmp 57) 22 rfl V.heap.size 38 j0 (.agg #[.int .i32 0, .int .i64 0, .int .i64 0, .int .i64 0, .int .u8 0]) 5 40 Try.underlying22 hj hy0 hy1 hy2 rfl (by decide) (.slice (some ⟨V.heap.size, 0, none⟩) 0 0) 0 _ (by rfl) P2.out _ A n c (crL cs) (by rfl) (HT.out _ (bel_alloc (bel_alloc (Below.refl V.heap.size V) (.cells #[] 38)) (.cells atmC 38))) (one5 _) B1.out.1 B1.out.2 (bel_alloc (bel_alloc (Below.refl V.heap.size V) (.cells #[] 38)) (.cells atmC 38)).size ?_
                      intro v1 w1 p1 g1 _
                      have o1 := Lib.hid p1
                      have b1 := Lib.hid (bel_grown (bel_alloc (bel_alloc (Below.refl V.heap.size V) (.cells #[] 38)) (.cells atmC 38)) P2.out g1)
                      have s1 := Lib.hid (hS.grown g1 (fun e => by have := (World.ownsRow.lt P2.out _ e.symm).1; omega))
                      have K9 := Lib.hid (KB.out.grown g1 (by simp [Value.ownBlock]))
                      clear p1 g1
                      refine hK.out _ _ s1.out (fun hS => ?_)
                      clear hK K
                      try simp only [List.getElem_toArray, List.getElem_cons_zero, List.getElem_cons_succ, Act.put, List.setIfInBounds_toArray, List.set_cons_zero, List.set_cons_succ]
                      refine wpAnyH_ready (rs := [5]) (by kernel_rfl) (by simp) ?_
                      refine AllReadyH.cons rfl (fun K hK => ?_) ?_
                      · skip
                        rw [if_pos (by rfl)]
                        refine wp_append_any w1 (.tmp 58) (.tmp 60) 22 rfl V.heap.size 38 j0 (.agg #[.int .i32 0, .int .i64 0, .int .i64 0, .int .i64 0, .int .u8 0]) 5 40 Try.underlying22 hj hy0 hy1 hy2 rfl (by decide) (v1) _ _ (by rfl) o1.out _ (some ⟨(V.alloc (.cells #[] 38)).heap.size, 0, none⟩) 1 1 (crL [atm]) (by rfl) (reads_atm (by rw [World.size_alloc]; exact K9.out) (by rw [World.size_alloc]; exact K9.out.lt)) (one5 _) B2.out.1 B2.out.2 b1.out.size ?_
                        intro v2 w2 p2 g2 _
                        have o2 := Lib.hid p2
                        have b2 := Lib.hid (bel_grown b1.out o1.out g2)
                        have s2 := Lib.hid (hS.grown g2 (fun e => by have := (World.ownsRow.lt o1.out _ e.symm).1; omega))
                        clear p2 g2
                        refine hK.out _ _ s2.out (fun hS => ?_)
                        clear hK K
                        try simp only [List.getElem_toArray, List.getElem_cons_zero, List.getElem_cons_succ, Act.put, List.setIfInBounds_toArray, List.set_cons_zero, List.set_cons_succ]
                        refine wpAnyH_ready (rs := [7]) (by kernel_rfl) (by simp) ?_
                        refine AllReadyH.cons rfl (fun K hK => ?_) ?_
                        · skip
                          rw [if_pos (by rfl)]
                          refine wp_append_any w2 (.tmp 61) (.tmp 62) 22 rfl V.heap.size 38 j0 (.agg #[.int .i32 0, .int .i64 0, .int .i64 0, .int .i64 0, .int .u8 0]) 5 40 Try.underlying22 hj hy0 hy1 hy2 rfl (by decide) (v2) _ _ (by rfl) o2.out _ B m d (crL ms) (by rfl) (HD.out _ b2.out) (one5 _) B3.out.1 B3.out.2 b2.out.size ?_
                          intro v3 w3 p3 g3 _
                          have o3 := Lib.hid p3
                          have b3 := Lib.hid (bel_grown b2.out o2.out g3)
                          have s3 := Lib.hid (hS.grown g3 (fun e => by have := (World.ownsRow.lt o2.out _ e.symm).1; omega))
                          clear p3 g3
                          refine hK.out _ _ s3.out (fun hS => ?_)
                          clear hK K
                          try simp only [List.getElem_toArray, List.getElem_cons_zero, List.getElem_cons_succ, Act.put, List.setIfInBounds_toArray, List.set_cons_zero, List.set_cons_succ]
                          refine wpAnyH_ready (rs := [9]) (by kernel_rfl) (by simp) ?_
                          refine AllReadyH.cons rfl (fun K hK => ?_) ?_
                          · skip
                            rw [if_pos (by rfl)]
                            obtain ⟨A8, c8, e8, R8⟩ := own_to5 o3.out (show 0 + n + 1 + m = n + 1 + m by omega) (show _ = crL (cs ++ atm :: ms) by simp [crL])
                            subst e8
                            go_simp
                            (with_reducible refine (HCA.out A8 c8 _ (bel_trans (bel_trans HXB.out HVw) b3.out) R8).mono ?_)
                            rintro e wf ⟨Af, cf, rfl, rf, bf⟩
                            refine hK.out _ _ (hS.keep bf) (fun hS => ?_)
                            clear hK K
                            try simp only [List.getElem_toArray, List.getElem_cons_zero, List.getElem_cons_succ, Act.put, List.setIfInBounds_toArray, List.set_cons_zero, List.set_cons_succ]
                            refine wpAnyH_take (i := 10) (oi := _) (v := .tuple #[.slice Af (N1 + 1 + N2) cf, .int .i64 0]) rfl (by kernel_rfl) (by kernel_rfl) (by kernel_rfl) (fun _ _ _ h => h) (Or.inl ⟨by rfl, ?_⟩) hS ?_
                            · intro wz hz
                              clear hz
                              go_simp
                            try simp only [List.getElem_toArray, List.getElem_cons_zero, List.getElem_cons_succ, Act.put, List.setIfInBounds_toArray, List.set_cons_zero, List.set_cons_succ]
                            refine wpAnyH_take (i := 11) (oi := _) (v := .slice Af (N1 + 1 + N2) cf) rfl (by kernel_rfl) (by kernel_rfl) (by kernel_rfl) (fun _ _ _ h => h) (Or.inl ⟨by rfl, ?_⟩) hS ?_
                            · intro wz hz
                              clear hz
                              go_simp
                            try simp only [List.getElem_toArray, List.getElem_cons_zero, List.getElem_cons_succ, Act.put, List.setIfInBounds_toArray, List.set_cons_zero, List.set_cons_succ]
                            refine wpAnyH_take (i := 12) (oi := _) (v := .int .i64 0) rfl (by kernel_rfl) (by kernel_rfl) (by kernel_rfl) (fun _ _ _ h => h) (Or.inl ⟨by rfl, ?_⟩) hS ?_
                            · intro wz hz
                              clear hz
                              go_simp
                            try simp only [List.getElem_toArray, List.getElem_cons_zero, List.getElem_cons_succ, Act.put, List.setIfInBounds_toArray, List.set_cons_zero, List.set_cons_succ]
                            refine wpAnyH_take (i := 13) (oi := _) (v := .slice Af (N1 + 1 + N2) cf) rfl (by kernel_rfl) (by kernel_rfl) (by kernel_rfl) (fun _ _ _ h => h) (Or.inl ⟨by rfl, ?_⟩) hS ?_
                            · intro wz hz
                              clear hz
                              go_simp
                            try simp only [List.getElem_toArray, List.getElem_cons_zero, List.getElem_cons_succ, Act.put, List.setIfInBounds_toArray, List.set_cons_zero, List.set_cons_succ]
                            refine wpAnyH_take (i := 14) (oi := _) (v := .int .i64 0) rfl (by kernel_rfl) (by kernel_rfl) (by kernel_rfl) (fun _ _ _ h => h) (Or.inl ⟨by rfl, ?_⟩) hS ?_
                            · intro wz hz
                              clear hz
                              go_simp
                            try simp only [List.getElem_toArray, List.getElem_cons_zero, List.getElem_cons_succ, Act.put, List.setIfInBounds_toArray, List.set_cons_zero, List.set_cons_succ]
                            refine wpAnyH_done (by kernel_rfl) ?_ _
                            go_wp2
                            go_meet
                            exact ⟨_, _, rfl, rfl, Lib.hid rf, Lib.hid (bel_trans (bel_trans (bel_trans HXB.out HVw) b3.out) bf), Lib.hid (bel_trans (bel_trans HVw b3.out) bf), Lib.hid hS⟩
                          exact AllReadyH.nil
                        exact AllReadyH.nil
                      exact AllReadyH.nil
                    exact AllReadyH.nil
                  exact AllReadyH.nil
                refine AllReadyH.cons rfl (fun K hK => ?_) ?_
                · skip
                  rw [if_pos (by rfl)]
                  refine wp_buildSlice 22 38 1 #[(0, .tmp 59)] (by rfl) atmC j0 (.agg #[.int .i32 0, .int .i64 0, .int .i64 0, .int .i64 0, .int .u8 0]) Try.underlying22 hj hy0 (by rw [hy1]; decide) (by rw [hy1]; decide) (by simp only [hy1, List.map_toArray, List.map_cons, List.map_nil]; exact fillAtm) ?_
                  refine hK.out _ _ (hS.alloc _) (fun hS => ?_)
                  clear hK K
                  try simp only [List.getElem_toArray, List.getElem_cons_zero, List.getElem_cons_succ, Act.put, List.setIfInBounds_toArray, List.set_cons_zero, List.set_cons_succ]
                  refine wpAnyH_ready (rs := [0]) (by kernel_rfl) (by simp) ?_
                  refine AllReadyH.cons rfl (fun K hK => ?_) ?_
                  · skip
                    rw [if_pos (by rfl)]
                    go_simp
                    refine hK.out _ _ (hS.alloc _) (fun hS => ?_)
                    clear hK K
                    try simp only [List.getElem_toArray, List.getElem_cons_zero, List.getElem_cons_succ, Act.put, List.setIfInBounds_toArray, List.set_cons_zero, List.set_cons_succ]
                    refine wpAnyH_ready (rs := [2]) (by kernel_rfl) (by simp) ?_
                    refine AllReadyH.cons rfl (fun K hK => ?_) ?_
                    · skip
                      rw [if_pos (by rfl)]
                      refine wp_append_any ((V.alloc (.cells atmC 38)).alloc (.cells #[] 38)) (.tmp 56) (.tmp 57) 22 rfl V.heap.size 38 j0 (.agg #[.int .i32 0, .int .i64 0, .int .i64 0, .int .i64 0, .int .u8 0]) 5 40 Try.underlying22 hj hy0 hy1 hy2 rfl (by decide) (.slice (some ⟨V.heap.size + 1, 0, none⟩) 0 0) 0 _ (by rfl) P3.out _ A n c (crL cs) (by rfl) (HT.out _ (bel_alloc (bel_alloc (Below.refl V.heap.size V) (.cells atmC 38)) (.cells #[] 38))) (one5 _) B1.out.1 B1.out.2 (bel_alloc (bel_alloc (Below.refl V.heap.size V) (.cells atmC 38)) (.cells #[] 38)).size ?_
                      intro v1 w1 p1 g1 _
                      have o1 := Lib.hid p1
                      have b1 := Lib.hid (bel_grown (bel_alloc (bel_alloc (Below.refl V.heap.size V) (.cells atmC 38)) (.cells #[] 38)) P3.out g1)
                      have s1 := Lib.hid (hS.grown g1 (fun e => by have := (World.ownsRow.lt P3.out _ e.symm).1; omega))
                      have K9 := Lib.hid (KC.out.grown g1 (by simp [Value.ownBlock]))
                      clear p1 g1
                      refine hK.out _ _ s1.out (fun hS => ?_)
                      clear hK K
                      try simp only [List.getElem_toArray, List.getElem_cons_zero, List.getElem_cons_succ, Act.put, List.setIfInBounds_toArray, List.set_cons_zero, List.set_cons_succ]
                      refine wpAnyH_ready (rs := [5]) (by kernel_rfl) (by simp) ?_
                      refine AllReadyH.cons rfl (fun K hK => ?_) ?_
                      · skip
                        rw [if_pos (by rfl)]
                        refine wp_append_any w1 (.tmp 58) (.tmp 60) 22 rfl V.heap.size 38 j0 (.agg #[.int .i32 0, .int .i64 0, .int .i64 0, .int .i64 0, .int .u8 0]) 5 40 Try.underlying22 hj hy0 hy1 hy2 rfl (by decide) (v1) _ _ (by rfl) o1.out _ (some ⟨V.heap.size, 0, none⟩) 1 1 (crL [atm]) (by rfl) (reads_atm K9.out K9.out.lt) (one5 _) B2.out.1 B2.out.2 b1.out.size ?_
                        intro v2 w2 p2 g2 _
                        have o2 := Lib.hid p2
                        have b2 := Lib.hid (bel_grown b1.out o1.out g2)
                        have s2 := Lib.hid (hS.grown g2 (fun e => by have := (World.ownsRow.lt o1.out _ e.symm).1; omega))
                        clear p2 g2
                        refine hK.out _ _ s2.out (fun hS => ?_)
                        clear hK K
                        try simp only [List.getElem_toArray, List.getElem_cons_zero, List.getElem_cons_succ, Act.put, List.setIfInBounds_toArray, List.set_cons_zero, List.set_cons_succ]
                        refine wpAnyH_ready (rs := [7]) (by kernel_rfl) (by simp) ?_
                        refine AllReadyH.cons rfl (fun K hK => ?_) ?_
                        · skip
                          rw [if_pos (by rfl)]
                          refine wp_append_any w2 (.tmp 61) (.tmp 62) 22 rfl V.heap.size 38 j0 (.agg #[.int .i32 0, .int .i64 0, .int .i64 0, .int .i64 0, .int .u8 0]) 5 40 Try.underlying22 hj hy0 hy1 hy2 rfl (by decide) (v2) _ _ (by rfl) o2.out _ B m d (crL ms) (by rfl) (HD.out _ b2.out) (one5 _) B3.out.1 B3.out.2 b2.out.size ?_
                          intro v3 w3 p3 g3 _
                          have o3 := Lib.hid p3
                          have b3 := Lib.hid (bel_grown b2.out o2.out g3)
                          have s3 := Lib.hid (hS.grown g3 (fun e => by have := (World.ownsRow.lt o2.out _ e.symm).1; omega))
                          clear p3 g3
                          refine hK.out _ _ s3.out (fun hS => ?_)
                          clear hK K
                          try simp only [List.getElem_toArray, List.getElem_cons_zero, List.getElem_cons_succ, Act.put, List.setIfInBounds_toArray, List.set_cons_zero, List.set_cons_succ]
                          refine wpAnyH_ready (rs := [9]) (by kernel_rfl) (by simp) ?_
                          refine AllReadyH.cons rfl (fun K hK => ?_) ?_
                          · skip
                            rw [if_pos (by rfl)]
                            obtain ⟨A8, c8, e8, R8⟩ := own_to5 o3.out (show 0 + n + 1 + m = n + 1 + m by omega) (show _ = crL (cs ++ atm :: ms) by simp [crL])
                            subst e8
                            go_simp
                            (with_reducible refine (HCA.out A8 c8 _ (bel_trans (bel_trans HXB.out HVw) b3.out) R8).mono ?_)
                            rintro e wf ⟨Af, cf, rfl, rf, bf⟩
                            refine hK.out _ _ (hS.keep bf) (fun hS => ?_)
                            clear hK K
                            try simp only [List.getElem_toArray, List.getElem_cons_zero, List.getElem_cons_succ, Act.put, List.setIfInBounds_toArray, List.set_cons_zero, List.set_cons_succ]
                            refine wpAnyH_take (i := 10) (oi := _) (v := .tuple #[.slice Af (N1 + 1 + N2) cf, .int .i64 0]) rfl (by kernel_rfl) (by kernel_rfl) (by kernel_rfl) (fun _ _ _ h => h) (Or.inl ⟨by rfl, ?_⟩) hS ?_
                            · intro wz hz
                              clear hz
                              go_simp
                            try simp only [List.getElem_toArray, List.getElem_cons_zero, List.getElem_cons_succ, Act.put, List.setIfInBounds_toArray, List.set_cons_zero, List.set_cons_succ]
                            refine wpAnyH_take (i := 11) (oi := _) (v := .slice Af (N1 + 1 + N2) cf) rfl (by kernel_rfl) (by kernel_rfl) (by kernel_rfl) (fun _ _ _ h => h) (Or.inl ⟨by rfl, ?_⟩) hS ?_
                            · intro wz hz
                              clear hz
                              go_simp
                            try simp only [List.getElem_toArray, List.getElem_cons_zero, List.getElem_cons_succ, Act.put, List.setIfInBounds_toArray, List.set_cons_zero, List.set_cons_succ]
                            refine wpAnyH_take (i := 12) (oi := _) (v := .int .i64 0) rfl (by kernel_rfl) (by kernel_rfl) (by kernel_rfl) (fun _ _ _ h => h) (Or.inl ⟨by rfl, ?_⟩) hS ?_
                            · intro wz hz
                              clear hz
                              go_simp
                            try simp only [List.getElem_toArray, List.getElem_cons_zero, List.getElem_cons_succ, Act.put, List.setIfInBounds_toArray, List.set_cons_zero, List.set_cons_succ]
                            refine wpAnyH_take (i := 13) (oi := _) (v := .slice Af (N1 + 1 + N2) cf) rfl (by kernel_rfl) (by kernel_rfl) (by kernel_rfl) (fun _ _ _ h => h) (Or.inl ⟨by rfl, ?_⟩) hS ?_
                            · intro wz hz
                              clear hz
                              go_simp
                            try simp only [List.getElem_toArray, List.getElem_cons_zero, List.getElem_cons_succ, Act.put, List.setIfInBounds_toArray, List.set_cons_zero, List.set_cons_succ]
                            refine wpAnyH_take (i := 14) (oi := _) (v := .int .i64 0) rfl (by kernel_rfl) (by kernel_rfl) (by kernel_rfl) (fun _ _ _ h => h) (Or.inl ⟨by rfl, ?_⟩) hS ?_
                            · intro wz hz
                              clear hz
                              go_simp
                            try simp only [List.getElem_toArray, List.getElem_cons_zero, List.getElem_cons_succ, Act.put, List.setIfInBounds_toArray, List.set_cons_zero, List.set_cons_succ]
                            refine wpAnyH_done (by kernel_rfl) ?_ _
                            go_wp2
                            go_meet
                            exact ⟨_, _, rfl, rfl, Lib.hid rf, Lib.hid (bel_trans (bel_trans (bel_trans HXB.out HVw) b3.out) bf), Lib.hid (bel_trans (bel_trans HVw b3.out) bf), Lib.hid hS⟩
                          exact AllReadyH.nil
                        exact AllReadyH.nil
                      exact AllReadyH.nil
                    exact AllReadyH.nil
                  exact AllReadyH.nil
                exact AllReadyH.nil
              case rest =>
              obtain ⟨Af, cf, rfl, rfl, RF0, HYW, HYX, KA'⟩ := hcut
              have KA := KA'
              have HYB := Lib.hid (bel_trans HX4.out HYX.out)
              have RF := RF0
              go_upto_region 9 with fail
              refine wp_region_held_drew (S := fun X => Blk X ga 38 atmC) (by kernel_rfl) KA.out.drew (fun hS => ?_)
              generalize hV : wc.drew = V at hS ⊢
              have HVw : Below wc.heap.size wc V := by rw [← hV]; exact (Below.refl _ _).drew
              have hga := hS.lt
              have P1 := Lib.hid (World.ownsRow_lit (base := V.heap.size) (e := 38) (size := 5) V #[] 0 (Nat.le_refl _) (by simp [maxLen]) (by simp))
              have P2 := Lib.hid (P1.out.alloc (.cells atmC 38))
              have P3 := Lib.hid (show ((V.alloc (.cells atmC 38)).alloc (.cells #[] 38)).ownsRow V.heap.size 38 5 (.slice (some ⟨V.heap.size + 1, 0, none⟩) 0 0) 0 [] by
                have := World.ownsRow_lit (base := V.heap.size) (e := 38) (size := 5) (V.alloc (.cells atmC 38)) #[] 0 (by simp) (by simp [maxLen]) (by simp)
                simpa using this)
              have KB := Lib.hid (show Blk ((V.alloc (.cells #[] 38)).alloc (.cells atmC 38)) (V.heap.size + 1) 38 atmC by
                have := Blk.new (V.alloc (.cells #[] 38)) 38 atmC
                simpa using this)
              have KC := Lib.hid ((Blk.new V 38 atmC).alloc (.cells #[] 38))
              have HT := Lib.hid (fun X (hX : Below V.heap.size V X) => ((HZ1.out _ (bel_trans HYB.out HVw)).below hX : Reads X V.heap.size 5 A1 N1 (crL z1)))
              have HD := Lib.hid (fun X (hX : Below V.heap.size V X) => ((HZ2.out _ (bel_trans HYB.out HVw)).below hX : Reads X V.heap.size 5 A2 N2 (crL z2)))
              refine wpAnyH_take (i := 0) (oi := _) (v := .int .i64 0) rfl (by kernel_rfl) (by kernel_rfl) (by kernel_rfl) (fun _ _ _ h => h) (Or.inl ⟨by rfl, ?_⟩) hS ?_
              · intro wz hz
                clear hz
                go_simp
              try simp only [List.getElem_toArray, List.getElem_cons_zero, List.getElem_cons_succ, Act.put, List.setIfInBounds_toArray, List.set_cons_zero, List.set_cons_succ]
              refine wpAnyH_take (i := 1) (oi := _) (v := .bool true) rfl (by kernel_rfl) (by kernel_rfl) (by kernel_rfl) (fun _ _ _ h => h) (Or.inl ⟨by rfl, ?_⟩) hS ?_
              · intro wz hz
                clear hz
                go_simp
              try simp only [List.getElem_toArray, List.getElem_cons_zero, List.getElem_cons_succ, Act.put, List.setIfInBounds_toArray, List.set_cons_zero, List.set_cons_succ]
              refine wpAnyH_take (i := 2) (oi := _) (v := .bool true) rfl (by kernel_rfl) (by kernel_rfl) (by kernel_rfl) (fun _ _ _ h => h) (Or.inl ⟨by rfl, ?_⟩) hS ?_
              · intro wz hz
                clear hz
                go_simp
              try simp only [List.getElem_toArray, List.getElem_cons_zero, List.getElem_cons_succ, Act.put, List.setIfInBounds_toArray, List.set_cons_zero, List.set_cons_succ]
              refine wpAnyH_take (i := 3) (oi := _) (v := .slice Af (N1 + 1 + N2) cf) rfl (by kernel_rfl) (by kernel_rfl) (by kernel_rfl) (fun _ _ _ h => h) (Or.inl ⟨by rfl, ?_⟩) hS ?_
              · intro wz hz
                clear hz
                go_simp
              try simp only [List.getElem_toArray, List.getElem_cons_zero, List.getElem_cons_succ, Act.put, List.setIfInBounds_toArray, List.set_cons_zero, List.set_cons_succ]
              refine wpAnyH_take (i := 5) (oi := _) (v := .slice A1 N1 c1) rfl (by kernel_rfl) (by kernel_rfl) (by kernel_rfl) (fun _ _ _ h => h) (Or.inl ⟨by rfl, ?_⟩) hS ?_
              · intro wz hz
                clear hz
                go_simp
              try simp only [List.getElem_toArray, List.getElem_cons_zero, List.getElem_cons_succ, Act.put, List.setIfInBounds_toArray, List.set_cons_zero, List.set_cons_succ]
              refine wpAnyH_take (i := 7) (oi := _) (v := .agg #[.int .i32 65532, .int .i64 0, .int .i64 0, .int .i64 0, .int .u8 6]) rfl (by kernel_rfl) (by kernel_rfl) (by kernel_rfl) (fun _ _ _ h => h) (Or.inl ⟨by rfl, ?_⟩) hS ?_
              · intro wz hz
                have k0 : wz.cell? ⟨ga, 0, none⟩ = some (.int .i32 65532) := hz.cell 0
                have k1 : wz.cell? ⟨ga, 1, none⟩ = some (.int .i64 0) := hz.cell 1
                have k2 : wz.cell? ⟨ga, 2, none⟩ = some (.int .i64 0) := hz.cell 2
                have k3 : wz.cell? ⟨ga, 3, none⟩ = some (.int .i64 0) := hz.cell 3
                have k4 : wz.cell? ⟨ga, 4, none⟩ = some (.int .u8 6) := hz.cell 4
                clear hz
                go_simp
              try simp only [List.getElem_toArray, List.getElem_cons_zero, List.getElem_cons_succ, Act.put, List.setIfInBounds_toArray, List.set_cons_zero, List.set_cons_succ]
              refine wpAnyH_take (i := 10) (oi := _) (v := .slice A2 N2 c2) rfl (by kernel_rfl) (by kernel_rfl) (by kernel_rfl) (fun _ _ _ h => h) (Or.inl ⟨by rfl, ?_⟩) hS ?_
              · intro wz hz
                clear hz
                go_simp
              try simp only [List.getElem_toArray, List.getElem_cons_zero, List.getElem_cons_succ, Act.put, List.setIfInBounds_toArray, List.set_cons_zero, List.set_cons_succ]
              refine wpAnyH_ready (rs := [4, 8]) (by kernel_rfl) (by simp) ?_
              refine AllReadyH.cons rfl (fun K hK => ?_) ?_
              · skip
                rw [if_pos (by rfl)]
                go_simp
                refine hK.out _ _ (hS.alloc _) (fun hS => ?_)
                clear hK K
                try simp only [List.getElem_toArray, List.getElem_cons_zero, List.getElem_cons_succ, Act.put, List.setIfInBounds_toArray, List.set_cons_zero, List.set_cons_succ]
                refine wpAnyH_ready (rs := [6, 8]) (by kernel_rfl) (by simp) ?_
                refine AllReadyH.cons rfl (fun K hK => ?_) ?_
                · skip
                  rw [if_pos (by rfl)]
                  refine wp_append_any (V.alloc (.cells #[] 38)) (.tmp 72) (.tmp 73) 22 rfl V.heap.size 38 j0 (.agg #[.int .i32 0, .int .i64 0, .int .i64 0, .int .i64 0, .int .u8 0]) 5 40 Try.underlying22 hj hy0 hy1 hy2 rfl (by decide) (.slice (some ⟨V.heap.size, 0, none⟩) 0 0) 0 _ (by rfl) P1.out _ A1 N1 c1 (crL z1) (by rfl) (HT.out _ (bel_alloc (Below.refl V.heap.size V) (.cells #[] 38))) (one5 _) D1.out.1 D1.out.2 (bel_alloc (Below.refl V.heap.size V) (.cells #[] 38)).size ?_
                  intro v1 w1 p1 g1 _
                  have o1 := Lib.hid p1
                  have b1 := Lib.hid (bel_grown (bel_alloc (Below.refl V.heap.size V) (.cells #[] 38)) P1.out g1)
                  have s1 := Lib.hid (hS.grown g1 (fun e => by have := (World.ownsRow.lt P1.out _ e.symm).1; omega))
                  clear p1 g1
                  refine hK.out _ _ s1.out (fun hS => ?_)
                  clear hK K
                  try simp only [List.getElem_toArray, List.getElem_cons_zero, List.getElem_cons_succ, Act.put, List.setIfInBounds_toArray, List.set_cons_zero, List.set_cons_succ]
                  refine wpAnyH_ready (rs := [8]) (by kernel_rfl) (by simp) ?_
                  refine AllReadyH.cons rfl (fun K hK => ?_) ?_
                  · skip
                    rw [if_pos (by rfl)]
                    have KN := Lib.hid (Blk.new w1 38 atmC)
                    have o1 := Lib.hid (o1.out.alloc (.cells atmC 38))
                    have b1 := Lib.hid (bel_alloc b1.out (.cells atmC 38))
                    refine wp_buildSlice 22 38 1 #[(0, .tmp 75)] (by rfl) atmC j0 (.agg #[.int .i32 0, .int .i64 0, .int .i64 0, .int .i64 0, .int .u8 0]) Try.underlying22 hj hy0 (by rw [hy1]; decide) (by rw [hy1]; decide) (by simp only [hy1, List.map_toArray, List.map_cons, List.map_nil]; exact fillAtm) ?_
                    refine hK.out _ _ (hS.alloc _) (fun hS => ?_)
                    clear hK K
                    try simp only [List.getElem_toArray, List.getElem_cons_zero, List.getElem_cons_succ, Act.put, List.setIfInBounds_toArray, List.set_cons_zero, List.set_cons_succ]
                    refine wpAnyH_ready (rs := [9]) (by kernel_rfl) (by simp) ?_
                    refine AllReadyH.cons rfl (fun K hK => ?_) ?_
                    · skip
                      rw [if_pos (by rfl)]
                      refine wp_append_any (w1.alloc (.cells atmC 38)) (.tmp 74) (.tmp 76) 22 rfl V.heap.size 38 j0 (.agg #[.int .i32 0, .int .i64 0, .int .i64 0, .int .i64 0, .int .u8 0]) 5 40 Try.underlying22 hj hy0 hy1 hy2 rfl (by decide) (v1) _ _ (by rfl) o1.out _ (some ⟨w1.heap.size, 0, none⟩) 1 1 (crL [atm]) (by rfl) (reads_atm KN.out KN.out.lt) (one5 _) D2.out.1 D2.out.2 b1.out.size ?_
                      intro v2 w2 p2 g2 _
                      have o2 := Lib.hid p2
                      have b2 := Lib.hid (bel_grown b1.out o1.out g2)
                      have s2 := Lib.hid (hS.grown g2 (fun e => by have := (World.ownsRow.lt o1.out _ e.symm).1; omega))
                      clear p2 g2
                      refine hK.out _ _ s2.out (fun hS => ?_)
                      clear hK K
                      try simp only [List.getElem_toArray, List.getElem_cons_zero, List.getElem_cons_succ, Act.put, List.setIfInBounds_toArray, List.set_cons_zero, List.set_cons_succ]
                      refine wpAnyH_ready (rs := [11]) (by kernel_rfl) (by simp) ?_
                      refine AllReadyH.cons rfl (fun K hK => ?_) ?_
                      · skip
                        rw [if_pos (by rfl)]
                        refine wp_append_any w2 (.tmp 77) (.tmp 78) 22 rfl V.heap.size 38 j0 (.agg #[.int .i32 0, .int .i64 0, .int .i64 0, .int .i64 0, .int .u8 0]) 5 40 Try.underlying22 hj hy0 hy1 hy2 rfl (by decide) (v2) _ _ (by rfl) o2.out _ A2 N2 c2 (crL z2) (by rfl) (HD.out _ b2.out) (one5 _) D3.out.1 D3.out.2 b2.out.size ?_
                        intro v3 w3 p3 g3 _
                        have o3 := Lib.hid p3
                        have b3 := Lib.hid (bel_grown b2.out o2.out g3)
                        have s3 := Lib.hid (hS.grown g3 (fun e => by have := (World.ownsRow.lt o2.out _ e.symm).1; omega))
                        clear p3 g3
                        refine hK.out _ _ s3.out (fun hS => ?_)
                        clear hK K
                        try simp only [List.getElem_toArray, List.getElem_cons_zero, List.getElem_cons_succ, Act.put, List.setIfInBounds_toArray, List.set_cons_zero, List.set_cons_succ]
                        refine wpAnyH_ready (rs := [12]) (by kernel_rfl) (by simp) ?_
                        refine AllReadyH.cons rfl (fun K hK => ?_) ?_
                        · skip
                          rw [if_pos (by rfl)]
                          obtain ⟨A9, c9, e9, R9⟩ := own_to5 o3.out (show 0 + N1 + 1 + N2 = N1 + 1 + N2 by omega) (show _ = crL (z1 ++ atm :: z2) by simp [crL])
                          subst e9
                          have R8 := RF.out.below (bel_trans HVw b3.out)
                          go_simp
                          (with_reducible refine (HSa.out Af A9 cf c9 _ (R8.more (bel_trans HVw b3.out).size) R9).mono ?_)
                          rintro e wg ⟨rfl, bg⟩
                          refine hK.out _ _ (hS.keep bg) (fun hS => ?_)
                          clear hK K
                          try simp only [List.getElem_toArray, List.getElem_cons_zero, List.getElem_cons_succ, Act.put, List.setIfInBounds_toArray, List.set_cons_zero, List.set_cons_succ]
                          refine wpAnyH_take (i := 13) (oi := _) (v := .bool true) rfl (by kernel_rfl) (by kernel_rfl) (by kernel_rfl) (fun _ _ _ h => h) (Or.inl ⟨by rfl, ?_⟩) hS ?_
                          · intro wz hz
                            clear hz
                            go_simp
                          try simp only [List.getElem_toArray, List.getElem_cons_zero, List.getElem_cons_succ, Act.put, List.setIfInBounds_toArray, List.set_cons_zero, List.set_cons_succ]
                          refine wpAnyH_take (i := 14) (oi := _) (v := .bool true) rfl (by kernel_rfl) (by kernel_rfl) (by kernel_rfl) (fun _ _ _ h => h) (Or.inl ⟨by rfl, ?_⟩) hS ?_
                          · intro wz hz
                            clear hz
                            go_simp
                          try simp only [List.getElem_toArray, List.getElem_cons_zero, List.getElem_cons_succ, Act.put, List.setIfInBounds_toArray, List.set_cons_zero, List.set_cons_succ]
                          refine wpAnyH_ready (rs := [15]) (by kernel_rfl) (by simp) ?_
                          refine AllReadyH.cons rfl (fun K hK => ?_) ?_
                          · skip
                            rw [if_pos (by rfl)]
                            go_simp
                            (with_reducible refine (HH.out _).mono ?_)
                            rintro e wh ⟨rfl, bh⟩
                            refine hK.out _ _ (hS.keep bh) (fun hS => ?_)
                            clear hK K
                            try simp only [List.getElem_toArray, List.getElem_cons_zero, List.getElem_cons_succ, Act.put, List.setIfInBounds_toArray, List.set_cons_zero, List.set_cons_succ]
                            refine wpAnyH_take (i := 16) (oi := _) (v := .bool true) rfl (by kernel_rfl) (by kernel_rfl) (by kernel_rfl) (fun _ _ _ h => h) (Or.inl ⟨by rfl, ?_⟩) hS ?_
                            · intro wz hz
                              clear hz
                              go_simp
                            try simp only [List.getElem_toArray, List.getElem_cons_zero, List.getElem_cons_succ, Act.put, List.setIfInBounds_toArray, List.set_cons_zero, List.set_cons_succ]
                            refine wpAnyH_take (i := 17) (oi := _) (v := .bool true) rfl (by kernel_rfl) (by kernel_rfl) (by kernel_rfl) (fun _ _ _ h => h) (Or.inl ⟨by rfl, ?_⟩) hS ?_
                            · intro wz hz
                              clear hz
                              go_simp
                            try simp only [List.getElem_toArray, List.getElem_cons_zero, List.getElem_cons_succ, Act.put, List.setIfInBounds_toArray, List.set_cons_zero, List.set_cons_succ]
                            refine wpAnyH_done (by kernel_rfl) ?_ _
                            go_wp2
                            go_ret
                            exact ⟨rfl, bel_trans (bel_trans (bel_trans (bel_trans HYW.out HVw) b3.out) bg) bh⟩
                          exact AllReadyH.nil
                        exact AllReadyH.nil
                      exact AllReadyH.nil
                    exact AllReadyH.nil
                  exact AllReadyH.nil
                refine AllReadyH.cons rfl (fun K hK => ?_) ?_
                · skip
                  rw [if_pos (by rfl)]
                  refine wp_buildSlice 22 38 1 #[(0, .tmp 75)] (by rfl) atmC j0 (.agg #[.int .i32 0, .int .i64 0, .int .i64 0, .int .i64 0, .int .u8 0]) Try.underlying22 hj hy0 (by rw [hy1]; decide) (by rw [hy1]; decide) (by simp only [hy1, List.map_toArray, List.map_cons, List.map_nil]; exact fillAtm) ?_
                  refine hK.out _ _ (hS.alloc _) (fun hS => ?_)
                  clear hK K
                  try simp only [List.getElem_toArray, List.getElem_cons_zero, List.getElem_cons_succ, Act.put, List.setIfInBounds_toArray, List.set_cons_zero, List.set_cons_succ]
                  refine wpAnyH_ready (rs := [6]) (by kernel_rfl) (by simp) ?_
                  refine AllReadyH.cons rfl (fun K hK => ?_) ?_
                  · skip
                    rw [if_pos (by rfl)]
                    refine wp_append_any ((V.alloc (.cells #[] 38)).alloc (.cells atmC 38)) (.tmp 72) (.tmp 73) 22 rfl V.heap.size 38 j0 (.agg #[.int .i32 0, .int .i64 0, .int .i64 0, .int .i64 0, .int .u8 0]) 5 40 Try.underlying22 hj hy0 hy1 hy2 rfl (by decide) (.slice (some ⟨V.heap.size, 0, none⟩) 0 0) 0 _ (by rfl) P2.out _ A1 N1 c1 (crL z1) (by rfl) (HT.out _ (bel_alloc (bel_alloc (Below.refl V.heap.size V) (.cells #[] 38)) (.cells atmC 38))) (one5 _) D1.out.1 D1.out.2 (bel_alloc (bel_alloc (Below.refl V.heap.size V) (.cells #[] 38)) (.cells atmC 38)).size ?_
                    intro v1 w1 p1 g1 _
                    have o1 := Lib.hid p1
                    have b1 := Lib.hid (bel_grown (bel_alloc (bel_alloc (Below.refl V.heap.size V) (.cells #[] 38)) (.cells atmC 38)) P2.out g1)
                    have s1 := Lib.hid (hS.grown g1 (fun e => by have := (World.ownsRow.lt P2.out _ e.symm).1; omega))
                    have K9 := Lib.hid (KB.out.grown g1 (by simp [Value.ownBlock]))
                    clear p1 g1
                    refine hK.out _ _ s1.out (fun hS => ?_)
                    clear hK K
                    try simp only [List.getElem_toArray, List.getElem_cons_zero, List.getElem_cons_succ, Act.put, List.setIfInBounds_toArray, List.set_cons_zero, List.set_cons_succ]
                    refine wpAnyH_ready (rs := [9]) (by kernel_rfl) (by simp) ?_
                    refine AllReadyH.cons rfl (fun K hK => ?_) ?_
                    · skip
                      rw [if_pos (by rfl)]
                      refine wp_append_any w1 (.tmp 74) (.tmp 76) 22 rfl V.heap.size 38 j0 (.agg #[.int .i32 0, .int .i64 0, .int .i64 0, .int .i64 0, .int .u8 0]) 5 40 Try.underlying22 hj hy0 hy1 hy2 rfl (by decide) (v1) _ _ (by rfl) o1.out _ (some ⟨(V.alloc (.cells #[] 38)).heap.size, 0, none⟩) 1 1 (crL [atm]) (by rfl) (reads_atm (by rw [World.size_alloc]; exact K9.out) (by rw [World.size_alloc]; exact K9.out.lt)) (one5 _) D2.out.1 D2.out.2 b1.out.size ?_
                      intro v2 w2 p2 g2 _
                      have o2 := Lib.hid p2
                      have b2 := Lib.hid (bel_grown b1.out o1.out g2)
                      have s2 := Lib.hid (hS.grown g2 (fun e => by have := (World.ownsRow.lt o1.out _ e.symm).1; omega))
                      clear p2 g2
                      refine hK.out _ _ s2.out (fun hS => ?_)
                      clear hK K
                      try simp only [List.getElem_toArray, List.getElem_cons_zero, List.getElem_cons_succ, Act.put, List.setIfInBounds_toArray, List.set_cons_zero, List.set_cons_succ]
                      refine wpAnyH_ready (rs := [11]) (by kernel_rfl) (by simp) ?_
                      refine AllReadyH.cons rfl (fun K hK => ?_) ?_
                      · skip
                        rw [if_pos (by rfl)]
                        refine wp_append_any w2 (.tmp 77) (.tmp 78) 22 rfl V.heap.size 38 j0 (.agg #[.int .i32 0, .int .i64 0, .int .i64 0, .int .i64 0, .int .u8 0]) 5 40 Try.underlying22 hj hy0 hy1 hy2 rfl (by decide) (v2) _ _ (by rfl) o2.out _ A2 N2 c2 (crL z2) (by rfl) (HD.out _ b2.out) (one5 _) D3.out.1 D3.out.2 b2.out.size ?_
                        intro v3 w3 p3 g3 _
                        have o3 := Lib.hid p3
                        have b3 := Lib.hid (bel_grown b2.out o2.out g3)
                        have s3 := Lib.hid (hS.grown g3 (fun e => by have := (World.ownsRow.lt o2.out _ e.symm).1; omega))
                        clear p3 g3
                        refine hK.out _ _ s3.out (fun hS => ?_)
                        clear hK K
                        try simp only [List.getElem_toArray, List.getElem_cons_zero, List.getElem_cons_succ, Act.put, List.setIfInBounds_toArray, List.set_cons_zero, List.set_cons_succ]
                        refine wpAnyH_ready (rs := [12]) (by kernel_rfl) (by simp) ?_
                        refine AllReadyH.cons rfl (fun K hK => ?_) ?_
                        · skip
                          rw [if_pos (by rfl)]
                          obtain ⟨A9, c9, e9, R9⟩ := own_to5 o3.out (show 0 + N1 + 1 + N2 = N1 + 1 + N2 by omega) (show _ = crL (z1 ++ atm :: z2) by simp [crL])
                          subst e9
                          have R8 := RF.out.below (bel_trans HVw b3.out)
                          go_simp
                          (with_reducible refine (HSa.out Af A9 cf c9 _ (R8.more (bel_trans HVw b3.out).size) R9).mono ?_)
                          rintro e wg ⟨rfl, bg⟩
                          refine hK.out _ _ (hS.keep bg) (fun hS => ?_)
                          clear hK K
                          try simp only [List.getElem_toArray, List.getElem_cons_zero, List.getElem_cons_succ, Act.put, List.setIfInBounds_toArray, List.set_cons_zero, List.set_cons_succ]
                          refine wpAnyH_take (i := 13) (oi := _) (v := .bool true) rfl (by kernel_rfl) (by kernel_rfl) (by kernel_rfl) (fun _ _ _ h => h) (Or.inl ⟨by rfl, ?_⟩) hS ?_
                          · intro wz hz
                            clear hz
                            go_simp
                          try simp only [List.getElem_toArray, List.getElem_cons_zero, List.getElem_cons_succ, Act.put, List.setIfInBounds_toArray, List.set_cons_zero, List.set_cons_succ]
                          refine wpAnyH_take (i := 14) (oi := _) (v := .bool true) rfl (by kernel_rfl) (by kernel_rfl) (by kernel_rfl) (fun _ _ _ h => h) (Or.inl ⟨by rfl, ?_⟩) hS ?_
                          · intro wz hz
                            clear hz
                            go_simp
                          try simp only [List.getElem_toArray, List.getElem_cons_zero, List.getElem_cons_succ, Act.put, List.setIfInBounds_toArray, List.set_cons_zero, List.set_cons_succ]
                          refine wpAnyH_ready (rs := [15]) (by kernel_rfl) (by simp) ?_
                          refine AllReadyH.cons rfl (fun K hK => ?_) ?_
                          · skip
                            rw [if_pos (by rfl)]
                            go_simp
                            (with_reducible refine (HH.out _).mono ?_)
                            rintro e wh ⟨rfl, bh⟩
                            refine hK.out _ _ (hS.keep bh) (fun hS => ?_)
                            clear hK K
                            try simp only [List.getElem_toArray, List.getElem_cons_zero, List.getElem_cons_succ, Act.put, List.setIfInBounds_toArray, List.set_cons_zero, List.set_cons_succ]
                            refine wpAnyH_take (i := 16) (oi := _) (v := .bool true) rfl (by kernel_rfl) (by kernel_rfl) (by kernel_rfl) (fun _ _ _ h => h) (Or.inl ⟨by rfl, ?_⟩) hS ?_
                            · intro wz hz
                              clear hz
                              go_simp
                            try simp only [List.getElem_toArray, List.getElem_cons_zero, List.getElem_cons_succ, Act.put, List.setIfInBounds_toArray, List.set_cons_zero, List.set_cons_succ]
                            refine wpAnyH_take (i := 17) (oi := _) (v := .bool true) rfl (by kernel_rfl) (by kernel_rfl) (by kernel_rfl) (fun _ _ _ h => h) (Or.inl ⟨by rfl, ?_⟩) hS ?_
                            · intro wz hz
                              clear hz
                              go_simp
                            try simp only [List.getElem_toArray, List.getElem_cons_zero, List.getElem_cons_succ, Act.put, List.setIfInBounds_toArray, List.set_cons_zero, List.set_cons_succ]
                            refine wpAnyH_done (by kernel_rfl) ?_ _
                            go_wp2
                            go_ret
                            exact ⟨rfl, bel_trans (bel_trans (bel_trans (bel_trans HYW.out HVw) b3.out) bg) bh⟩
                          exact AllReadyH.nil
                        exact AllReadyH.nil
                      exact AllReadyH.nil
                    exact AllReadyH.nil
                  exact AllReadyH.nil
                exact AllReadyH.nil
              refine AllReadyH.cons rfl (fun K hK => ?_) ?_
              · skip
                rw [if_pos (by rfl)]
                refine wp_buildSlice 22 38 1 #[(0, .tmp 75)] (by rfl) atmC j0 (.agg #[.int .i32 0, .int .i64 0, .int .i64 0, .int .i64 0, .int .u8 0]) Try.underlying22 hj hy0 (by rw [hy1]; decide) (by rw [hy1]; decide) (by simp only [hy1, List.map_toArray, List.map_cons, List.map_nil]; exact fillAtm) ?_
                refine hK.out _ _ (hS.alloc _) (fun hS => ?_)
                clear hK K
                try simp only [List.getElem_toArray, List.getElem_cons_zero, List.getElem_cons_succ, Act.put, List.setIfInBounds_toArray, List.set_cons_zero, List.set_cons_succ]
                refine wpAnyH_ready (rs := [4]) (by kernel_rfl) (by simp) ?_
                refine AllReadyH.cons rfl (fun K hK => ?_) ?_
                · skip
                  rw [if_pos (by rfl)]
                  go_simp
                  refine hK.out _ _ (hS.alloc _) (fun hS => ?_)
                  clear hK K
                  try simp only [List.getElem_toArray, List.getElem_cons_zero, List.getElem_cons_succ, Act.put, List.setIfInBounds_toArray, List.set_cons_zero, List.set_cons_succ]
                  refine wpAnyH_ready (rs := [6]) (by kernel_rfl) (by simp) ?_
                  refine AllReadyH.cons rfl (fun K hK => ?_) ?_
                  · skip
                    rw [if_pos (by rfl)]
                    refine wp_append_any ((V.alloc (.cells atmC 38)).alloc (.cells #[] 38)) (.tmp 72) (.tmp 73) 22 rfl V.heap.size 38 j0 (.agg #[.int .i32 0, .int .i64 0, .int .i64 0, .int .i64 0, .int .u8 0]) 5 40 Try.underlying22 hj hy0 hy1 hy2 rfl (by decide) (.slice (some ⟨V.heap.size + 1, 0, none⟩) 0 0) 0 _ (by rfl) P3.out _ A1 N1 c1 (crL z1) (by rfl) (HT.out _ (bel_alloc (bel_alloc (Below.refl V.heap.size V) (.cells atmC 38)) (.cells #[] 38))) (one5 _) D1.out.1 D1.out.2 (bel_alloc (bel_alloc (Below.refl V.heap.size V) (.cells atmC 38)) (.cells #[] 38)).size ?_
                    intro v1 w1 p1 g1 _
                    have o1 := Lib.hid p1
                    have b1 := Lib.hid (bel_grown (bel_alloc (bel_alloc (Below.refl V.heap.size V) (.cells atmC 38)) (.cells #[] 38)) P3.out g1)
                    have s1 := Lib.hid (hS.grown g1 (fun e => by have := (World.ownsRow.lt P3.out _ e.symm).1; omega))
                    have K9 := Lib.hid (KC.out.grown g1 (by simp [Value.ownBlock]))
                    clear p1 g1
                    refine hK.out _ _ s1.out (fun hS => ?_)
                    clear hK K
                    try simp only [List.getElem_toArray, List.getElem_cons_zero, List.getElem_cons_succ, Act.put, List.setIfInBounds_toArray, List.set_cons_zero, List.set_cons_succ]
                    refine wpAnyH_ready (rs := [9]) (by kernel_rfl) (by simp) ?_
                    refine AllReadyH.cons rfl (fun K hK => ?_) ?_
                    · skip
                      rw [if_pos (by rfl)]
                      refine wp_append_any w1 (.tmp 74) (.tmp 76) 22 rfl V.heap.size 38 j0 (.agg #[.int .i32 0, .int .i64 0, .int .i64 0, .int .i64 0, .int .u8 0]) 5 40 Try.underlying22 hj hy0 hy1 hy2 rfl (by decide) (v1) _ _ (by rfl) o1.out _ (some ⟨V.heap.size, 0, none⟩) 1 1 (crL [atm]) (by rfl) (reads_atm K9.out K9.out.lt) (one5 _) D2.out.1 D2.out.2 b1.out.size ?_
                      intro v2 w2 p2 g2 _
                      have o2 := Lib.hid p2
                      have b2 := Lib.hid (bel_grown b1.out o1.out g2)
                      have s2 := Lib.hid (hS.grown g2 (fun e => by have := (World.ownsRow.lt o1.out _ e.symm).1; omega))
                      clear p2 g2
                      refine hK.out _ _ s2.out (fun hS => ?_)
                      clear hK K
                      try simp only [List.getElem_toArray, List.getElem_cons_zero, List.getElem_cons_succ, Act.put, List.setIfInBounds_toArray, List.set_cons_zero, List.set_cons_succ]
                      refine wpAnyH_ready (rs := [11]) (by kernel_rfl) (by simp) ?_
                      refine AllReadyH.cons rfl (fun K hK => ?_) ?_
                      · skip
                        rw [if_pos (by rfl)]
                        refine wp_append_any w2 (.tmp 77) (.tmp 78) 22 rfl V.heap.size 38 j0 (.agg #[.int .i32 0, .int .i64 0, .int .i64 0, .int .i64 0, .int .u8 0]) 5 40 Try.underlying22 hj hy0 hy1 hy2 rfl (by decide) (v2) _ _ (by rfl) o2.out _ A2 N2 c2 (crL z2) (by rfl) (HD.out _ b2.out) (one5 _) D3.out.1 D3.out.2 b2.out.size ?_
                        intro v3 w3 p3 g3 _
                        have o3 := Lib.hid p3
                        have b3 := Lib.hid (bel_grown b2.out o2.out g3)
                        have s3 := Lib.hid (hS.grown g3 (fun e => by have := (World.ownsRow.lt o2.out _ e.symm).1; omega))
                        clear p3 g3
                        refine hK.out _ _ s3.out (fun hS => ?_)
                        clear hK K
                        try simp only [List.getElem_toArray, List.getElem_cons_zero, List.getElem_cons_succ, Act.put, List.setIfInBounds_toArray, List.set_cons_zero, List.set_cons_succ]
                        refine wpAnyH_ready (rs := [12]) (by kernel_rfl) (by simp) ?_
                        refine AllReadyH.cons rfl (fun K hK => ?_) ?_
                        · skip
                          rw [if_pos (by rfl)]
                          obtain ⟨A9, c9, e9, R9⟩ := own_to5 o3.out (show 0 + N1 + 1 + N2 = N1 + 1 + N2 by omega) (show _ = crL (z1 ++ atm :: z2) by simp [crL])
                          subst e9
                          have R8 := RF.out.below (bel_trans HVw b3.out)
                          go_simp
                          (with_reducible refine (HSa.out Af A9 cf c9 _ (R8.more (bel_trans HVw b3.out).size) R9).mono ?_)
                          rintro e wg ⟨rfl, bg⟩
                          refine hK.out _ _ (hS.keep bg) (fun hS => ?_)
                          clear hK K
                          try simp only [List.getElem_toArray, List.getElem_cons_zero, List.getElem_cons_succ, Act.put, List.setIfInBounds_toArray, List.set_cons_zero, List.set_cons_succ]
                          refine wpAnyH_take (i := 13) (oi := _) (v := .bool true) rfl (by kernel_rfl) (by kernel_rfl) (by kernel_rfl) (fun _ _ _ h => h) (Or.inl ⟨by rfl, ?_⟩) hS ?_
                          · intro wz hz
                            clear hz
                            go_simp
                          try simp only [List.getElem_toArray, List.getElem_cons_zero, List.getElem_cons_succ, Act.put, List.setIfInBounds_toArray, List.set_cons_zero, List.set_cons_succ]
                          refine wpAnyH_take (i := 14) (oi := _) (v := .bool true) rfl (by kernel_rfl) (by kernel_rfl) (by kernel_rfl) (fun _ _ _ h => h) (Or.inl ⟨by rfl, ?_⟩) hS ?_
                          · intro wz hz
                            clear hz
                            go_simp
                          try simp only [List.getElem_toArray, List.getElem_cons_zero, List.getElem_cons_succ, Act.put, List.setIfInBounds_toArray, List.set_cons_zero, List.set_cons_succ]
                          refine wpAnyH_ready (rs := [15]) (by kernel_rfl) (by simp) ?_
                          refine AllReadyH.cons rfl (fun K hK => ?_) ?_
                          · skip
                            rw [if_pos (by rfl)]
                            go_simp
                            (with_reducible refine (HH.out _).mono ?_)
                            rintro e wh ⟨rfl, bh⟩
                            refine hK.out _ _ (hS.keep bh) (fun hS => ?_)
                            clear hK K
                            try simp only [List.getElem_toArray, List.getElem_cons_zero, List.getElem_cons_succ, Act.put, List.setIfInBounds_toArray, List.set_cons_zero, List.set_cons_succ]
                            refine wpAnyH_take (i := 16) (oi := _) (v := .bool true) rfl (by kernel_rfl) (by kernel_rfl) (by kernel_rfl) (fun _ _ _ h => h) (Or.inl ⟨by rfl, ?_⟩) hS ?_
                            · intro wz hz
                              clear hz
                              go_simp
                            try simp only [List.getElem_toArray, List.getElem_cons_zero, List.getElem_cons_succ, Act.put, List.setIfInBounds_toArray, List.set_cons_zero, List.set_cons_succ]
                            refine wpAnyH_take (i := 17) (oi := _) (v := .bool true) rfl (by kernel_rfl) (by kernel_rfl) (by kernel_rfl) (fun _ _ _ h => h) (Or.inl ⟨by rfl, ?_⟩) hS ?_
                            · intro wz hz
                              clear hz
                              go_simp
                            try simp only [List.getElem_toArray, List.getElem_cons_zero, List.getElem_cons_succ, Act.put, List.setIfInBounds_toArray, List.set_cons_zero, List.set_cons_succ]
                            refine wpAnyH_done (by kernel_rfl) ?_ _
                            go_wp2
                            go_ret
                            exact ⟨rfl, bel_trans (bel_trans (bel_trans (bel_trans HYW.out HVw) b3.out) bg) bh⟩
                          exact AllReadyH.nil
                        exact AllReadyH.nil
                      exact AllReadyH.nil
                    exact AllReadyH.nil
                  exact AllReadyH.nil
                exact AllReadyH.nil
              exact AllReadyH.nil
            · have hok2 : okAll ss ms = false := by simpa using hok2
              have e3 : ansL ss ms = [] := by unfold ansL; rw [hok2]; rfl
              have e4 : ansE ss ms = 2 := by unfold ansE; rw [hok2]; rfl
              rw [e3, e4] at HCol2
              clear hr hr2 hrS q0 q1 hg hg2 hS0 hok hok2 e1 e2 e3 e4 hlc hlm hs0 h5
              go_enter Try.func7, Try.ntmps7
              go_wp2_with (first
                | (go_at_call 8; (with_reducible refine HG.out.mono ?_); rintro e w1 ⟨rfl, rfl⟩)
                | (go_at_call 8; (with_reducible refine HG2.out.mono ?_); rintro e w1 ⟨rfl, rfl⟩)
                | (go_at_call 10; (with_reducible refine HCol.out.mono ?_); rintro e w3 ⟨A1, c1, rfl, r1, b1⟩; have B4 := Lib.hid b1; clear r1 b1)
                | (go_at_call 10; (with_reducible refine (HCol2.out _ B4.out).mono ?_); rintro e w4 ⟨A2, c2, rfl, r2, b2⟩; have B5 := Lib.hid (bel_trans B4.out b2); clear r2 b2)
                | (go_at_call 9; (with_reducible refine (HH.out _).mono ?_); rintro e w9 ⟨rfl, b⟩; have T6 := Lib.hid (bel_trans B5.out b); clear b))
              go_ret
              exact ⟨rfl, T6.out⟩
          · have hok : okAll ss cs = false := by simpa using hok
            have e1 : ansL ss cs = [] := by unfold ansL; rw [hok]; rfl
            have e2 : ansE ss cs = 2 := by unfold ansE; rw [hok]; rfl
            rw [e1, e2] at HCol
            clear hr hr2 hrS q0 q1 hg hg2 hS0 hok e1 e2 hlc hlm hs0 h5
            go_enter Try.func7, Try.ntmps7
            go_wp2_with (first
              | (go_at_call 8; (with_reducible refine HG.out.mono ?_); rintro e w1 ⟨rfl, rfl⟩)
              | (go_at_call 8; (with_reducible refine HG2.out.mono ?_); rintro e w1 ⟨rfl, rfl⟩)
              | (go_at_call 10; (with_reducible refine HCol.out.mono ?_); rintro e w3 ⟨A1, c1, rfl, r1, b1⟩; have B4 := Lib.hid b1; clear r1 b1)
              | (go_at_call 10; (with_reducible refine (HCol2.out _ B4.out).mono ?_); rintro e w4 ⟨A2, c2, rfl, r2, b2⟩; have B5 := Lib.hid (bel_trans B4.out b2); clear r2 b2)
              | (go_at_call 9; (with_reducible refine (HH.out _).mono ?_); rintro e w9 ⟨rfl, b⟩; have T6 := Lib.hid (bel_trans B5.out b); clear b))
            go_ret
            exact ⟨rfl, T6.out⟩
        · have p5 : decide (5 < s.white) = true := decide_eq_true (by omega)
          clear hr hr2 hrS q0 q1 hg hg2 hS0 hs0 h5
          go_enter Try.func7, Try.ntmps7
          go_wp2_with (first
            | (go_at_call 8; (with_reducible refine HG.out.mono ?_); rintro e w1 ⟨rfl, rfl⟩)
            | (go_at_call 8; (with_reducible refine HG2.out.mono ?_); rintro e w1 ⟨rfl, rfl⟩)
            | (go_at_call 9; (with_reducible refine (HH.out _).mono ?_); rintro e w9 ⟨rfl, b⟩; have T6 := Lib.hid b; clear b))
          go_ret
          exact ⟨rfl, T6.out⟩
    · have q1 : greatB m nS = true := by unfold greatB; rw [decide_eq_true (by omega)]; rfl
      rw [q1] at HG2
      clear hr hr2 hrS q0 q1 hg hg2
      go_enter Try.func7, Try.ntmps7
      go_wp2_with (first
        | (go_at_call 8; (with_reducible refine HG.out.mono ?_); rintro e w1 ⟨rfl, rfl⟩)
        | (go_at_call 8; (with_reducible refine HG2.out.mono ?_); rintro e w1 ⟨rfl, rfl⟩)
        | (go_at_call 9; (with_reducible refine (HH.out _).mono ?_); rintro e w9 ⟨rfl, b⟩; have T6 := Lib.hid b; clear b))
      go_ret
      exact ⟨rfl, T6.out⟩
  · have q0 : greatB n nS = true := by unfold greatB; rcases (show 150 < n ∨ 40 < nS by omega) with h | h <;> simp [h]
    rw [q0] at HG
    clear hr hr2 hrS q0 hg
    go_enter Try.func7, Try.ntmps7
    go_wp2_with (first
      | (go_at_call 8; (with_reducible refine HG.out.mono ?_); rintro e w1 ⟨rfl, rfl⟩)
      | (go_at_call 9; (with_reducible refine (HH.out _).mono ?_); rintro e w9 ⟨rfl, b⟩; have T6 := Lib.hid b; clear b))
    go_ret
    exact ⟨rfl, T6.out⟩
end Go.Proofs.Ytmjacmjogckihaa.White

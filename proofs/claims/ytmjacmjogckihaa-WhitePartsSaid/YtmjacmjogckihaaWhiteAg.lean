/- Chapter 8: the law WhiteAgain, walked. No condition. -/
import Derived.Test.YtmjacmjogckihaaWhiteX
import Derived.Deep.RegionHeld
namespace Go.Proofs.Ytmjacmjogckihaa.White
open Go.RowKit Utf
set_option linter.unusedVariables false
set_option linter.unusedSimpArgs false
theorem own_store {W : World} {base e size n cap g : Nat} {xs : List Value} (h : W.ownsRow base e size (.slice (some ⟨g, 0, none⟩) n cap) n xs) (q : Nat) (u : Value) : (W.setCell ⟨g, q, none⟩ u).ownsRow base e size (.slice (some ⟨g, 0, none⟩) n cap) n (xs.set q u) := by
  refine ⟨by rw [List.length_set]; exact h.1, .inr ?_⟩
  rcases h.2 with ⟨hv, _⟩ | ⟨g', cap', cur, hv, hB, hg, h1, h2, h3, h4⟩
  · cases hv
  · injection hv with i1 i2 i3
    injection i1 with i1
    injection i1 with i1
    subst i1 i3
    have hb : Blk W g e cur := hg
    refine ⟨g, cap, cur.setIfInBounds q u, rfl, hB, hb.set_ q u, h1, h2, by rw [Array.size_setIfInBounds]; exact h3, ?_⟩
    rw [Array.toList_setIfInBounds, List.take_set, h4]
theorem own_block_at {W : World} {base e size n c : Nat} {A : Option Addr} {xs : List Value} (h : W.ownsRow base e size (.slice A n c) n xs) (hn : 0 < n) : ∃ g, A = some ⟨g, 0, none⟩ ∧ base ≤ g ∧ (∀ q, W.frozen? ⟨g, q, none⟩ = false) := by
  rcases h.2 with ⟨_, h0⟩ | ⟨g, cap, cur, hv, hB, hg, _⟩
  · omega
  · injection hv with i1
    have hb : Blk W g e cur := hg
    exact ⟨g, i1, hB, fun q => hb.frozen q⟩
theorem add_new (g m : Nat) : (⟨g, 0, none⟩ : Addr).add m = ⟨g, m, none⟩ := by
  unfold Addr.add
  split
  · rename_i h; rw [h]
  · simp
theorem one5 (xs : List Cr) : ∀ u ∈ crL xs, u.oneCell' = true := fun u hu => by
  unfold crL at hu
  obtain ⟨x, _, hx⟩ := List.mem_flatMap.1 hu
  unfold crC at hx
  rcases List.mem_cons.1 hx with rfl | hx
  · rfl
  rcases List.mem_cons.1 hx with rfl | hx
  · rfl
  rcases List.mem_cons.1 hx with rfl | hx
  · rfl
  rcases List.mem_cons.1 hx with rfl | hx
  · rfl
  rcases List.mem_cons.1 hx with rfl | hx
  · rfl
  cases hx
theorem crL_setk : ∀ (xs : List Cr) (k : Nat) (z : Cr) (v : Int), xs[k]? = some z → (crL xs).set (k * 5 + 4) (.int .u8 v) = crL (xs.set k { z with kind := v })
  | [], k, z, v, h => by simp at h
  | x :: xs, 0, z, v, h => by
    simp at h
    subst h
    rfl
  | x :: xs, k + 1, z, v, h => by
    have ih := crL_setk xs k z v (by simpa using h)
    rw [crL_cons, List.set_cons_succ, crL_cons, ← ih]
    have : (k + 1) * 5 + 4 = (crC x).length + (k * 5 + 4) := by simp [crC]; omega
    rw [this, List.set_append_right _ _ (by omega)]
    congr 2
    omega
/-- The first ones turned. -/
def mix (f : Cr → Cr) (zs : List Cr) (k : Nat) : List Cr := (zs.take k).map f ++ zs.drop k
theorem mix_zero (f : Cr → Cr) (zs : List Cr) : mix f zs 0 = zs := rfl
theorem mix_all (f : Cr → Cr) (zs : List Cr) (n : Nat) (h : zs.length ≤ n) : mix f zs n = zs.map f := by unfold mix; rw [List.take_of_length_le h, List.drop_of_length_le h, List.append_nil]
theorem mix_at (f : Cr → Cr) (zs : List Cr) (k : Nat) (z : Cr) (h : zs[k]? = some z) : (mix f zs k)[k]? = some z := by
  unfold mix
  have hk := (List.getElem?_eq_some_iff.1 h).1
  rw [List.getElem?_append_right (by rw [List.length_map, List.length_take]; omega), List.length_map, List.length_take, List.getElem?_drop, Nat.min_eq_left (by omega)]
  simpa using h
theorem mix_succ (f : Cr → Cr) (zs : List Cr) (k : Nat) (z : Cr) (h : zs[k]? = some z) : mix f zs (k + 1) = (zs.take k).map f ++ f z :: zs.drop (k + 1) := by
  unfold mix
  obtain ⟨hk, rfl⟩ := List.getElem?_eq_some_iff.1 h
  rw [List.take_succ_eq_append_getElem hk, List.map_append, List.append_assoc]
  rfl
theorem mix_old (f : Cr → Cr) (zs : List Cr) (k : Nat) (z : Cr) (h : zs[k]? = some z) : mix f zs k = (zs.take k).map f ++ z :: zs.drop (k + 1) := by
  unfold mix
  rw [drop_step zs k z h]
theorem mix_same (f : Cr → Cr) (zs : List Cr) (k : Nat) (z : Cr) (h : zs[k]? = some z) (e : f z = z) : mix f zs (k + 1) = mix f zs k := by rw [mix_succ f zs k z h, mix_old f zs k z h, e]
theorem mix_set (f : Cr → Cr) (zs : List Cr) (k : Nat) (z : Cr) (h : zs[k]? = some z) : (mix f zs k).set k (f z) = mix f zs (k + 1) := by
  have hk := (List.getElem?_eq_some_iff.1 h).1
  rw [mix_succ f zs k z h, mix_old f zs k z h, List.set_append_right _ _ (by rw [List.length_map, List.length_take]; omega), List.length_map, List.length_take, Nat.min_eq_left (by omega), Nat.sub_self]
  rfl
set_option maxHeartbeats 16000000 in
set_option maxRecDepth 40000 in
theorem WhiteAgain_any (A : Option Addr) (n c : Nat) (cs : List Cr) (AS : Option Addr) (nS cS : Nat) (ss : List St) (w : World) (hr : Reads w w.heap.size 5 A n (crL cs)) (hrS : Reads w w.heap.size 9 AS nS (stL ss)) :
    Calls Try.prog 6 #[.slice A n c, .slice AS nS cS] w fun e w' => e = .returned (.bool true) ∧ Below w.heap.size w w' := by
  have HG := Lib.hid (great_any A n c AS nS cS w)
  have HH := Lib.hid (fun V => head_any V)
  by_cases hg : n ≤ 150 ∧ nS ≤ 40
  · have q0 : greatB n nS = false := by unfold greatB; rw [decide_eq_false (by omega), decide_eq_false (by omega)]; rfl
    rw [q0] at HG
    have hlc := len_cr hr
    have HMd := Lib.hid (made_any A n c cs (by omega) w hr)
    by_cases hmd : cs.any mdB = true
    · rw [hmd] at HMd
      clear hr hrS q0 hg hlc hmd
      go_enter Try.func6, Try.ntmps6
      go_wp2_with (first
        | (go_at_call 8; (with_reducible refine HG.out.mono ?_); rintro e w1 ⟨rfl, rfl⟩)
        | (go_at_call 19; (with_reducible refine HMd.out.mono ?_); rintro e w2 ⟨rfl, b2⟩; have B2 := Lib.hid b2; clear b2)
        | (go_at_call 9; (with_reducible refine (HH.out _).mono ?_); rintro e w9 ⟨rfl, b⟩; have T6 := Lib.hid (bel_trans B2.out b); clear b))
      go_ret
      exact ⟨rfl, T6.out⟩
    · have hmd : cs.any mdB = false := by simpa using hmd
      rw [hmd] at HMd
      have HCol := Lib.hid (fun (V : World) (hV : Below w.heap.size w V) => (Collapse_any A n c cs AS nS cS ss (by omega) (by omega) V ((hr.below hV).more hV.size) ((hrS.below hV).more hV.size)).mono (fun e w' h => ans_of h))
      by_cases hok : okAll ss cs = true
      · have hI := mdB_in hok hmd
        have hln := len_out ss cs
        have hoa := out_again ss cs hI
        have hka := ok_again ss cs hI hok
        have e1 : ansL ss cs = outL ss cs := by unfold ansL; rw [hok]; rfl
        have e2 : ansE ss cs = 0 := by unfold ansE; rw [hok]; rfl
        rw [e1, e2] at HCol
        obtain ⟨zs, hzs⟩ : ∃ zs, outL ss cs = zs := ⟨_, rfl⟩
        rw [hzs] at HCol hln hoa hka
        obtain ⟨N, hN⟩ : ∃ N, zs.length = N := ⟨_, rfl⟩
        have e3 : ansL ss (zs.map again) = zs := by unfold ansL; rw [hka, if_pos rfl, hoa]
        have e4 : ansE ss (zs.map again) = 0 := by unfold ansE; rw [hka]; rfl
        have HCol2 := Lib.hid (fun (A4 : Option Addr) (c4 : Nat) (V : World) (hV : Below w.heap.size w V) (hR : Reads V V.heap.size 5 A4 N (crL (zs.map again))) => (Collapse_any A4 N c4 (zs.map again) AS nS cS ss (by omega) (by omega) V hR ((hrS.below hV).more hV.size)).mono (fun e w' h => ans_of h))
        rw [e3, e4, hN] at HCol2
        rw [hN] at HCol hln
        have HSa := Lib.hid (fun (A1 A2 : Option Addr) (c1 c2 : Nat) (V : World) (h1 : Reads V V.heap.size 5 A1 N (crL zs)) (h2 : Reads V V.heap.size 5 A2 N (crL zs)) => (same_any A1 A2 N N c1 c2 V.heap.size zs zs V hN hN h1 h2 (by omega) (by omega)).mono fun e w' h => (⟨by rw [h.1]; unfold sameCr; simp, h.2.below⟩ : e = .returned (.bool true) ∧ Below V.heap.size V w'))
        have nN : N ≤ 150 := by omega
        have nI : (N : Int) ≤ 150 := by omega
        have HN := Lib.hid hN
        obtain ⟨j0, hj, hy0, hy1, hy2⟩ := info_parts infoCr2
        clear hr hrS q0 hg hlc hmd hok hI hln e1 e2 e3 e4 hzs hN hoa hka
        go_enter Try.func6, Try.ntmps6
        go_wp2_with (first
          | (go_at_call 8; (with_reducible refine HG.out.mono ?_); rintro e w1 ⟨rfl, rfl⟩)
          | (go_at_call 19; (with_reducible refine HMd.out.mono ?_); rintro e w2 ⟨rfl, b2⟩; have B2 := Lib.hid b2; clear b2)
          | (go_at_call 10; (with_reducible refine (HCol.out _ B2.out).mono ?_); rintro e w3 ⟨A1, c1, rfl, r1, b1⟩; have R1 := Lib.hid r1; have B3 := Lib.hid (bel_trans B2.out b1); have P0 := Lib.hid (World.ownsRow_lit (base := w3.heap.size) (e := 38) (size := 5) w3 #[] 0 (Nat.le_refl _) (by simp [maxLen]) (by simp)); have R1a := Lib.hid (r1.alloc (Nat.le_refl _) (.cells #[] 38) : Reads _ w3.heap.size 5 A1 N (crL zs)); clear r1 b1)
          | (at_builtin; refine wpList_append_any _ rfl (.tmp 29) (.tmp 30) 22 rfl w3.heap.size 38 j0 (.agg #[.int .i32 0, .int .i64 0, .int .i64 0, .int .i64 0, .int .u8 0]) 5 40 Try.underlying22 hj hy0 hy1 hy2 rfl (by decide) (.slice (some ⟨w3.heap.size, 0, none⟩) 0 0) 0 [] rfl P0.out w3.heap.size A1 N c1 (crL zs) rfl R1a.out (one5 _) ?e1 ?f1 ?g1 ?_))
        case e1 => unfold maxLen; omega
        case f1 => omega
        case g1 => simp only [World.size_alloc]; omega
        intro v4 w4 o4 hg4 _
        obtain ⟨A4, c4, rfl⟩ := own_shape o4
        have B4 := Lib.hid (bel_grown (bel_alloc (Below.refl w3.heap.size w3) _) P0.out hg4)
        have O4 := Lib.hid o4
        clear o4 hg4
        go_wp2
        go_loopw [8, 9] (fun i q wr => ∃ k : Nat, i = .int .i64 k ∧ k ≤ N ∧ Hid (wr.ownsRow w3.heap.size 38 5 (.slice A4 N c4) N (crL (mix again zs k))) ∧ Hid (Below w3.heap.size w3 wr)) (fun i _ _ => N - (intOf i).toNat)
        case atStart => exact ⟨0, rfl, by omega, O4, B4⟩
        case round =>
          obtain ⟨k, rfl, hk, HO, HB⟩ := hrel
          by_cases hlt : k < N
          · have g1 : decide ((k : Int) < (N : Int)) = true := decide_eq_true (by omega)
            have g2 : (k : Int) < (N : Int) := by omega
            have g3 : (0 : Int) ≤ (k : Int) := by omega
            obtain ⟨g, hA, hB3, hfz⟩ := own_block_at HO.out (by omega)
            obtain ⟨ad, m, e0, _, hm', z0, z1, z2, z3, z4⟩ := reads_cr (own_reads HO.out) hlt
            subst e0
            injection hA with hA
            have hm : zs[k]? = some m := by
              have hh := List.getElem?_eq_getElem (l := zs) (i := k) (by have := HN.out; omega)
              rw [mix_at again zs k _ hh] at hm'
              rw [← hm', hh]
            have fz : wr.frozen? ⟨(ad.add (k * 5)).block, (ad.add (k * 5)).off + 4, none⟩ = false := by rw [hA, add_new]; exact hfz _
            have HAD := Lib.hid (show (⟨(ad.add (k * 5)).block, (ad.add (k * 5)).off + 4, none⟩ : Addr) = ⟨g, k * 5 + 4, none⟩ by rw [hA, add_new])
            have HA := Lib.hid hA
            have HB3 := Lib.hid hB3
            have HS := Lib.hid (mix_same again zs k m hm)
            have HT := Lib.hid (show again m = { m with kind := 0 } → (crL (mix again zs k)).set (k * 5 + 4) (.int .u8 0) = crL (mix again zs (k + 1)) from fun h => by rw [crL_setk _ k m 0 (mix_at again zs k m hm), ← h, mix_set again zs k m hm])
            clear hA hB3 hfz hm hm'
            obtain ⟨r, nd, p, n', kd⟩ := m
            simp only at z0 z1 z2 z3 z4
            by_cases k6 : kd = 6
            · subst k6
              have HO2 := Lib.hid (show wr.ownsRow w3.heap.size 38 5 (.slice (some ad) N c4) N (crL (mix again zs (k + 1))) by rw [HS.out (by unfold again; simp)]; exact HO.out)
              go_wp2
              go_roundw
              case rel => exact ⟨k + 1, by go_num, by omega, HO2, HB⟩
              case measure => simp [intOf] <;> omega
            · have x6 : (kd != 6) = true := by simpa using k6
              by_cases k5 : kd = 5
              · subst k5
                by_cases k10 : r = 10
                · subst k10
                  have HE := Lib.hid (HT.out (by unfold again; simp))
                  clear k6
                  go_wp2
                  go_roundw
                  case rel =>
                    refine ⟨k + 1, by go_num, by omega, Lib.hid ?_, Lib.hid ?_⟩
                    · have h := own_store (HA.out ▸ HO.out) (k * 5 + 4) (.int .u8 0)
                      rw [HE.out] at h
                      rw [HAD.out, HA.out]
                      exact h
                    · exact HB.out.setCell (by rw [HAD.out]; exact HB3.out) _
                  case measure => simp [intOf] <;> omega
                · have x10 : (r == 10) = false := by simpa using k10
                  have HO2 := Lib.hid (show wr.ownsRow w3.heap.size 38 5 (.slice (some ad) N c4) N (crL (mix again zs (k + 1))) by rw [HS.out (by unfold again; simp [k10])]; exact HO.out)
                  clear k10 k6
                  go_wp2
                  go_roundw
                  case rel => exact ⟨k + 1, by go_num, by omega, HO2, HB⟩
                  case measure => simp [intOf] <;> omega
              · have x5 : (kd != 5) = true := by simpa using k5
                have HE := Lib.hid (HT.out (by unfold again; simp [k5, k6]))
                clear k5 k6
                go_wp2
                go_roundw
                case rel =>
                  refine ⟨k + 1, by go_num, by omega, Lib.hid ?_, Lib.hid ?_⟩
                  · have h := own_store (HA.out ▸ HO.out) (k * 5 + 4) (.int .u8 0)
                    rw [HE.out] at h
                    rw [HAD.out, HA.out]
                    exact h
                  · exact HB.out.setCell (by rw [HAD.out]; exact HB3.out) _
                case measure => simp [intOf] <;> omega
          · obtain rfl : k = N := by omega
            have g1 : decide ((k : Int) < (k : Int)) = false := decide_eq_false (by omega)
            have hmx := mix_all again zs k (by rw [HN.out]; exact Nat.le_refl _)
            have RM := Lib.hid (hmx ▸ own_reads HO.out : Reads wr wr.heap.size 5 A4 k (crL (zs.map again)))
            have T0 := Lib.hid (bel_trans B3.out HB.out)
            have R1b := Lib.hid ((R1.out.below HB.out).more HB.out.size : Reads wr wr.heap.size 5 A1 k (crL zs))
            clear hmx
            go_wp2_with (first
              | (go_at_call 10; (with_reducible refine (HCol2.out A4 c4 _ T0.out RM.out).mono ?_); rintro e w5 ⟨A5, c5, rfl, r5, b5⟩; have R5 := Lib.hid r5; have R1c := Lib.hid ((R1b.out.below b5).more b5.size : Reads w5 w5.heap.size 5 A1 k (crL zs)); have B5 := Lib.hid (bel_trans T0.out b5); clear r5 b5)
              | (go_at_call 14; (with_reducible refine (HSa.out A1 A5 c1 c5 _ R1c.out R5.out).mono ?_); rintro e w6 ⟨rfl, b⟩; have B6 := Lib.hid (bel_trans B5.out b); clear b)
              | (go_at_call 9; (with_reducible refine (HH.out _).mono ?_); rintro e w9 ⟨rfl, b⟩; have T6 := Lib.hid (bel_trans B6.out b); clear b))
            go_ret
            exact ⟨rfl, T6.out⟩
      · have hok : okAll ss cs = false := by simpa using hok
        have e1 : ansL ss cs = [] := by unfold ansL; rw [hok]; rfl
        have e2 : ansE ss cs = 2 := by unfold ansE; rw [hok]; rfl
        rw [e1, e2] at HCol
        clear hr hrS q0 hg hlc hmd hok e1 e2
        go_enter Try.func6, Try.ntmps6
        go_wp2_with (first
          | (go_at_call 8; (with_reducible refine HG.out.mono ?_); rintro e w1 ⟨rfl, rfl⟩)
          | (go_at_call 19; (with_reducible refine HMd.out.mono ?_); rintro e w2 ⟨rfl, b2⟩; have B2 := Lib.hid b2; clear b2)
          | (go_at_call 10; (with_reducible refine (HCol.out _ B2.out).mono ?_); rintro e w3 ⟨A1, c1, rfl, r1, b1⟩; have B3 := Lib.hid (bel_trans B2.out b1); clear r1 b1)
          | (go_at_call 9; (with_reducible refine (HH.out _).mono ?_); rintro e w9 ⟨rfl, b⟩; have T6 := Lib.hid (bel_trans B3.out b); clear b))
        go_ret
        exact ⟨rfl, T6.out⟩
  · have q0 : greatB n nS = true := by unfold greatB; rcases (show 150 < n ∨ 40 < nS by omega) with h | h <;> simp [h]
    rw [q0] at HG
    clear hr hrS q0 hg
    go_enter Try.func6, Try.ntmps6
    go_wp2_with (first
      | (go_at_call 8; (with_reducible refine HG.out.mono ?_); rintro e w1 ⟨rfl, rfl⟩)
      | (go_at_call 9; (with_reducible refine (HH.out _).mono ?_); rintro e w9 ⟨rfl, b⟩; have T6 := Lib.hid b; clear b))
    go_ret
    exact ⟨rfl, T6.out⟩
end Go.Proofs.Ytmjacmjogckihaa.White

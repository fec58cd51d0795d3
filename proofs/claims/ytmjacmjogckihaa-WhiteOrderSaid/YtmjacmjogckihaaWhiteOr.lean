/- Chapter 8: the law WhiteOrder, walked. No condition. -/
import Derived.Test.YtmjacmjogckihaaWhiteAg
namespace Go.Proofs.Ytmjacmjogckihaa.White
open Go.RowKit Utf
set_option linter.unusedVariables false
set_option linter.unusedSimpArgs false
theorem drop_head {zs : List Cr} {k : Nat} {y : Cr} {z : List Cr} (h : zs.drop k = y :: z) : zs[k]? = some y ∧ zs.drop (k + 1) = z := by
  refine ⟨?_, ?_⟩
  · have : (zs.drop k)[0]? = some y := by rw [h]; rfl
    rw [List.getElem?_drop] at this
    simpa using this
  · rw [← List.tail_drop, h]; rfl
theorem head_drop {zs : List Cr} {k : Nat} {y : Cr} (h : zs[k]? = some y) : (zs.drop k).head? = some y := by rw [drop_step zs k y h]; rfl
theorem Once.drop {cs : List Cr} (h : Once cs) (i : Nat) : Once (cs.drop i) := List.Pairwise.sublist (List.drop_sublist i cs) h
set_option maxHeartbeats 16000000 in
set_option maxRecDepth 40000 in
theorem WhiteOrder_any (A : Option Addr) (n c : Nat) (cs : List Cr) (AS : Option Addr) (nS cS : Nat) (ss : List St) (w : World) (hr : Reads w w.heap.size 5 A n (crL cs)) (hrS : Reads w w.heap.size 9 AS nS (stL ss)) :
    Calls Try.prog 4 #[.slice A n c, .slice AS nS cS] w fun e w' => e = .returned (.bool true) ∧ Below w.heap.size w w' := by
  have HG := Lib.hid (great_any A n c AS nS cS w)
  have HH := Lib.hid (fun V => head_any V)
  by_cases hg : n ≤ 150 ∧ nS ≤ 40
  · have q0 : greatB n nS = false := by unfold greatB; rw [decide_eq_false (by omega), decide_eq_false (by omega)]; rfl
    rw [q0] at HG
    have hlc := len_cr hr
    have HTw := Lib.hid ((twice_any A n c cs (by omega) w hr).mono fun e w' h => (⟨h.1, h.2.below⟩ : e = .returned (.bool (twB cs)) ∧ Below w.heap.size w w'))
    by_cases htw : twB cs = true
    · rw [htw] at HTw
      clear hr hrS q0 hg hlc htw
      go_enter Try.func4, Try.ntmps4
      go_wp2_with (first
        | (go_at_call 8; (with_reducible refine HG.out.mono ?_); rintro e w1 ⟨rfl, rfl⟩)
        | (go_at_call 17; (with_reducible refine HTw.out.mono ?_); rintro e w2 ⟨rfl, b2⟩; have B2 := Lib.hid b2; clear b2)
        | (go_at_call 9; (with_reducible refine (HH.out _).mono ?_); rintro e w9 ⟨rfl, b⟩; have T6 := Lib.hid (bel_trans B2.out b); clear b))
      go_ret
      exact ⟨rfl, T6.out⟩
    · have htw : twB cs = false := by simpa using htw
      rw [htw] at HTw
      have HON := Lib.hid ((twB_once cs).1 htw)
      have HCol := Lib.hid (fun (V : World) (hV : Below w.heap.size w V) => (Collapse_any A n c cs AS nS cS ss (by omega) (by omega) V ((hr.below hV).more hV.size) ((hrS.below hV).more hV.size)).mono (fun e w' h => ans_of h))
      have HSa := Lib.hid (fun (A2 : Option Addr) (c2 : Nat) (V : World) (hV : Below w.heap.size w V) (h2 : Reads V V.heap.size 5 A2 n (crL cs)) => (same_any A A2 n n c c2 V.heap.size cs cs V hlc hlc ((hr.below hV).more hV.size) h2 (by omega) (by omega)).mono fun e w' h => (⟨by rw [h.1]; unfold sameCr; simp, h.2.below⟩ : e = .returned (.bool true) ∧ Below V.heap.size V w'))
      have HR := Lib.hid hr
      obtain ⟨j0, hj, hy0, hy1, hy2⟩ := info_parts infoCr2
      have nn : (n : Int) ≤ 150 := by omega
      have hn150 : n ≤ 150 := hg.1
      have HLC := Lib.hid hlc
      by_cases hok : okAll ss cs = true
      · have hln := len_out ss cs
        have hem := emb_out ss cs
        have e1 : ansL ss cs = outL ss cs := by unfold ansL; rw [hok]; rfl
        have e2 : ansE ss cs = 0 := by unfold ansE; rw [hok]; rfl
        rw [e1, e2] at HCol
        obtain ⟨zs, hzs⟩ : ∃ zs, outL ss cs = zs := ⟨_, rfl⟩
        rw [hzs] at HCol hln hem
        obtain ⟨N, hN⟩ : ∃ N, zs.length = N := ⟨_, rfl⟩
        rw [hN] at HCol hln
        have nI : (N : Int) ≤ 150 := by omega
        have HN := Lib.hid hN
        have HE := Lib.hid hem
        clear hr hrS q0 hg hlc htw hok hln e1 e2 hzs hN hem
        go_enter Try.func4, Try.ntmps4
        go_wp2_with (first
          | (go_at_call 8; (with_reducible refine HG.out.mono ?_); rintro e w1 ⟨rfl, rfl⟩)
          | (go_at_call 17; (with_reducible refine HTw.out.mono ?_); rintro e w2 ⟨rfl, b2⟩; have B2 := Lib.hid b2; have P0 := Lib.hid (World.ownsRow_lit (base := w2.heap.size) (e := 38) (size := 5) w2 #[] 0 (Nat.le_refl _) (by simp [maxLen]) (by simp)); have R1a := Lib.hid (((HR.out.below b2).more b2.size).alloc (Nat.le_refl _) (.cells #[] 38) : Reads _ w2.heap.size 5 A n (crL cs)); clear b2)
          | (at_builtin; refine wpList_append_any _ rfl (.tmp 18) (.tmp 19) 22 rfl w2.heap.size 38 j0 (.agg #[.int .i32 0, .int .i64 0, .int .i64 0, .int .i64 0, .int .u8 0]) 5 40 Try.underlying22 hj hy0 hy1 hy2 rfl (by decide) (.slice (some ⟨w2.heap.size, 0, none⟩) 0 0) 0 [] rfl P0.out w2.heap.size A n c (crL cs) rfl R1a.out (one5 _) ?e1 ?f1 ?g1 ?_))
        case e1 => unfold maxLen; omega
        case f1 => omega
        case g1 => simp only [World.size_alloc]; omega
        intro v3 w3 o3 hg3 _
        obtain ⟨A3, c3, rfl⟩ := own_shape o3
        have B3 := Lib.hid (bel_trans B2.out (bel_grown (bel_alloc (Below.refl w2.heap.size w2) _) P0.out hg3))
        have O3 := Lib.hid (own_reads o3 : Reads w3 w3.heap.size 5 A3 n (crL cs))
        clear o3 hg3
        go_wp2_with ((go_at_call 10; (with_reducible refine (HCol.out _ B3.out).mono ?_); rintro e w4 ⟨A1, c1, rfl, r1, b1⟩; have R1 := Lib.hid r1; have B4 := Lib.hid (bel_trans B3.out b1); have O4 := Lib.hid ((O3.out.below b1).more b1.size : Reads w4 w4.heap.size 5 A3 n (crL cs)); clear r1 b1))
        go_loopw [8, 9] (fun kk ii wr => ∃ (i k : Nat), kk = .int .i64 k ∧ ii = .int .i64 i ∧ i ≤ n ∧ k ≤ N ∧ Hid (Emb (cs.drop i) (zs.drop k)) ∧ Hid (Below w4.heap.size w4 wr)) (fun kk ii _ => n - (intOf ii).toNat)
        case atStart => exact ⟨0, 0, rfl, rfl, by omega, by omega, HE, Lib.hid (Below.refl _ _)⟩
        case round =>
          obtain ⟨i, k, rfl, rfl, hi, hk, HEm, HB⟩ := hrel
          by_cases hlt : i < n
          · have g1 : decide ((i : Int) < (n : Int)) = true := decide_eq_true (by omega)
            have g2 : (i : Int) < (n : Int) := by omega
            have g3 : (0 : Int) ≤ (i : Int) := by omega
            have g4 : (0 : Int) ≤ (k : Int) := by omega
            obtain ⟨ad, _, rfl, _, _, _⟩ := reads_cr HR.out hlt
            obtain ⟨x, hx, hC⟩ := cellsAt HR.out hlt
            have HX := Lib.hid (fun (V : World) (hV : Below w4.heap.size w4 V) => hC V (bel_trans B4.out hV))
            obtain ⟨a0, a1, a2, a3, a4⟩ := HX.out _ HB.out
            have hst := emb_step (by have h := HEm.out; rw [drop_step cs i x hx] at h; exact h) (by have h := HON.out.drop i; rw [drop_step cs i x hx] at h; exact h)
            clear hx hC HEm
            rcases hst with ⟨y, z', hz, hn1, hp1, hl1, hb1, hem⟩ | ⟨hno, hbl, hem⟩
            · obtain ⟨hy, hz2⟩ := drop_head hz
              have hkN : k < N := by have := (List.getElem?_eq_some_iff.1 hy).1; have := HN.out; omega
              have g5 : decide ((k : Int) < (N : Int)) = true := decide_eq_true (by omega)
              have g6 : (k : Int) < (N : Int) := by omega
              obtain ⟨ad1, _, rfl, _, _, _⟩ := reads_cr R1.out hkN
              obtain ⟨y', hy', hC1⟩ := cellsAt R1.out hkN
              rw [hy] at hy'
              injection hy' with hy'
              subst hy'
              have HE2 := Lib.hid (show Emb (cs.drop (i + 1)) (zs.drop (k + 1)) by rw [hz2]; exact hem)
              have HY := Lib.hid hC1
              obtain ⟨b0, b1, b2, b3, b4⟩ := HY.out _ HB.out
              have t1 : (y.node == x.node) = true := by simpa using hn1.symm
              have t2 : (y.p == x.p) = true := by simpa using hp1.symm
              have t3 : (y.n != x.n) = false := by simp [hl1]
              have HBl := Lib.hid (fun V => blank_any x V)
              cases hbx : blankB x with
              | true =>
                rw [hbx] at HBl
                clear hy hz hz2 hn1 hp1 hl1 hb1 hem hC1 hbx
                go_upto_region 11 with fail
                go_quiet (fail)
                go_upto_region 12 with fail
                refine wp_region_held_drew (S := fun V => Below w4.heap.size w4 V) (by kernel_rfl) (by first | exact HB.out.drew | exact (bel_drewN HB.out _).drew) (fun hS => ?_)
                refine wpAnyH_take (i := 0) (oi := _) (v := .slice (some ad1) N c1) rfl (by kernel_rfl) (by kernel_rfl) (by kernel_rfl) (fun _ _ _ h => h) (Or.inl ⟨by rfl, ?_⟩) hS ?_
                · intro wz hz
                  clear hz
                  go_simp
                try simp only [List.getElem_toArray, List.getElem_cons_zero, List.getElem_cons_succ, Act.put, List.setIfInBounds_toArray, List.set_cons_zero, List.set_cons_succ]
                refine wpAnyH_take (i := 1) (oi := _) (v := .int .i64 (k : Int)) rfl (by kernel_rfl) (by kernel_rfl) (by kernel_rfl) (fun _ _ _ h => h) (Or.inl ⟨by rfl, ?_⟩) hS ?_
                · intro wz hz
                  clear hz
                  go_simp
                try simp only [List.getElem_toArray, List.getElem_cons_zero, List.getElem_cons_succ, Act.put, List.setIfInBounds_toArray, List.set_cons_zero, List.set_cons_succ]
                refine wpAnyH_take (i := 2) (oi := _) (v := .pointer (some (ad1.add (k * 5)))) rfl (by kernel_rfl) (by kernel_rfl) (by kernel_rfl) (fun _ _ _ h => h) (Or.inl ⟨by rfl, ?_⟩) hS ?_
                · intro wz hz
                  clear hz
                  go_simp
                try simp only [List.getElem_toArray, List.getElem_cons_zero, List.getElem_cons_succ, Act.put, List.setIfInBounds_toArray, List.set_cons_zero, List.set_cons_succ]
                refine wpAnyH_take (i := 3) (oi := _) (v := .pointer (some ⟨(ad1.add (k * 5)).block, (ad1.add (k * 5)).off + 3, none⟩)) rfl (by kernel_rfl) (by kernel_rfl) (by kernel_rfl) (fun _ _ _ h => h) (Or.inl ⟨by rfl, ?_⟩) hS ?_
                · intro wz hz
                  clear hz
                  go_simp
                try simp only [List.getElem_toArray, List.getElem_cons_zero, List.getElem_cons_succ, Act.put, List.setIfInBounds_toArray, List.set_cons_zero, List.set_cons_succ]
                refine wpAnyH_take (i := 4) (oi := _) (v := .int .i64 y.n) rfl (by kernel_rfl) (by kernel_rfl) (by kernel_rfl) (fun _ _ _ h => h) (Or.inl ⟨by rfl, ?_⟩) hS ?_
                · intro wz hz
                  obtain ⟨a0, a1, a2, a3, a4⟩ := HX.out _ hz
                  obtain ⟨b0, b1, b2, b3, b4⟩ := HY.out _ hz
                  clear hz
                  go_simp
                try simp only [List.getElem_toArray, List.getElem_cons_zero, List.getElem_cons_succ, Act.put, List.setIfInBounds_toArray, List.set_cons_zero, List.set_cons_succ]
                refine wpAnyH_take (i := 5) (oi := _) (v := .slice (some ad) n c) rfl (by kernel_rfl) (by kernel_rfl) (by kernel_rfl) (fun _ _ _ h => h) (Or.inl ⟨by rfl, ?_⟩) hS ?_
                · intro wz hz
                  clear hz
                  go_simp
                try simp only [List.getElem_toArray, List.getElem_cons_zero, List.getElem_cons_succ, Act.put, List.setIfInBounds_toArray, List.set_cons_zero, List.set_cons_succ]
                refine wpAnyH_take (i := 6) (oi := _) (v := .int .i64 (i : Int)) rfl (by kernel_rfl) (by kernel_rfl) (by kernel_rfl) (fun _ _ _ h => h) (Or.inl ⟨by rfl, ?_⟩) hS ?_
                · intro wz hz
                  clear hz
                  go_simp
                try simp only [List.getElem_toArray, List.getElem_cons_zero, List.getElem_cons_succ, Act.put, List.setIfInBounds_toArray, List.set_cons_zero, List.set_cons_succ]
                refine wpAnyH_take (i := 7) (oi := _) (v := .pointer (some (ad.add (i * 5)))) rfl (by kernel_rfl) (by kernel_rfl) (by kernel_rfl) (fun _ _ _ h => h) (Or.inl ⟨by rfl, ?_⟩) hS ?_
                · intro wz hz
                  clear hz
                  go_simp
                try simp only [List.getElem_toArray, List.getElem_cons_zero, List.getElem_cons_succ, Act.put, List.setIfInBounds_toArray, List.set_cons_zero, List.set_cons_succ]
                refine wpAnyH_take (i := 8) (oi := _) (v := .pointer (some ⟨(ad.add (i * 5)).block, (ad.add (i * 5)).off + 3, none⟩)) rfl (by kernel_rfl) (by kernel_rfl) (by kernel_rfl) (fun _ _ _ h => h) (Or.inl ⟨by rfl, ?_⟩) hS ?_
                · intro wz hz
                  clear hz
                  go_simp
                try simp only [List.getElem_toArray, List.getElem_cons_zero, List.getElem_cons_succ, Act.put, List.setIfInBounds_toArray, List.set_cons_zero, List.set_cons_succ]
                refine wpAnyH_take (i := 9) (oi := _) (v := .int .i64 x.n) rfl (by kernel_rfl) (by kernel_rfl) (by kernel_rfl) (fun _ _ _ h => h) (Or.inl ⟨by rfl, ?_⟩) hS ?_
                · intro wz hz
                  obtain ⟨a0, a1, a2, a3, a4⟩ := HX.out _ hz
                  obtain ⟨b0, b1, b2, b3, b4⟩ := HY.out _ hz
                  clear hz
                  go_simp
                try simp only [List.getElem_toArray, List.getElem_cons_zero, List.getElem_cons_succ, Act.put, List.setIfInBounds_toArray, List.set_cons_zero, List.set_cons_succ]
                refine wpAnyH_take (i := 10) (oi := _) (v := .bool false) rfl (by kernel_rfl) (by kernel_rfl) (by kernel_rfl) (fun _ _ _ h => h) (Or.inl ⟨by rfl, ?_⟩) hS ?_
                · intro wz hz
                  clear hz
                  go_simp
                try simp only [List.getElem_toArray, List.getElem_cons_zero, List.getElem_cons_succ, Act.put, List.setIfInBounds_toArray, List.set_cons_zero, List.set_cons_succ]
                refine wpAnyH_take (i := 11) (oi := _) (v := .bool false) rfl (by kernel_rfl) (by kernel_rfl) (by kernel_rfl) (fun _ _ _ h => h) (Or.inl ⟨by rfl, ?_⟩) hS ?_
                · intro wz hz
                  clear hz
                  go_simp
                try simp only [List.getElem_toArray, List.getElem_cons_zero, List.getElem_cons_succ, Act.put, List.setIfInBounds_toArray, List.set_cons_zero, List.set_cons_succ]
                refine wpAnyH_take (i := 12) (oi := _) (v := .slice (some ad) n c) rfl (by kernel_rfl) (by kernel_rfl) (by kernel_rfl) (fun _ _ _ h => h) (Or.inl ⟨by rfl, ?_⟩) hS ?_
                · intro wz hz
                  clear hz
                  go_simp
                try simp only [List.getElem_toArray, List.getElem_cons_zero, List.getElem_cons_succ, Act.put, List.setIfInBounds_toArray, List.set_cons_zero, List.set_cons_succ]
                refine wpAnyH_take (i := 13) (oi := _) (v := .int .i64 (i : Int)) rfl (by kernel_rfl) (by kernel_rfl) (by kernel_rfl) (fun _ _ _ h => h) (Or.inl ⟨by rfl, ?_⟩) hS ?_
                · intro wz hz
                  clear hz
                  go_simp
                try simp only [List.getElem_toArray, List.getElem_cons_zero, List.getElem_cons_succ, Act.put, List.setIfInBounds_toArray, List.set_cons_zero, List.set_cons_succ]
                refine wpAnyH_take (i := 14) (oi := _) (v := .pointer (some (ad.add (i * 5)))) rfl (by kernel_rfl) (by kernel_rfl) (by kernel_rfl) (fun _ _ _ h => h) (Or.inl ⟨by rfl, ?_⟩) hS ?_
                · intro wz hz
                  clear hz
                  go_simp
                try simp only [List.getElem_toArray, List.getElem_cons_zero, List.getElem_cons_succ, Act.put, List.setIfInBounds_toArray, List.set_cons_zero, List.set_cons_succ]
                refine wpAnyH_take (i := 15) (oi := _) (v := crV x) rfl (by kernel_rfl) (by kernel_rfl) (by kernel_rfl) (fun _ _ _ h => h) (Or.inl ⟨by rfl, ?_⟩) hS ?_
                · intro wz hz
                  obtain ⟨a0, a1, a2, a3, a4⟩ := HX.out _ hz
                  obtain ⟨b0, b1, b2, b3, b4⟩ := HY.out _ hz
                  clear hz
                  go_simp
                try simp only [List.getElem_toArray, List.getElem_cons_zero, List.getElem_cons_succ, Act.put, List.setIfInBounds_toArray, List.set_cons_zero, List.set_cons_succ]
                refine wpAnyH_ready (rs := [16]) (by kernel_rfl) (by simp) ?_
                refine AllReadyH.cons rfl (fun K hK => ?_) ?_
                · skip
                  rw [if_pos (by rfl)]
                  go_simp
                  (with_reducible refine (HBl.out _).mono ?_)
                  rintro e v ⟨rfl, hb⟩
                  refine hK.out _ _ (bel_trans hS hb) (fun hS => ?_)
                  clear hK K
                  try simp only [List.getElem_toArray, List.getElem_cons_zero, List.getElem_cons_succ, Act.put, List.setIfInBounds_toArray, List.set_cons_zero, List.set_cons_succ]
                  refine wpAnyH_take (i := 17) (oi := _) (v := .bool false) rfl (by kernel_rfl) (by kernel_rfl) (by kernel_rfl) (fun _ _ _ h => h) (Or.inl ⟨by rfl, ?_⟩) hS ?_
                  · intro wz hz
                    clear hz
                    go_simp
                  try simp only [List.getElem_toArray, List.getElem_cons_zero, List.getElem_cons_succ, Act.put, List.setIfInBounds_toArray, List.set_cons_zero, List.set_cons_succ]
                  refine wpAnyH_take (i := 18) (oi := _) (v := .bool false) rfl (by kernel_rfl) (by kernel_rfl) (by kernel_rfl) (fun _ _ _ h => h) (Or.inl ⟨by rfl, ?_⟩) hS ?_
                  · intro wz hz
                    clear hz
                    go_simp
                  try simp only [List.getElem_toArray, List.getElem_cons_zero, List.getElem_cons_succ, Act.put, List.setIfInBounds_toArray, List.set_cons_zero, List.set_cons_succ]
                  refine wpAnyH_take (i := 19) (oi := _) (v := undef) rfl (by kernel_rfl) (by kernel_rfl) (by kernel_rfl) (fun _ _ _ h => h) (Or.inr ⟨by rfl, rfl⟩) hS ?_
                  try simp only [List.getElem_toArray, List.getElem_cons_zero, List.getElem_cons_succ, Act.put, List.setIfInBounds_toArray, List.set_cons_zero, List.set_cons_succ]
                  refine wpAnyH_take (i := 20) (oi := _) (v := undef) rfl (by kernel_rfl) (by kernel_rfl) (by kernel_rfl) (fun _ _ _ h => h) (Or.inr ⟨by rfl, rfl⟩) hS ?_
                  try simp only [List.getElem_toArray, List.getElem_cons_zero, List.getElem_cons_succ, Act.put, List.setIfInBounds_toArray, List.set_cons_zero, List.set_cons_succ]
                  refine wpAnyH_take (i := 21) (oi := _) (v := undef) rfl (by kernel_rfl) (by kernel_rfl) (by kernel_rfl) (fun _ _ _ h => h) (Or.inr ⟨by rfl, rfl⟩) hS ?_
                  try simp only [List.getElem_toArray, List.getElem_cons_zero, List.getElem_cons_succ, Act.put, List.setIfInBounds_toArray, List.set_cons_zero, List.set_cons_succ]
                  refine wpAnyH_take (i := 22) (oi := _) (v := undef) rfl (by kernel_rfl) (by kernel_rfl) (by kernel_rfl) (fun _ _ _ h => h) (Or.inr ⟨by rfl, rfl⟩) hS ?_
                  try simp only [List.getElem_toArray, List.getElem_cons_zero, List.getElem_cons_succ, Act.put, List.setIfInBounds_toArray, List.set_cons_zero, List.set_cons_succ]
                  refine wpAnyH_take (i := 23) (oi := _) (v := undef) rfl (by kernel_rfl) (by kernel_rfl) (by kernel_rfl) (fun _ _ _ h => h) (Or.inr ⟨by rfl, rfl⟩) hS ?_
                  try simp only [List.getElem_toArray, List.getElem_cons_zero, List.getElem_cons_succ, Act.put, List.setIfInBounds_toArray, List.set_cons_zero, List.set_cons_succ]
                  refine wpAnyH_take (i := 24) (oi := _) (v := undef) rfl (by kernel_rfl) (by kernel_rfl) (by kernel_rfl) (fun _ _ _ h => h) (Or.inr ⟨by rfl, rfl⟩) hS ?_
                  try simp only [List.getElem_toArray, List.getElem_cons_zero, List.getElem_cons_succ, Act.put, List.setIfInBounds_toArray, List.set_cons_zero, List.set_cons_succ]
                  refine wpAnyH_take (i := 25) (oi := _) (v := undef) rfl (by kernel_rfl) (by kernel_rfl) (by kernel_rfl) (fun _ _ _ h => h) (Or.inr ⟨by rfl, rfl⟩) hS ?_
                  try simp only [List.getElem_toArray, List.getElem_cons_zero, List.getElem_cons_succ, Act.put, List.setIfInBounds_toArray, List.set_cons_zero, List.set_cons_succ]
                  refine wpAnyH_take (i := 26) (oi := _) (v := undef) rfl (by kernel_rfl) (by kernel_rfl) (by kernel_rfl) (fun _ _ _ h => h) (Or.inr ⟨by rfl, rfl⟩) hS ?_
                  try simp only [List.getElem_toArray, List.getElem_cons_zero, List.getElem_cons_succ, Act.put, List.setIfInBounds_toArray, List.set_cons_zero, List.set_cons_succ]
                  refine wpAnyH_take (i := 27) (oi := _) (v := undef) rfl (by kernel_rfl) (by kernel_rfl) (by kernel_rfl) (fun _ _ _ h => h) (Or.inr ⟨by rfl, rfl⟩) hS ?_
                  try simp only [List.getElem_toArray, List.getElem_cons_zero, List.getElem_cons_succ, Act.put, List.setIfInBounds_toArray, List.set_cons_zero, List.set_cons_succ]
                  refine wpAnyH_take (i := 28) (oi := _) (v := .bool false) rfl (by kernel_rfl) (by kernel_rfl) (by kernel_rfl) (fun _ _ _ h => h) (Or.inl ⟨by rfl, ?_⟩) hS ?_
                  · intro wz hz
                    clear hz
                    go_simp
                  try simp only [List.getElem_toArray, List.getElem_cons_zero, List.getElem_cons_succ, Act.put, List.setIfInBounds_toArray, List.set_cons_zero, List.set_cons_succ]
                  refine wpAnyH_take (i := 29) (oi := _) (v := .bool false) rfl (by kernel_rfl) (by kernel_rfl) (by kernel_rfl) (fun _ _ _ h => h) (Or.inl ⟨by rfl, ?_⟩) hS ?_
                  · intro wz hz
                    clear hz
                    go_simp
                  try simp only [List.getElem_toArray, List.getElem_cons_zero, List.getElem_cons_succ, Act.put, List.setIfInBounds_toArray, List.set_cons_zero, List.set_cons_succ]
                  refine wpAnyH_done (by kernel_rfl) ?_ _
                  go_wp2
                  go_roundw
                  case rel => exact ⟨i + 1, k + 1, by go_num, by go_num, by omega, by omega, HE2, Lib.hid hS⟩
                  case measure => simp [intOf] <;> omega
                exact AllReadyH.nil
              | false =>
                rw [hbx] at HBl
                have e5 := hb1 hbx
                subst e5
                clear hy hz hz2 hn1 hp1 hl1 hb1 hem hC1 hbx
                go_upto_region 11 with fail
                go_quiet (fail)
                go_upto_region 12 with fail
                refine wp_region_held_drew (S := fun V => Below w4.heap.size w4 V) (by kernel_rfl) (by first | exact HB.out.drew | exact (bel_drewN HB.out _).drew) (fun hS => ?_)
                refine wpAnyH_take (i := 0) (oi := _) (v := .slice (some ad1) N c1) rfl (by kernel_rfl) (by kernel_rfl) (by kernel_rfl) (fun _ _ _ h => h) (Or.inl ⟨by rfl, ?_⟩) hS ?_
                · intro wz hz
                  clear hz
                  go_simp
                try simp only [List.getElem_toArray, List.getElem_cons_zero, List.getElem_cons_succ, Act.put, List.setIfInBounds_toArray, List.set_cons_zero, List.set_cons_succ]
                refine wpAnyH_take (i := 1) (oi := _) (v := .int .i64 (k : Int)) rfl (by kernel_rfl) (by kernel_rfl) (by kernel_rfl) (fun _ _ _ h => h) (Or.inl ⟨by rfl, ?_⟩) hS ?_
                · intro wz hz
                  clear hz
                  go_simp
                try simp only [List.getElem_toArray, List.getElem_cons_zero, List.getElem_cons_succ, Act.put, List.setIfInBounds_toArray, List.set_cons_zero, List.set_cons_succ]
                refine wpAnyH_take (i := 2) (oi := _) (v := .pointer (some (ad1.add (k * 5)))) rfl (by kernel_rfl) (by kernel_rfl) (by kernel_rfl) (fun _ _ _ h => h) (Or.inl ⟨by rfl, ?_⟩) hS ?_
                · intro wz hz
                  clear hz
                  go_simp
                try simp only [List.getElem_toArray, List.getElem_cons_zero, List.getElem_cons_succ, Act.put, List.setIfInBounds_toArray, List.set_cons_zero, List.set_cons_succ]
                refine wpAnyH_take (i := 3) (oi := _) (v := .pointer (some ⟨(ad1.add (k * 5)).block, (ad1.add (k * 5)).off + 3, none⟩)) rfl (by kernel_rfl) (by kernel_rfl) (by kernel_rfl) (fun _ _ _ h => h) (Or.inl ⟨by rfl, ?_⟩) hS ?_
                · intro wz hz
                  clear hz
                  go_simp
                try simp only [List.getElem_toArray, List.getElem_cons_zero, List.getElem_cons_succ, Act.put, List.setIfInBounds_toArray, List.set_cons_zero, List.set_cons_succ]
                refine wpAnyH_take (i := 4) (oi := _) (v := .int .i64 y.n) rfl (by kernel_rfl) (by kernel_rfl) (by kernel_rfl) (fun _ _ _ h => h) (Or.inl ⟨by rfl, ?_⟩) hS ?_
                · intro wz hz
                  obtain ⟨a0, a1, a2, a3, a4⟩ := HX.out _ hz
                  obtain ⟨b0, b1, b2, b3, b4⟩ := HY.out _ hz
                  clear hz
                  go_simp
                try simp only [List.getElem_toArray, List.getElem_cons_zero, List.getElem_cons_succ, Act.put, List.setIfInBounds_toArray, List.set_cons_zero, List.set_cons_succ]
                refine wpAnyH_take (i := 5) (oi := _) (v := .slice (some ad) n c) rfl (by kernel_rfl) (by kernel_rfl) (by kernel_rfl) (fun _ _ _ h => h) (Or.inl ⟨by rfl, ?_⟩) hS ?_
                · intro wz hz
                  clear hz
                  go_simp
                try simp only [List.getElem_toArray, List.getElem_cons_zero, List.getElem_cons_succ, Act.put, List.setIfInBounds_toArray, List.set_cons_zero, List.set_cons_succ]
                refine wpAnyH_take (i := 6) (oi := _) (v := .int .i64 (i : Int)) rfl (by kernel_rfl) (by kernel_rfl) (by kernel_rfl) (fun _ _ _ h => h) (Or.inl ⟨by rfl, ?_⟩) hS ?_
                · intro wz hz
                  clear hz
                  go_simp
                try simp only [List.getElem_toArray, List.getElem_cons_zero, List.getElem_cons_succ, Act.put, List.setIfInBounds_toArray, List.set_cons_zero, List.set_cons_succ]
                refine wpAnyH_take (i := 7) (oi := _) (v := .pointer (some (ad.add (i * 5)))) rfl (by kernel_rfl) (by kernel_rfl) (by kernel_rfl) (fun _ _ _ h => h) (Or.inl ⟨by rfl, ?_⟩) hS ?_
                · intro wz hz
                  clear hz
                  go_simp
                try simp only [List.getElem_toArray, List.getElem_cons_zero, List.getElem_cons_succ, Act.put, List.setIfInBounds_toArray, List.set_cons_zero, List.set_cons_succ]
                refine wpAnyH_take (i := 8) (oi := _) (v := .pointer (some ⟨(ad.add (i * 5)).block, (ad.add (i * 5)).off + 3, none⟩)) rfl (by kernel_rfl) (by kernel_rfl) (by kernel_rfl) (fun _ _ _ h => h) (Or.inl ⟨by rfl, ?_⟩) hS ?_
                · intro wz hz
                  clear hz
                  go_simp
                try simp only [List.getElem_toArray, List.getElem_cons_zero, List.getElem_cons_succ, Act.put, List.setIfInBounds_toArray, List.set_cons_zero, List.set_cons_succ]
                refine wpAnyH_take (i := 9) (oi := _) (v := .int .i64 y.n) rfl (by kernel_rfl) (by kernel_rfl) (by kernel_rfl) (fun _ _ _ h => h) (Or.inl ⟨by rfl, ?_⟩) hS ?_
                · intro wz hz
                  obtain ⟨a0, a1, a2, a3, a4⟩ := HX.out _ hz
                  obtain ⟨b0, b1, b2, b3, b4⟩ := HY.out _ hz
                  clear hz
                  go_simp
                try simp only [List.getElem_toArray, List.getElem_cons_zero, List.getElem_cons_succ, Act.put, List.setIfInBounds_toArray, List.set_cons_zero, List.set_cons_succ]
                refine wpAnyH_take (i := 10) (oi := _) (v := .bool false) rfl (by kernel_rfl) (by kernel_rfl) (by kernel_rfl) (fun _ _ _ h => h) (Or.inl ⟨by rfl, ?_⟩) hS ?_
                · intro wz hz
                  clear hz
                  go_simp
                try simp only [List.getElem_toArray, List.getElem_cons_zero, List.getElem_cons_succ, Act.put, List.setIfInBounds_toArray, List.set_cons_zero, List.set_cons_succ]
                refine wpAnyH_take (i := 11) (oi := _) (v := .bool false) rfl (by kernel_rfl) (by kernel_rfl) (by kernel_rfl) (fun _ _ _ h => h) (Or.inl ⟨by rfl, ?_⟩) hS ?_
                · intro wz hz
                  clear hz
                  go_simp
                try simp only [List.getElem_toArray, List.getElem_cons_zero, List.getElem_cons_succ, Act.put, List.setIfInBounds_toArray, List.set_cons_zero, List.set_cons_succ]
                refine wpAnyH_take (i := 12) (oi := _) (v := .slice (some ad) n c) rfl (by kernel_rfl) (by kernel_rfl) (by kernel_rfl) (fun _ _ _ h => h) (Or.inl ⟨by rfl, ?_⟩) hS ?_
                · intro wz hz
                  clear hz
                  go_simp
                try simp only [List.getElem_toArray, List.getElem_cons_zero, List.getElem_cons_succ, Act.put, List.setIfInBounds_toArray, List.set_cons_zero, List.set_cons_succ]
                refine wpAnyH_take (i := 13) (oi := _) (v := .int .i64 (i : Int)) rfl (by kernel_rfl) (by kernel_rfl) (by kernel_rfl) (fun _ _ _ h => h) (Or.inl ⟨by rfl, ?_⟩) hS ?_
                · intro wz hz
                  clear hz
                  go_simp
                try simp only [List.getElem_toArray, List.getElem_cons_zero, List.getElem_cons_succ, Act.put, List.setIfInBounds_toArray, List.set_cons_zero, List.set_cons_succ]
                refine wpAnyH_take (i := 14) (oi := _) (v := .pointer (some (ad.add (i * 5)))) rfl (by kernel_rfl) (by kernel_rfl) (by kernel_rfl) (fun _ _ _ h => h) (Or.inl ⟨by rfl, ?_⟩) hS ?_
                · intro wz hz
                  clear hz
                  go_simp
                try simp only [List.getElem_toArray, List.getElem_cons_zero, List.getElem_cons_succ, Act.put, List.setIfInBounds_toArray, List.set_cons_zero, List.set_cons_succ]
                refine wpAnyH_take (i := 15) (oi := _) (v := crV y) rfl (by kernel_rfl) (by kernel_rfl) (by kernel_rfl) (fun _ _ _ h => h) (Or.inl ⟨by rfl, ?_⟩) hS ?_
                · intro wz hz
                  obtain ⟨a0, a1, a2, a3, a4⟩ := HX.out _ hz
                  obtain ⟨b0, b1, b2, b3, b4⟩ := HY.out _ hz
                  clear hz
                  go_simp
                try simp only [List.getElem_toArray, List.getElem_cons_zero, List.getElem_cons_succ, Act.put, List.setIfInBounds_toArray, List.set_cons_zero, List.set_cons_succ]
                refine wpAnyH_ready (rs := [16]) (by kernel_rfl) (by simp) ?_
                refine AllReadyH.cons rfl (fun K hK => ?_) ?_
                · skip
                  rw [if_pos (by rfl)]
                  go_simp
                  (with_reducible refine (HBl.out _).mono ?_)
                  rintro e v ⟨rfl, hb⟩
                  refine hK.out _ _ (bel_trans hS hb) (fun hS => ?_)
                  clear hK K
                  try simp only [List.getElem_toArray, List.getElem_cons_zero, List.getElem_cons_succ, Act.put, List.setIfInBounds_toArray, List.set_cons_zero, List.set_cons_succ]
                  refine wpAnyH_take (i := 17) (oi := _) (v := .bool true) rfl (by kernel_rfl) (by kernel_rfl) (by kernel_rfl) (fun _ _ _ h => h) (Or.inl ⟨by rfl, ?_⟩) hS ?_
                  · intro wz hz
                    clear hz
                    go_simp
                  try simp only [List.getElem_toArray, List.getElem_cons_zero, List.getElem_cons_succ, Act.put, List.setIfInBounds_toArray, List.set_cons_zero, List.set_cons_succ]
                  refine wpAnyH_take (i := 18) (oi := _) (v := .bool true) rfl (by kernel_rfl) (by kernel_rfl) (by kernel_rfl) (fun _ _ _ h => h) (Or.inl ⟨by rfl, ?_⟩) hS ?_
                  · intro wz hz
                    clear hz
                    go_simp
                  try simp only [List.getElem_toArray, List.getElem_cons_zero, List.getElem_cons_succ, Act.put, List.setIfInBounds_toArray, List.set_cons_zero, List.set_cons_succ]
                  refine wpAnyH_take (i := 19) (oi := _) (v := .slice (some ad1) N c1) rfl (by kernel_rfl) (by kernel_rfl) (by kernel_rfl) (fun _ _ _ h => h) (Or.inl ⟨by rfl, ?_⟩) hS ?_
                  · intro wz hz
                    clear hz
                    go_simp
                  try simp only [List.getElem_toArray, List.getElem_cons_zero, List.getElem_cons_succ, Act.put, List.setIfInBounds_toArray, List.set_cons_zero, List.set_cons_succ]
                  refine wpAnyH_take (i := 20) (oi := _) (v := .int .i64 (k : Int)) rfl (by kernel_rfl) (by kernel_rfl) (by kernel_rfl) (fun _ _ _ h => h) (Or.inl ⟨by rfl, ?_⟩) hS ?_
                  · intro wz hz
                    clear hz
                    go_simp
                  try simp only [List.getElem_toArray, List.getElem_cons_zero, List.getElem_cons_succ, Act.put, List.setIfInBounds_toArray, List.set_cons_zero, List.set_cons_succ]
                  refine wpAnyH_take (i := 21) (oi := _) (v := .pointer (some (ad1.add (k * 5)))) rfl (by kernel_rfl) (by kernel_rfl) (by kernel_rfl) (fun _ _ _ h => h) (Or.inl ⟨by rfl, ?_⟩) hS ?_
                  · intro wz hz
                    clear hz
                    go_simp
                  try simp only [List.getElem_toArray, List.getElem_cons_zero, List.getElem_cons_succ, Act.put, List.setIfInBounds_toArray, List.set_cons_zero, List.set_cons_succ]
                  refine wpAnyH_take (i := 22) (oi := _) (v := crV y) rfl (by kernel_rfl) (by kernel_rfl) (by kernel_rfl) (fun _ _ _ h => h) (Or.inl ⟨by rfl, ?_⟩) hS ?_
                  · intro wz hz
                    obtain ⟨a0, a1, a2, a3, a4⟩ := HX.out _ hz
                    obtain ⟨b0, b1, b2, b3, b4⟩ := HY.out _ hz
                    clear hz
                    go_simp
                  try simp only [List.getElem_toArray, List.getElem_cons_zero, List.getElem_cons_succ, Act.put, List.setIfInBounds_toArray, List.set_cons_zero, List.set_cons_succ]
                  refine wpAnyH_take (i := 23) (oi := _) (v := .slice (some ad) n c) rfl (by kernel_rfl) (by kernel_rfl) (by kernel_rfl) (fun _ _ _ h => h) (Or.inl ⟨by rfl, ?_⟩) hS ?_
                  · intro wz hz
                    clear hz
                    go_simp
                  try simp only [List.getElem_toArray, List.getElem_cons_zero, List.getElem_cons_succ, Act.put, List.setIfInBounds_toArray, List.set_cons_zero, List.set_cons_succ]
                  refine wpAnyH_take (i := 24) (oi := _) (v := .int .i64 (i : Int)) rfl (by kernel_rfl) (by kernel_rfl) (by kernel_rfl) (fun _ _ _ h => h) (Or.inl ⟨by rfl, ?_⟩) hS ?_
                  · intro wz hz
                    clear hz
                    go_simp
                  try simp only [List.getElem_toArray, List.getElem_cons_zero, List.getElem_cons_succ, Act.put, List.setIfInBounds_toArray, List.set_cons_zero, List.set_cons_succ]
                  refine wpAnyH_take (i := 25) (oi := _) (v := .pointer (some (ad.add (i * 5)))) rfl (by kernel_rfl) (by kernel_rfl) (by kernel_rfl) (fun _ _ _ h => h) (Or.inl ⟨by rfl, ?_⟩) hS ?_
                  · intro wz hz
                    clear hz
                    go_simp
                  try simp only [List.getElem_toArray, List.getElem_cons_zero, List.getElem_cons_succ, Act.put, List.setIfInBounds_toArray, List.set_cons_zero, List.set_cons_succ]
                  refine wpAnyH_take (i := 26) (oi := _) (v := crV y) rfl (by kernel_rfl) (by kernel_rfl) (by kernel_rfl) (fun _ _ _ h => h) (Or.inl ⟨by rfl, ?_⟩) hS ?_
                  · intro wz hz
                    obtain ⟨a0, a1, a2, a3, a4⟩ := HX.out _ hz
                    obtain ⟨b0, b1, b2, b3, b4⟩ := HY.out _ hz
                    clear hz
                    go_simp
                  try simp only [List.getElem_toArray, List.getElem_cons_zero, List.getElem_cons_succ, Act.put, List.setIfInBounds_toArray, List.set_cons_zero, List.set_cons_succ]
                  refine wpAnyH_take (i := 27) (oi := _) (v := .bool false) rfl (by kernel_rfl) (by kernel_rfl) (by kernel_rfl) (fun _ _ _ h => h) (Or.inl ⟨by rfl, ?_⟩) hS ?_
                  · intro wz hz
                    clear hz
                    go_simp
                  try simp only [List.getElem_toArray, List.getElem_cons_zero, List.getElem_cons_succ, Act.put, List.setIfInBounds_toArray, List.set_cons_zero, List.set_cons_succ]
                  refine wpAnyH_take (i := 28) (oi := _) (v := .bool false) rfl (by kernel_rfl) (by kernel_rfl) (by kernel_rfl) (fun _ _ _ h => h) (Or.inl ⟨by rfl, ?_⟩) hS ?_
                  · intro wz hz
                    clear hz
                    go_simp
                  try simp only [List.getElem_toArray, List.getElem_cons_zero, List.getElem_cons_succ, Act.put, List.setIfInBounds_toArray, List.set_cons_zero, List.set_cons_succ]
                  refine wpAnyH_take (i := 29) (oi := _) (v := .bool false) rfl (by kernel_rfl) (by kernel_rfl) (by kernel_rfl) (fun _ _ _ h => h) (Or.inl ⟨by rfl, ?_⟩) hS ?_
                  · intro wz hz
                    clear hz
                    go_simp
                  try simp only [List.getElem_toArray, List.getElem_cons_zero, List.getElem_cons_succ, Act.put, List.setIfInBounds_toArray, List.set_cons_zero, List.set_cons_succ]
                  refine wpAnyH_done (by kernel_rfl) ?_ _
                  go_wp2
                  go_roundw
                  case rel => exact ⟨i + 1, k + 1, by go_num, by go_num, by omega, by omega, HE2, Lib.hid hS⟩
                  case measure => simp [intOf] <;> omega
                exact AllReadyH.nil
            · have HE2 := Lib.hid hem
              have HBl := Lib.hid (fun V => blank_any x V)
              rw [hbl] at HBl
              by_cases hkN : k < N
              · have g5 : decide ((k : Int) < (N : Int)) = true := decide_eq_true (by omega)
                have g6 : (k : Int) < (N : Int) := by omega
                obtain ⟨ad1, _, rfl, _, _, _⟩ := reads_cr R1.out hkN
                obtain ⟨y, hy, hC1⟩ := cellsAt R1.out hkN
                obtain ⟨b0, b1, b2, b3, b4⟩ := hC1 _ HB.out
                have hs := hno y (head_drop hy)
                unfold sameP at hs
                by_cases e1 : y.node = x.node
                · have t1 : (y.node == x.node) = true := by simpa using e1
                  have e2 : ¬ y.p = x.p := by rw [decide_eq_true e1, Bool.true_and] at hs; exact of_decide_eq_false hs
                  have t2 : (y.p == x.p) = false := by simpa using e2
                  clear hno hbl hem hy hC1 hs e1 e2
                  go_upto_region 11 with fail
                  go_quiet (fail)
                  go_wp2_with (go_at_call 18; (with_reducible refine (HBl.out _).mono ?_); rintro e w5 ⟨rfl, b⟩; have BV := Lib.hid (bel_trans (bel_drewN HB.out _) b); clear b)
                  go_roundw
                  case rel => exact ⟨i + 1, k, rfl, by go_num, by omega, by omega, HE2, BV⟩
                  case measure => simp [intOf] <;> omega
                · have t1 : (y.node == x.node) = false := by simpa using e1
                  clear hno hbl hem hy hC1 hs e1
                  go_upto_region 11 with fail
                  go_quiet (fail)
                  go_wp2_with (go_at_call 18; (with_reducible refine (HBl.out _).mono ?_); rintro e w5 ⟨rfl, b⟩; have BV := Lib.hid (bel_trans (bel_drewN HB.out _) b); clear b)
                  go_roundw
                  case rel => exact ⟨i + 1, k, rfl, by go_num, by omega, by omega, HE2, BV⟩
                  case measure => simp [intOf] <;> omega
              · have g5 : decide ((k : Int) < (N : Int)) = false := decide_eq_false (by omega)
                clear hno hbl hem
                go_upto_region 11 with fail
                go_quiet (fail)
                go_wp2_with (go_at_call 18; (with_reducible refine (HBl.out _).mono ?_); rintro e w5 ⟨rfl, b⟩; have BV := Lib.hid (bel_trans (bel_drewN HB.out _) b); clear b)
                go_roundw
                case rel => exact ⟨i + 1, k, rfl, by go_num, by omega, by omega, HE2, BV⟩
                case measure => simp [intOf] <;> omega
          · obtain rfl : i = n := by omega
            have g1 : decide ((i : Int) < (i : Int)) = false := decide_eq_false (by omega)
            have hkN : k = N := by
              have h := HEm.out
              rw [List.drop_of_length_le (by have := HLC.out; omega)] at h
              have hz : zs.drop k = [] := by
                generalize hg : zs.drop k = l at h
                cases h
                rfl
              have := congrArg List.length hz
              rw [List.length_drop, List.length_nil] at this
              have := HN.out
              omega
            subst hkN
            have t1 : ((k : Int) == (k : Int)) = true := by simp
            have T0 := Lib.hid (bel_trans B4.out HB.out)
            have RW := Lib.hid ((O4.out.below HB.out).more HB.out.size : Reads wr wr.heap.size 5 A3 i (crL cs))
            go_wp2_with (first
              | (go_at_call 14; (with_reducible refine (HSa.out A3 c3 _ T0.out RW.out).mono ?_); rintro e w6 ⟨rfl, b⟩; have B6 := Lib.hid (bel_trans T0.out b); clear b)
              | (go_at_call 9; (with_reducible refine (HH.out _).mono ?_); rintro e w9 ⟨rfl, b⟩; have T6 := Lib.hid (bel_trans B6.out b); clear b))
            go_ret
            exact ⟨rfl, T6.out⟩
      · have hok : okAll ss cs = false := by simpa using hok
        have e1 : ansL ss cs = [] := by unfold ansL; rw [hok]; rfl
        have e2 : ansE ss cs = 2 := by unfold ansE; rw [hok]; rfl
        rw [e1, e2] at HCol
        clear hr hrS q0 hg hlc htw hok e1 e2
        go_enter Try.func4, Try.ntmps4
        go_wp2_with (first
          | (go_at_call 8; (with_reducible refine HG.out.mono ?_); rintro e w1 ⟨rfl, rfl⟩)
          | (go_at_call 17; (with_reducible refine HTw.out.mono ?_); rintro e w2 ⟨rfl, b2⟩; have B2 := Lib.hid b2; have P0 := Lib.hid (World.ownsRow_lit (base := w2.heap.size) (e := 38) (size := 5) w2 #[] 0 (Nat.le_refl _) (by simp [maxLen]) (by simp)); have R1a := Lib.hid (((HR.out.below b2).more b2.size).alloc (Nat.le_refl _) (.cells #[] 38) : Reads _ w2.heap.size 5 A n (crL cs)); clear b2)
          | (at_builtin; refine wpList_append_any _ rfl (.tmp 18) (.tmp 19) 22 rfl w2.heap.size 38 j0 (.agg #[.int .i32 0, .int .i64 0, .int .i64 0, .int .i64 0, .int .u8 0]) 5 40 Try.underlying22 hj hy0 hy1 hy2 rfl (by decide) (.slice (some ⟨w2.heap.size, 0, none⟩) 0 0) 0 [] rfl P0.out w2.heap.size A n c (crL cs) rfl R1a.out (one5 _) ?e1 ?f1 ?g1 ?_))
        case e1 => unfold maxLen; omega
        case f1 => omega
        case g1 => simp only [World.size_alloc]; omega
        intro v3 w3 o3 hg3 _
        obtain ⟨A3, c3, rfl⟩ := own_shape o3
        have B3 := Lib.hid (bel_trans B2.out (bel_grown (bel_alloc (Below.refl w2.heap.size w2) _) P0.out hg3))
        have O3 := Lib.hid (own_reads o3 : Reads w3 w3.heap.size 5 A3 n (crL cs))
        clear o3 hg3
        go_wp2_with (first
          | (go_at_call 10; (with_reducible refine (HCol.out _ B3.out).mono ?_); rintro e w4 ⟨A1, c1, rfl, r1, b1⟩; have B4 := Lib.hid (bel_trans B3.out b1); have O4 := Lib.hid ((O3.out.below b1).more b1.size : Reads w4 w4.heap.size 5 A3 n (crL cs)); clear r1 b1)
          | (go_at_call 14; (with_reducible refine (HSa.out A3 c3 _ B4.out O4.out).mono ?_); rintro e w6 ⟨rfl, b⟩; have B6 := Lib.hid (bel_trans B4.out b); clear b)
          | (go_at_call 9; (with_reducible refine (HH.out _).mono ?_); rintro e w9 ⟨rfl, b⟩; have T6 := Lib.hid (bel_trans B6.out b); clear b))
        go_ret
        exact ⟨rfl, T6.out⟩
  · have q0 : greatB n nS = true := by unfold greatB; rcases (show 150 < n ∨ 40 < nS by omega) with h | h <;> simp [h]
    rw [q0] at HG
    clear hr hrS q0 hg
    go_enter Try.func4, Try.ntmps4
    go_wp2_with (first
      | (go_at_call 8; (with_reducible refine HG.out.mono ?_); rintro e w1 ⟨rfl, rfl⟩)
      | (go_at_call 9; (with_reducible refine (HH.out _).mono ?_); rintro e w9 ⟨rfl, b⟩; have T6 := Lib.hid b; clear b))
    go_ret
    exact ⟨rfl, T6.out⟩
end Go.Proofs.Ytmjacmjogckihaa.White

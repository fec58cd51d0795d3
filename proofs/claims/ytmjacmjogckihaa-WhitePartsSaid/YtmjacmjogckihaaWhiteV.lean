/- Chapter 8: the law WhiteCollapses, walked. No condition. -/
import Derived.Test.YtmjacmjogckihaaWhiteU
import Derived.Deep.RegionHeld
namespace Go.Proofs.Ytmjacmjogckihaa.White
open Go.RowKit Utf
set_option linter.unusedVariables false
set_option linter.unusedSimpArgs false
theorem runes_filter {cs : List Cr} (h : Runes cs) (q : List Cr → Cr → List Cr → Bool) : Runes ((filterZ q [] cs).map id) := fun c hc => h c (filterZ_sub q [] cs c (by rwa [List.map_id] at hc))
theorem runes_map {cs : List Cr} (h : Runes cs) (q : List Cr → Cr → List Cr → Bool) (u : Cr → Cr) (hu : ∀ c, (u c).r = c.r ∨ (u c).r = 32 ∨ (u c).r = 10) : Runes ((filterZ q [] cs).map u) := fun c hc => by
  obtain ⟨d, hd, rfl⟩ := List.mem_map.1 hc
  have := h d (filterZ_sub q [] cs d hd)
  rcases hu d with h | h | h <;> omega
theorem u4_r (ss : List St) (c : Cr) : (u4 ss c).r = c.r ∨ (u4 ss c).r = 32 ∨ (u4 ss c).r = 10 := by
  unfold u4
  split
  · exact .inr (.inl rfl)
  · split
    · exact .inr (.inr rfl)
    · split
      · exact .inr (.inl rfl)
      · exact .inl rfl
theorem u6_r (ss : List St) (c : Cr) : (u6 ss c).r = c.r ∨ (u6 ss c).r = 32 ∨ (u6 ss c).r = 10 := by
  unfold u6
  split
  · exact .inl rfl
  · split
    · exact .inl rfl
    · split
      · split <;> exact .inl rfl
      · exact .inl rfl
theorem runes_out {ss : List St} {cs : List Cr} (h : Runes cs) : Runes (outL ss cs) := by
  rw [← r6_eq]
  exact runes_map (runes_filter (runes_map (runes_filter (runes_filter (runes_filter h _) _) _) _ _ (u4_r ss)) _) _ _ (u6_r ss)
/-- What is answered: the list, and the error. -/
def ansL (ss : List St) (cs : List Cr) : List Cr := if okAll ss cs = true then outL ss cs else []
def ansE (ss : List St) (cs : List Cr) : Int := if okAll ss cs = true then 0 else 2
theorem ansL_len (ss : List St) (cs : List Cr) : (ansL ss cs).length ≤ cs.length := by
  unfold ansL
  split
  · exact len_out ss cs
  · simp
theorem runes_ans {ss : List St} {cs : List Cr} (h : Runes cs) : Runes (ansL ss cs) := by
  unfold ansL
  split
  · exact runes_out h
  · intro c hc; cases hc
theorem ans_of {ss : List St} {cs : List Cr} {W w' : World} {e : Ending} (h : Below W.heap.size W w' ∧ ((okAll ss cs = false ∧ e = .returned (.tuple #[.slice none 0 0, .int .i64 2])) ∨ (okAll ss cs = true ∧ ∃ v, e = .returned (.tuple #[v, .int .i64 0]) ∧ w'.ownsRow W.heap.size 38 5 v (outL ss cs).length (crL (outL ss cs))))) :
    ∃ A c, e = .returned (.tuple #[.slice A (ansL ss cs).length c, .int .i64 (ansE ss cs)]) ∧ Reads w' w'.heap.size 5 A (ansL ss cs).length (crL (ansL ss cs)) ∧ Below W.heap.size W w' := by
  obtain ⟨hb, h⟩ := h
  rcases h with ⟨h, rfl⟩ | ⟨h, v, rfl, ho⟩
  · have e1 : ansL ss cs = [] := by unfold ansL; rw [h]; rfl
    have e2 : ansE ss cs = 2 := by unfold ansE; rw [h]; rfl
    rw [e1, e2]
    exact ⟨none, 0, rfl, Reads.none_, hb⟩
  · have e1 : ansL ss cs = outL ss cs := by unfold ansL; rw [h]; rfl
    have e2 : ansE ss cs = 0 := by unfold ansE; rw [h]; rfl
    rw [e1, e2]
    obtain ⟨A, c, rfl⟩ := own_shape ho
    exact ⟨A, c, rfl, own_reads ho, hb⟩
set_option maxHeartbeats 8000000 in
set_option maxRecDepth 40000 in
theorem WhiteCollapses_any (A : Option Addr) (n c : Nat) (cs : List Cr) (AS : Option Addr) (nS cS : Nat) (ss : List St) (w : World) (hr : Reads w w.heap.size 5 A n (crL cs)) (hrS : Reads w w.heap.size 9 AS nS (stL ss)) (h0 : Runes cs) :
    Calls Try.prog 3 #[.slice A n c, .slice AS nS cS] w fun e w' => e = .returned (.bool true) ∧ Below w.heap.size w w' := by
  have HG := Lib.hid (great_any A n c AS nS cS w)
  have HH := Lib.hid (fun V => head_any V)
  by_cases hg : n ≤ 150 ∧ nS ≤ 40
  · have q0 : greatB n nS = false := by unfold greatB; rw [decide_eq_false (by omega), decide_eq_false (by omega)]; rfl
    rw [q0] at HG
    have hlc := len_cr hr
    have HCol := Lib.hid ((Collapse_any A n c cs AS nS cS ss (by omega) (by omega) w hr hrS).mono (fun e w' h => ans_of h))
    have HRef := Lib.hid (fun (V : World) (hV : Below w.heap.size w V) => (refCollapse_any A n c cs AS nS cS ss (by omega) (by omega) V ((hr.below hV).more hV.size) ((hrS.below hV).more hV.size)).mono (fun e w' h => ans_of h))
    have HKl := Lib.hid (fun (V : World) (hV : Below w.heap.size w V) => Kept_any A n c cs (by omega) h0 V ((hr.below hV).more hV.size))
    have HKr := Lib.hid (fun (V : World) (hV : Below w.heap.size w V) => refKept_any A n c cs (by omega) h0 V ((hr.below hV).more hV.size))
    have hln := ansL_len ss cs
    have hra := runes_ans (ss := ss) h0
    obtain ⟨zs, hzs⟩ : ∃ zs, ansL ss cs = zs := ⟨_, rfl⟩
    obtain ⟨er, her⟩ : ∃ er, ansE ss cs = er := ⟨_, rfl⟩
    rw [hzs, her] at HCol HRef
    rw [hzs] at hln hra
    obtain ⟨N, hN⟩ : ∃ N, zs.length = N := ⟨_, rfl⟩
    rw [hN] at HCol HRef hln
    have HZ1 := Lib.hid (fun (A' : Option Addr) (c' : Nat) (V : World) (hV : Reads V V.heap.size 5 A' N (crL zs)) => Kept_any A' N c' zs (by omega) hra V hV)
    have HZ2 := Lib.hid (fun (A' : Option Addr) (c' : Nat) (V : World) (hV : Reads V V.heap.size 5 A' N (crL zs)) => refKept_any A' N c' zs (by omega) hra V hV)
    have HSa := Lib.hid (fun (A1 A2 : Option Addr) (c1 c2 : Nat) (V : World) (h1 : Reads V V.heap.size 5 A1 N (crL zs)) (h2 : Reads V V.heap.size 5 A2 N (crL zs)) => (same_any A1 A2 N N c1 c2 V.heap.size zs zs V hN hN h1 h2 (by omega) (by omega)).mono fun e w' h => (⟨by rw [h.1]; unfold sameCr; simp, h.2.below⟩ : e = .returned (.bool true) ∧ Below V.heap.size V w'))
    obtain ⟨kl, hkl⟩ : ∃ kl, keptL cs = kl := ⟨_, rfl⟩
    obtain ⟨kz, hkz⟩ : ∃ kz, keptL zs = kz := ⟨_, rfl⟩
    rw [hkl] at HKl HKr
    rw [hkz] at HZ1 HZ2
    have HRS := Lib.hid hrS
    have nn : (nS : Int) ≤ 40 := by omega
    have t1 : (er == er) = true := by simp
    clear hr hrS h0 hlc hzs her hN hkl hkz hln hra q0
    go_enter Try.func3, Try.ntmps3
    go_wp2_with (first
      | (go_at_call 8; (with_reducible refine HG.out.mono ?_); rintro e w1 ⟨rfl, rfl⟩)
      | (go_at_call 10; (with_reducible refine HCol.out.mono ?_); rintro e w2 ⟨A1, c1, rfl, r1, b1⟩; have R1 := Lib.hid r1; have B1 := Lib.hid b1; clear r1 b1)
      | (go_at_call 11; (with_reducible refine (HRef.out _ B1.out).mono ?_); rintro e w3 ⟨A2, c2, rfl, r2, b2⟩; have R2 := Lib.hid r2; have R1' := Lib.hid ((R1.out.below b2).more b2.size : Reads w3 w3.heap.size 5 A1 N (crL zs)); have B2 := Lib.hid (bel_trans B1.out b2); clear r2 b2))
    go_loopw [9] (fun i wr => ∃ k : Nat, i = .int .i64 k ∧ k ≤ nS ∧ Hid (Below w3.heap.size w3 wr)) (fun i _ => nS - (intOf i).toNat)
    case atStart => exact ⟨0, rfl, by omega, Lib.hid (Below.refl _ _)⟩
    case round =>
      obtain ⟨k, rfl, hk, HB⟩ := hrel
      by_cases hlt : k < nS
      · have g1 : decide ((k : Int) < (nS : Int)) = true := decide_eq_true (by omega)
        have g2 : (k : Int) < (nS : Int) := by omega
        have g3 : (0 : Int) ≤ (k : Int) := by omega
        obtain ⟨adS, st, rfl, hbS, hs, cS'⟩ := reads_st HRS.out hlt
        have HcS := Lib.hid (fun (V : World) (hV : Below w3.heap.size w3 V) => cellS_keep cS' (bel_trans B2.out hV) (by rw [block_of_add]; exact hbS))
        have HC1 := Lib.hid (fun V => collapses_any st V)
        have HC2 := Lib.hid (fun V => refCollapses_any st V)
        obtain ⟨fo, hfo⟩ : ∃ fo, foldW st.white = fo := ⟨_, rfl⟩
        rw [hfo] at HC1 HC2
        have p0 : (fo != fo) = false := by simp
        clear hs cS' hfo
        go_upto_region 8 with fail
        refine wp_region_held_drew (S := fun V => Below w3.heap.size w3 V) (by kernel_rfl) HB.out.drew (fun hS => ?_)
        refine wpAnyH_take (i := 0) (oi := _) (v := .slice (some adS) nS cS) rfl (by kernel_rfl) (by kernel_rfl) (by kernel_rfl) (fun _ _ _ h => h) (Or.inl ⟨by rfl, ?_⟩) hS ?_
        · intro wz hz
          clear hz
          go_simp
        try simp only [List.getElem_toArray, List.getElem_cons_zero, List.getElem_cons_succ, Act.put, List.setIfInBounds_toArray, List.set_cons_zero, List.set_cons_succ]
        refine wpAnyH_take (i := 1) (oi := _) (v := .int .i64 (k : Int)) rfl (by kernel_rfl) (by kernel_rfl) (by kernel_rfl) (fun _ _ _ h => h) (Or.inl ⟨by rfl, ?_⟩) hS ?_
        · intro wz hz
          clear hz
          go_simp
        try simp only [List.getElem_toArray, List.getElem_cons_zero, List.getElem_cons_succ, Act.put, List.setIfInBounds_toArray, List.set_cons_zero, List.set_cons_succ]
        refine wpAnyH_take (i := 2) (oi := _) (v := .pointer (some (adS.add (k * 9)))) rfl (by kernel_rfl) (by kernel_rfl) (by kernel_rfl) (fun _ _ _ h => h) (Or.inl ⟨by rfl, ?_⟩) hS ?_
        · intro wz hz
          clear hz
          go_simp
        try simp only [List.getElem_toArray, List.getElem_cons_zero, List.getElem_cons_succ, Act.put, List.setIfInBounds_toArray, List.set_cons_zero, List.set_cons_succ]
        refine wpAnyH_take (i := 3) (oi := _) (v := stV st) rfl (by kernel_rfl) (by kernel_rfl) (by kernel_rfl) (fun _ _ _ h => h) (Or.inl ⟨by rfl, ?_⟩) hS ?_
        · intro wz hz
          obtain ⟨y0, y1, y2, y3, y4, y5, y6, y7, y8⟩ := HcS.out _ hz
          clear hz
          go_simp
        try simp only [List.getElem_toArray, List.getElem_cons_zero, List.getElem_cons_succ, Act.put, List.setIfInBounds_toArray, List.set_cons_zero, List.set_cons_succ]
        refine wpAnyH_take (i := 5) (oi := _) (v := .slice (some adS) nS cS) rfl (by kernel_rfl) (by kernel_rfl) (by kernel_rfl) (fun _ _ _ h => h) (Or.inl ⟨by rfl, ?_⟩) hS ?_
        · intro wz hz
          clear hz
          go_simp
        try simp only [List.getElem_toArray, List.getElem_cons_zero, List.getElem_cons_succ, Act.put, List.setIfInBounds_toArray, List.set_cons_zero, List.set_cons_succ]
        refine wpAnyH_take (i := 6) (oi := _) (v := .int .i64 (k : Int)) rfl (by kernel_rfl) (by kernel_rfl) (by kernel_rfl) (fun _ _ _ h => h) (Or.inl ⟨by rfl, ?_⟩) hS ?_
        · intro wz hz
          clear hz
          go_simp
        try simp only [List.getElem_toArray, List.getElem_cons_zero, List.getElem_cons_succ, Act.put, List.setIfInBounds_toArray, List.set_cons_zero, List.set_cons_succ]
        refine wpAnyH_take (i := 7) (oi := _) (v := .pointer (some (adS.add (k * 9)))) rfl (by kernel_rfl) (by kernel_rfl) (by kernel_rfl) (fun _ _ _ h => h) (Or.inl ⟨by rfl, ?_⟩) hS ?_
        · intro wz hz
          clear hz
          go_simp
        try simp only [List.getElem_toArray, List.getElem_cons_zero, List.getElem_cons_succ, Act.put, List.setIfInBounds_toArray, List.set_cons_zero, List.set_cons_succ]
        refine wpAnyH_take (i := 8) (oi := _) (v := stV st) rfl (by kernel_rfl) (by kernel_rfl) (by kernel_rfl) (fun _ _ _ h => h) (Or.inl ⟨by rfl, ?_⟩) hS ?_
        · intro wz hz
          obtain ⟨y0, y1, y2, y3, y4, y5, y6, y7, y8⟩ := HcS.out _ hz
          clear hz
          go_simp
        try simp only [List.getElem_toArray, List.getElem_cons_zero, List.getElem_cons_succ, Act.put, List.setIfInBounds_toArray, List.set_cons_zero, List.set_cons_succ]
        refine wpAnyH_ready (rs := [4]) (by kernel_rfl) (by simp) ?_
        refine AllReadyH.cons rfl (fun K hK => ?_) ?_
        · skip
          rw [if_pos (by rfl)]
          go_simp
          (with_reducible refine (HC1.out _).mono ?_)
          rintro e v ⟨rfl, hb⟩
          refine hK.out _ _ (bel_trans hS hb) (fun hS => ?_)
          clear hK K
          try simp only [List.getElem_toArray, List.getElem_cons_zero, List.getElem_cons_succ, Act.put, List.setIfInBounds_toArray, List.set_cons_zero, List.set_cons_succ]
          refine wpAnyH_ready (rs := [9]) (by kernel_rfl) (by simp) ?_
          refine AllReadyH.cons rfl (fun K hK => ?_) ?_
          · skip
            rw [if_pos (by rfl)]
            go_simp
            (with_reducible refine (HC2.out _).mono ?_)
            rintro e v ⟨rfl, hb⟩
            refine hK.out _ _ (bel_trans hS hb) (fun hS => ?_)
            clear hK K
            try simp only [List.getElem_toArray, List.getElem_cons_zero, List.getElem_cons_succ, Act.put, List.setIfInBounds_toArray, List.set_cons_zero, List.set_cons_succ]
            refine wpAnyH_take (i := 10) (oi := _) (v := .bool false) rfl (by kernel_rfl) (by kernel_rfl) (by kernel_rfl) (fun _ _ _ h => h) (Or.inl ⟨by rfl, ?_⟩) hS ?_
            · intro wz hz
              clear hz
              go_simp
            try simp only [List.getElem_toArray, List.getElem_cons_zero, List.getElem_cons_succ, Act.put, List.setIfInBounds_toArray, List.set_cons_zero, List.set_cons_succ]
            refine wpAnyH_done (by kernel_rfl) ?_ _
            go_wp2
            go_roundw
            case rel => exact ⟨k + 1, by go_num, by omega, Lib.hid hS⟩
            case measure => simp [intOf] <;> omega
          exact AllReadyH.nil
        exact AllReadyH.nil
      · obtain rfl : k = nS := by omega
        have g1 : decide ((k : Int) < (k : Int)) = false := decide_eq_false (by omega)
        have S1 := Lib.hid ((R1'.out.below HB.out).more HB.out.size : Reads wr wr.heap.size 5 A1 N (crL zs))
        have S2 := Lib.hid ((R2.out.below HB.out).more HB.out.size : Reads wr wr.heap.size 5 A2 N (crL zs))
        have T0 := Lib.hid (bel_trans B2.out HB.out)
        go_wp2_with (first
          | (go_at_call 14; (with_reducible refine (HSa.out A1 A2 c1 c2 _ S1.out S2.out).mono ?_); rintro e w4 ⟨rfl, b⟩; have U1 := Lib.hid ((S1.out.below b).more b.size : Reads w4 w4.heap.size 5 A1 N (crL zs)); have U2 := Lib.hid ((S2.out.below b).more b.size : Reads w4 w4.heap.size 5 A2 N (crL zs)); have T1 := Lib.hid (bel_trans T0.out b); clear b)
          | (go_at_call 15; (with_reducible refine (HZ1.out A1 c1 _ U1.out).mono ?_); rintro e w5 ⟨rfl, b⟩; have U3 := Lib.hid ((U2.out.below b).more b.size : Reads w5 w5.heap.size 5 A2 N (crL zs)); have T2 := Lib.hid (bel_trans T1.out b); clear b)
          | (go_at_call 16; (with_reducible refine (HZ2.out A2 c2 _ U3.out).mono ?_); rintro e w6 ⟨rfl, b⟩; have T3 := Lib.hid (bel_trans T2.out b); clear b)
          | (go_at_call 15; (with_reducible refine (HKl.out _ T3.out).mono ?_); rintro e w7 ⟨rfl, b⟩; have T4 := Lib.hid (bel_trans T3.out b); clear b)
          | (go_at_call 16; (with_reducible refine (HKr.out _ T4.out).mono ?_); rintro e w8 ⟨rfl, b⟩; have T5 := Lib.hid (bel_trans T4.out b); clear b)
          | (go_at_call 9; (with_reducible refine (HH.out _).mono ?_); rintro e w9 ⟨rfl, b⟩; have T6 := Lib.hid (bel_trans T5.out b); clear b))
        go_ret
        exact ⟨rfl, T6.out⟩
  · have q0 : greatB n nS = true := by unfold greatB; rcases (show 150 < n ∨ 40 < nS by omega) with h | h <;> simp [h]
    rw [q0] at HG
    clear hr hrS q0 hg
    go_enter Try.func3, Try.ntmps3
    go_wp2_with (first
      | (go_at_call 8; (with_reducible refine HG.out.mono ?_); rintro e w1 ⟨rfl, rfl⟩)
      | (go_at_call 9; (with_reducible refine (HH.out _).mono ?_); rintro e w9 ⟨rfl, b⟩; have T6 := Lib.hid b; clear b))
    go_ret
    exact ⟨rfl, T6.out⟩
end Go.Proofs.Ytmjacmjogckihaa.White

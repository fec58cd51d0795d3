/- Chapter 3: PackSame, walked: it returns true, for every input. No condition but bounds. -/
import Derived.Test.YtijkfllolcgfhaaPackS
import Derived.Test.YtijkfllolcgfhaaPackH
namespace Go.Proofs.Ytijkfllolcgfhaa.Pack
open Go.RowKit
set_option linter.unusedVariables false
set_option linter.unusedSimpArgs false

theorem wrap64_id {x : Int} (h : -9223372036854775808 ≤ x ∧ x ≤ 9223372036854775807) : IntKind.i64.wrap x = x := IntWalk.i64_in _ h
theorem left_none (g : Nat) (p : Option Addr) (w : World) (h : RdS w g p true none) : Calls Try.prog 29 #[.pointer p] w fun e w' => e = .returned (.int .i64 0) ∧ w = w' := left_any g p true none w h
theorem num_none (g : Nat) (p : Option Addr) (w : World) (h : RdS w g p true none) : Calls Try.prog 36 #[.pointer p] w (RPost w g p true (.int .u64 0) none) := rdnum_any g p true none w h (fun b e => by cases e)
theorem WrS.two {w wx : World} {g gr bx : Nat} {r : Option Nat} {o : List UInt8} {p : Option Addr} (h : WrS w g r p (some o)) (hf : Far (fun k => k = gr ∨ k = bx) w wx) (h1 : g ≠ gr) (h2 : g ≠ bx) (h3 : ∀ k, r = some k → k ≠ gr ∧ k ≠ bx) : WrS wx g r p (some o) :=
  h.far hf (fun e => by rcases e with e | e <;> omega) (fun k hk e => by have := h3 k hk; rcases e with e | e <;> omega)
set_option maxHeartbeats 16000000 in
set_option maxRecDepth 20000 in
theorem PackSame_any (l : List UInt8) (A : Option Addr) (n c : Nat) (xs : List Int) (w : World) (hr : Reads w w.heap.size 1 A n (xs.map (Value.int .u8))) (hx : xs.length = n) (hk : ∀ x ∈ xs, 0 ≤ x ∧ x ≤ 255) (hn : n ≤ 140737488351232) (hs : l.length ≤ 140737488351232) :
    Calls Try.prog 8 #[strV l, .slice A n c] w fun e w' => e = .returned (.bool true) ∧ Below w.heap.size w w' := by
  have HR := Lib.hid hr
  have HK := Lib.hid hk
  have hn1 : (n : Int) ≤ 140737488351232 := by omega
  have hs1 : (l.length : Int) ≤ 140737488351232 := by omega
  have gl : (⟨l.toArray⟩ : ByteArray).size = l.length := rfl
  clear hr hx hk hn hs
  go_enter Try.func8, Try.ntmps8
  by_cases hgt : 4000 < l.length ∨ 60 < n
  · by_cases h1 : 4000 < l.length
    · have q1 : decide ((4000 : Int) < (l.length : Int)) = true := by simp; omega
      clear hgt
      go_wp2_with (go_at_call 10; refine (head_any _).mono ?_; rintro e w2 ⟨rfl, hb2⟩)
      go_ret
      exact ⟨rfl, hb2⟩
    · have h2 : 60 < n := hgt.resolve_left h1
      have q1 : decide ((4000 : Int) < (l.length : Int)) = false := by simp; omega
      have q2 : decide ((60 : Int) < (n : Int)) = true := by simp; omega
      clear hgt
      go_wp2_with (go_at_call 10; refine (head_any _).mono ?_; rintro e w2 ⟨rfl, hb2⟩)
      go_ret
      exact ⟨rfl, hb2⟩
  · have q1 : decide ((4000 : Int) < (l.length : Int)) = false := by simp; omega
    have q2 : decide ((60 : Int) < (n : Int)) = false := by simp; omega
    have HL := Lib.hid (show l.length ≤ 4000 by omega)
    clear hgt
    have RI := Lib.hid ((new_rdl l w).below (bel_alloc (Below.refl _ _) (.cells #[.slice none 0 0, .bool true] 67)))
    have WI := Lib.hid (show WrS ((w.alloc (.cells #[strV l, .bool true, .bool true] 70)).alloc (.cells #[.slice none 0 0, .bool true] 67)) (w.heap.size + 1) none (some ⟨w.heap.size + 1, 0, none⟩) (some []) by
      have := new_wr (w.alloc (.cells #[strV l, .bool true, .bool true] 70))
      rwa [World.size_alloc] at this)
    have BI := Lib.hid (bel_alloc (bel_alloc (Below.refl w.heap.size w) (.cells #[strV l, .bool true, .bool true] 70)) (.cells #[.slice none 0 0, .bool true] 67))
    go_wp2_with (first
      | (go_at_call 24; (with_reducible refine (newr_lit _ _).mono ?_); rintro e w' ⟨rfl, rfl⟩)
      | (go_at_call 15; (with_reducible refine (new_any _).mono ?_); rintro e w' ⟨rfl, rfl⟩))
    go_loopw [7] (fun i wr => ∃ (j : Nat) (tk rs : List UInt8) (r' : Option Nat), i = .int .i64 j ∧ j ≤ n ∧ Hid (l = tk ++ rs) ∧ Hid (RdS wr w.heap.size (some ⟨w.heap.size, 0, none⟩) true (some rs)) ∧ Hid (WrS wr (w.heap.size + 1) r' (some ⟨w.heap.size + 1, 0, none⟩) (some tk)) ∧ Hid (∀ k, r' = some k → w.heap.size + 2 ≤ k) ∧ Hid (Below w.heap.size w wr)) (fun i _ => n - (intOf i).toNat)
    case atStart => exact ⟨0, [], l, none, rfl, Nat.zero_le _, Lib.hid rfl, RI, WI, Lib.hid (fun k e => by cases e), BI⟩
    case round =>
      obtain ⟨j, tk, rs, r', rfl, hj, HE, RD, WD, HRW, HB⟩ := hrel
      by_cases hlt : j < n
      · obtain ⟨ad, u, rfl, hb, hxu, hc⟩ := HR.out.at_ hlt
        rw [List.getElem?_map] at hxu
        obtain ⟨k, hk, rfl⟩ := Option.map_eq_some_iff.1 hxu
        obtain ⟨k0, k1⟩ := HK.out k (List.mem_of_getElem? hk)
        have c0 : wr.cell? (ad.add j) = some (.int .u8 k) := (HB.out.cell (by rw [block_of_add]; exact hb)).trans hc
        clear hxu hk hc
        obtain ⟨m, hd, hm7⟩ : ∃ m, k % 7 = m ∧ (m = 0 ∨ m = 1 ∨ m = 2 ∨ m = 3 ∨ m = 4 ∨ m = 5 ∨ m = 6) := ⟨_, rfl, by omega⟩
        have HM := Lib.hid (show rs.length ≤ 4000 by have := HL.out; rw [HE.out, List.length_append] at this; omega)
        have HN := Lib.hid (show w.heap.size ≠ wr.heap.size by have := RD.out.lt (k := w.heap.size) rfl; omega)
        go_upto_block 2 with fail
        try rw [hd]
        clear hd
        have B0 := Lib.hid (Blk.new wr 40 (itC (zIt m)))
        have R0 := Lib.hid (RD.out.below (bel_alloc (Below.refl _ _) (.cells (itC (zIt m)) 40)))
        go_cut [] (fun wx => Hid (SR (wr.alloc (.cells (itC (zIt m)) 40)) wr.heap.size w.heap.size m (some rs) wx))
        case first =>
          rcases hm7 with rfl | rfl | rfl | rfl | rfl | rfl | rfl
          · as_aux_lemma =>
            have HK := Lib.hid (show ∀ W, RdS W w.heap.size (some ⟨w.heap.size, 0, none⟩) true (some rs) → Calls Try.prog 36 #[.pointer (some ⟨w.heap.size, 0, none⟩)] W (RPost W w.heap.size (some ⟨w.heap.size, 0, none⟩) true (.int .u64 (((tnS (some rs)).1 : Nat) : Int)) (tnS (some rs)).2) from fun W hr => rdnum_any _ _ _ _ W hr (len_some (by have := HM.out; omega)))
            have HG := Lib.hid (show readS 0 (some rs) = (tnS (some rs)).2 by unfold readS; simp)
            go_wp2_with (go_at_call 36; (with_reducible refine (HK.out _ R0.out).mono ?_); rintro e w3 ⟨rfl, hr3, hf3⟩; have R3 := Lib.hid hr3; have F3 := Lib.hid hf3; have B3 := Lib.hid (hf3.blk B0.out (fun e => HN.out (rs_is e).symm)); have d0 : w3.cell? ⟨wr.heap.size, 1, none⟩ = some (.int .u64 0) := B3.out.cell 1; have d1 : w3.frozen? ⟨wr.heap.size, 1, none⟩ = false := B3.out.frozen 1; clear hr3 hf3)
            go_meet
            case rel => exact Lib.hid (sr_mk (x := { zIt 0 with n := (((tnS (some rs)).1 : Nat) : Int) }) 1 (.int .u64 (((tnS (some rs)).1 : Nat) : Int)) B0.out HN.out (by rw [HG.out]; exact R3.out) F3.out rfl rfl (fun s s' e h => by
                cases e
                obtain ⟨a, b⟩ := take_0 rfl HM.out h
                refine ⟨a, b _ _, fun ad ha => ?_⟩
                rcases ha with ⟨e, _⟩ | ⟨e, _⟩ | ⟨e, _⟩ <;> cases e))
          · as_aux_lemma =>
            have HK := Lib.hid (show ∀ W, RdS W w.heap.size (some ⟨w.heap.size, 0, none⟩) true (some rs) → Calls Try.prog 30 #[.pointer (some ⟨w.heap.size, 0, none⟩)] W (RPost W w.heap.size (some ⟨w.heap.size, 0, none⟩) true (.int .i64 (tiS (some rs)).1) (tiS (some rs)).2) from fun W hr => rdint_any _ _ _ _ W hr (len_some (by have := HM.out; omega)))
            have HG := Lib.hid (show readS 1 (some rs) = (tiS (some rs)).2 by unfold readS; simp)
            go_wp2_with (go_at_call 30; (with_reducible refine (HK.out _ R0.out).mono ?_); rintro e w3 ⟨rfl, hr3, hf3⟩; have R3 := Lib.hid hr3; have F3 := Lib.hid hf3; have B3 := Lib.hid (hf3.blk B0.out (fun e => HN.out (rs_is e).symm)); have d0 : w3.cell? ⟨wr.heap.size, 2, none⟩ = some (.int .i64 0) := B3.out.cell 2; have d1 : w3.frozen? ⟨wr.heap.size, 2, none⟩ = false := B3.out.frozen 2; clear hr3 hf3)
            go_meet
            case rel => exact Lib.hid (sr_mk (x := { zIt 1 with i := (tiS (some rs)).1 }) 2 (.int .i64 (tiS (some rs)).1) B0.out HN.out (by rw [HG.out]; exact R3.out) F3.out rfl rfl (fun s s' e h => by
                cases e
                obtain ⟨a, b⟩ := take_1 rfl HM.out h
                refine ⟨a, b _ _, fun ad ha => ?_⟩
                rcases ha with ⟨e, _⟩ | ⟨e, _⟩ | ⟨e, _⟩ <;> cases e))
          · as_aux_lemma =>
            have HK := Lib.hid (show ∀ W, RdS W w.heap.size (some ⟨w.heap.size, 0, none⟩) true (some rs) → Calls Try.prog 31 #[.pointer (some ⟨w.heap.size, 0, none⟩)] W (RPost W w.heap.size (some ⟨w.heap.size, 0, none⟩) true (.bool (ttS (some rs)).1) (ttS (some rs)).2) from fun W hr => rdtruth_any _ _ _ _ W hr (len_some (by have := HM.out; omega)))
            have HG := Lib.hid (show readS 2 (some rs) = (ttS (some rs)).2 by unfold readS; simp)
            go_wp2_with (go_at_call 31; (with_reducible refine (HK.out _ R0.out).mono ?_); rintro e w3 ⟨rfl, hr3, hf3⟩; have R3 := Lib.hid hr3; have F3 := Lib.hid hf3; have B3 := Lib.hid (hf3.blk B0.out (fun e => HN.out (rs_is e).symm)); have d0 : w3.cell? ⟨wr.heap.size, 3, none⟩ = some (.bool false) := B3.out.cell 3; have d1 : w3.frozen? ⟨wr.heap.size, 3, none⟩ = false := B3.out.frozen 3; clear hr3 hf3)
            go_meet
            case rel => exact Lib.hid (sr_mk (x := { zIt 2 with is := (ttS (some rs)).1 }) 3 (.bool (ttS (some rs)).1) B0.out HN.out (by rw [HG.out]; exact R3.out) F3.out rfl rfl (fun s s' e h => by
                cases e
                obtain ⟨a, b⟩ := take_2 rfl HM.out h
                refine ⟨a, b _ _, fun ad ha => ?_⟩
                rcases ha with ⟨e, _⟩ | ⟨e, _⟩ | ⟨e, _⟩ <;> cases e))
          · as_aux_lemma =>
            have HK := Lib.hid (show ∀ W, RdS W w.heap.size (some ⟨w.heap.size, 0, none⟩) true (some rs) → Calls Try.prog 32 #[.pointer (some ⟨w.heap.size, 0, none⟩)] W (RPost W w.heap.size (some ⟨w.heap.size, 0, none⟩) true (strV (txS (some rs)).1) (txS (some rs)).2) from fun W hr => rdtext_any _ _ _ _ W hr (len_some (by have := HM.out; omega)))
            have HG := Lib.hid (show readS 3 (some rs) = (txS (some rs)).2 by unfold readS; simp)
            go_wp2_with (go_at_call 32; (with_reducible refine (HK.out _ R0.out).mono ?_); rintro e w3 ⟨rfl, hr3, hf3⟩; have R3 := Lib.hid hr3; have F3 := Lib.hid hf3; have B3 := Lib.hid (hf3.blk B0.out (fun e => HN.out (rs_is e).symm)); have d0 : w3.cell? ⟨wr.heap.size, 4, none⟩ = some (.string ⟨#[]⟩) := B3.out.cell 4; have d1 : w3.frozen? ⟨wr.heap.size, 4, none⟩ = false := B3.out.frozen 4; clear hr3 hf3)
            go_meet
            case rel => exact Lib.hid (sr_mk (x := { zIt 3 with s := ⟨(txS (some rs)).1.toArray⟩ }) 4 (strV (txS (some rs)).1) B0.out HN.out (by rw [HG.out]; exact R3.out) F3.out rfl rfl (fun s s' e h => by
                cases e
                obtain ⟨a, b⟩ := take_3 rfl HM.out h
                refine ⟨a, b _ _, fun ad ha => ?_⟩
                rcases ha with ⟨e, _⟩ | ⟨e, _⟩ | ⟨e, _⟩ <;> cases e))
          · as_aux_lemma =>
            have HK := Lib.hid (show ∀ W, RdS W w.heap.size (some ⟨w.heap.size, 0, none⟩) true (some rs) → Calls Try.prog 33 #[.pointer (some ⟨w.heap.size, 0, none⟩)] W (LPost (Value.int .u64) W w.heap.size (some ⟨w.heap.size, 0, none⟩) true (listS tnI (some rs))) from fun W hr => rdnums_any _ _ _ _ W hr (len_some (by have := HM.out; omega)))
            have HG := Lib.hid (show readS 4 (some rs) = (listS tnI (some rs)).2 by unfold readS; simp)
            go_wp2_with (go_at_call 33; (with_reducible refine (HK.out _ R0.out).mono ?_); rintro e w3 ⟨A1, k1', rfl, hq1, hz1, hr3, hf3⟩; have R3 := Lib.hid hr3; have F3 := Lib.hid hf3; have Q3 := Lib.hid hq1; have Z3 := Lib.hid hz1; have B3 := Lib.hid (hf3.blk B0.out (fun e => HN.out (rs_is e).symm)); have d0 : w3.cell? ⟨wr.heap.size, 5, none⟩ = some (.slice none 0 0) := B3.out.cell 5; have d1 : w3.frozen? ⟨wr.heap.size, 5, none⟩ = false := B3.out.frozen 5; clear hr3 hf3 hq1 hz1)
            go_meet
            case rel => exact Lib.hid (sr_mk (x := { zIt 4 with A1 := A1, n1 := (listS tnI (some rs)).1.length, c1 := k1', l := (listS tnI (some rs)).1 }) 5 (.slice A1 (listS tnI (some rs)).1.length k1') B0.out HN.out (by rw [HG.out]; exact R3.out) F3.out rfl rfl (fun s s' e h => by
                cases e
                obtain ⟨a, b⟩ := take_4 A1 k1' rfl HM.out h
                refine ⟨a, b _ _ Q3.out, fun ad ha => ?_⟩
                rcases ha with ⟨e, _⟩ | ⟨e, _⟩ | ⟨e, _⟩ <;> first | exact Z3.out ad e | cases e))
          · as_aux_lemma =>
            have HK := Lib.hid (show ∀ W, RdS W w.heap.size (some ⟨w.heap.size, 0, none⟩) true (some rs) → Calls Try.prog 34 #[.pointer (some ⟨w.heap.size, 0, none⟩)] W (LPost (Value.int .i64) W w.heap.size (some ⟨w.heap.size, 0, none⟩) true (listS tiS (some rs))) from fun W hr => rdints_any _ _ _ _ W hr (len_some (by have := HM.out; omega)))
            have HG := Lib.hid (show readS 5 (some rs) = (listS tiS (some rs)).2 by unfold readS; simp)
            go_wp2_with (go_at_call 34; (with_reducible refine (HK.out _ R0.out).mono ?_); rintro e w3 ⟨A1, k1', rfl, hq1, hz1, hr3, hf3⟩; have R3 := Lib.hid hr3; have F3 := Lib.hid hf3; have Q3 := Lib.hid hq1; have Z3 := Lib.hid hz1; have B3 := Lib.hid (hf3.blk B0.out (fun e => HN.out (rs_is e).symm)); have d0 : w3.cell? ⟨wr.heap.size, 6, none⟩ = some (.slice none 0 0) := B3.out.cell 6; have d1 : w3.frozen? ⟨wr.heap.size, 6, none⟩ = false := B3.out.frozen 6; clear hr3 hf3 hq1 hz1)
            go_meet
            case rel => exact Lib.hid (sr_mk (x := { zIt 5 with A2 := A1, n2 := (listS tiS (some rs)).1.length, c2 := k1', m := (listS tiS (some rs)).1 }) 6 (.slice A1 (listS tiS (some rs)).1.length k1') B0.out HN.out (by rw [HG.out]; exact R3.out) F3.out rfl rfl (fun s s' e h => by
                cases e
                obtain ⟨a, b⟩ := take_5 A1 k1' rfl HM.out h
                refine ⟨a, b _ _ Q3.out, fun ad ha => ?_⟩
                rcases ha with ⟨e, _⟩ | ⟨e, _⟩ | ⟨e, _⟩ <;> first | exact Z3.out ad e | cases e))
          · as_aux_lemma =>
            have HK := Lib.hid (show ∀ W, RdS W w.heap.size (some ⟨w.heap.size, 0, none⟩) true (some rs) → Calls Try.prog 35 #[.pointer (some ⟨w.heap.size, 0, none⟩)] W (LPost (Value.string) W w.heap.size (some ⟨w.heap.size, 0, none⟩) true (listS tbS (some rs))) from fun W hr => rdtexts_any _ _ _ _ W hr (len_some (by have := HM.out; omega)))
            have HG := Lib.hid (show readS 6 (some rs) = (listS tbS (some rs)).2 by unfold readS; simp)
            go_wp2_with (go_at_call 35; (with_reducible refine (HK.out _ R0.out).mono ?_); rintro e w3 ⟨A1, k1', rfl, hq1, hz1, hr3, hf3⟩; have R3 := Lib.hid hr3; have F3 := Lib.hid hf3; have Q3 := Lib.hid hq1; have Z3 := Lib.hid hz1; have B3 := Lib.hid (hf3.blk B0.out (fun e => HN.out (rs_is e).symm)); have d0 : w3.cell? ⟨wr.heap.size, 7, none⟩ = some (.slice none 0 0) := B3.out.cell 7; have d1 : w3.frozen? ⟨wr.heap.size, 7, none⟩ = false := B3.out.frozen 7; clear hr3 hf3 hq1 hz1)
            go_meet
            case rel => exact Lib.hid (sr_mk (x := { zIt 6 with A3 := A1, n3 := (listS tbS (some rs)).1.length, c3 := k1', t := (listS tbS (some rs)).1 }) 7 (.slice A1 (listS tbS (some rs)).1.length k1') B0.out HN.out (by rw [HG.out]; exact R3.out) F3.out rfl rfl (fun s s' e h => by
                cases e
                obtain ⟨a, b⟩ := take_6 A1 k1' rfl HM.out h
                refine ⟨a, b _ _ Q3.out, fun ad ha => ?_⟩
                rcases ha with ⟨e, _⟩ | ⟨e, _⟩ | ⟨e, _⟩ <;> first | exact Z3.out ad e | cases e))
        case rest =>
          have HW := Lib.hid (show w.heap.size + 1 < wr.heap.size from WD.out.lt (k := w.heap.size + 1) ⟨rfl, .inl rfl⟩)
          have HRL := Lib.hid (show ∀ k, r' = some k → k < wr.heap.size from fun k hk => WD.out.lt (k := k) ⟨rfl, .inr hk⟩)
          obtain ⟨x, hxk, BX, RX, FX, TX⟩ := hcut.out
          have BX := Lib.hid BX
          have RX := Lib.hid RX
          have FX := Lib.hid FX
          have TX := Lib.hid TX
          have BC := Lib.hid (show Below w.heap.size w wc from (HB.out.trans ((bel_alloc (Below.refl wr.heap.size wr) (.cells (itC (zIt m)) 40)).mono HB.out.size)).trans (FX.out.to_below (by have := HB.out.size; rw [World.size_alloc]; omega) (fun k e => by have := HB.out.size; rcases e with e | e <;> omega)))
          clear hxk hcut B0 R0 hm7
          obtain ⟨s', hs'⟩ : ∃ s', readS m (some rs) = s' := ⟨_, rfl⟩
          rw [hs'] at RX
          have HS' := Lib.hid hs'
          clear hs'
          cases s' with
          | none =>
            go_wp2_with (first
              | (go_at_call 27; (with_reducible refine (fine_any _ _ true none _ RX.out).mono ?_); rintro e w' ⟨rfl, rfl⟩)
              | (go_at_call 29; (with_reducible refine (left_none _ _ _ RX.out).mono ?_); rintro e w' ⟨rfl, rfl⟩)
              | (go_at_call 36; (with_reducible refine (num_none _ _ _ RX.out).mono ?_); rintro e w4 ⟨rfl, hr4, hf4⟩; have R4 := Lib.hid hr4; have F4 := Lib.hid hf4; clear hr4 hf4)
              | (go_at_call 27; (with_reducible refine (fine_any _ _ true none _ R4.out).mono ?_); rintro e w' ⟨rfl, rfl⟩)
              | (go_at_call 10; (with_reducible refine (head_any _).mono ?_); rintro e w2 ⟨rfl, hb2⟩))
            go_ret
            exact ⟨rfl, bel_trans (BC.out.trans (F4.out.bel (Nat.le_refl _) BC.out.size)) hb2⟩
          | some s1 =>
            obtain ⟨t1, ⟨B, hB, t2⟩, t3⟩ := TX.out rs s1 rfl HS'.out
            have HQ := Lib.hid t1
            have HO := Lib.hid t2
            have HBB := Lib.hid hB
            have WX := Lib.hid ((WD.out.below (bel_alloc (Below.refl _ _) (.cells (itC (zIt m)) 40))).two FX.out (by omega) (by have := HW.out; omega) (fun k hk => by have := HRW.out k hk; have := HRL.out k hk; omega))
            have HLX := Lib.hid (show (itB x).length + s1.length = rs.length by rw [HQ.out, List.length_append])
            have HAP := Lib.hid (show ∀ ad, (x.A1 = some ad ∧ 0 < x.n1) ∨ (x.A2 = some ad ∧ 0 < x.n2) ∨ (x.A3 = some ad ∧ 0 < x.n3) → ¬ WSet (some tk).isSome (w.heap.size + 1) r' ad.block from fun ad ha e => by
              have h1 := t3 ad ha
              rw [World.size_alloc] at h1
              rcases e.2 with e | e
              · have := HW.out; omega
              · have := HRL.out _ e; omega)
            have HLT := Lib.hid (show tk.length ≤ 4000 by have := HL.out; rw [HE.out, List.length_append] at this; omega)
            have HC := Lib.hid (writes_any _ _ _ _ x B _ WX.out HO.out HBB.out HAP.out (by have := HLX.out; have := HM.out; omega) (len_some (by have := HLT.out; omega)))
            have i0 : wc.cell? ⟨wr.heap.size, 0, none⟩ = some (.int .u8 x.k) := BX.out.cell 0
            have i1 : wc.cell? ⟨wr.heap.size, 1, none⟩ = some (.int .u64 x.n) := BX.out.cell 1
            have i2 : wc.cell? ⟨wr.heap.size, 2, none⟩ = some (.int .i64 x.i) := BX.out.cell 2
            have i3 : wc.cell? ⟨wr.heap.size, 3, none⟩ = some (.bool x.is) := BX.out.cell 3
            have i4 : wc.cell? ⟨wr.heap.size, 4, none⟩ = some (.string x.s) := BX.out.cell 4
            have i5 : wc.cell? ⟨wr.heap.size, 5, none⟩ = some (.slice x.A1 x.n1 x.c1) := BX.out.cell 5
            have i6 : wc.cell? ⟨wr.heap.size, 6, none⟩ = some (.slice x.A2 x.n2 x.c2) := BX.out.cell 6
            have i7 : wc.cell? ⟨wr.heap.size, 7, none⟩ = some (.slice x.A3 x.n3 x.c3) := BX.out.cell 7
            clear t1 t2 t3 hB
            obtain ⟨T, hT⟩ : ∃ T, tk ++ itB x = T := ⟨_, rfl⟩
            have HT := Lib.hid (show l = T ++ s1 by rw [← hT, List.append_assoc, ← HQ.out]; exact HE.out)
            have w0 : IntKind.i64.wrap ((l.length : Int) - (s1.length : Int)) = (T.length : Int) := by
              have h1 := HL.out
              have h2 : l.length = T.length + s1.length := by rw [HT.out, List.length_append]
              rw [wrap64_id (by omega)]
              omega
            have v1 : (0 : Int) ≤ (T.length : Int) := by omega
            have v2 : (T.length : Int) ≤ (l.length : Int) := by rw [HT.out, List.length_append]; omega
            have v3 : decide ((T.length : Int) < 0) = false := decide_eq_false (by omega)
            have v4 : decide ((l.length : Int) < (T.length : Int)) = false := decide_eq_false (by omega)
            have v5 : T.length ≤ l.length := by omega
            have v6 : decide (l.length < T.length) = false := decide_eq_false (by omega)
            have S1 : (⟨l.toArray⟩ : ByteArray).extract 0 T.length = ⟨T.toArray⟩ := by rw [str_take, HT.out, List.take_left]
            have HTT := Lib.hid hT
            clear hT
            go_upto_region 28 with (first
              | (go_at_call 27; (with_reducible refine (fine_any _ _ true (some s1) _ RX.out).mono ?_); rintro e w' ⟨rfl, rfl⟩)
              | (go_at_call 16; (refine HC.out.mono ?_); rintro e w4 ⟨rfl, r4, hs4, hf4⟩; have W4 := Lib.hid (show WrS w4 (w.heap.size + 1) r4 (some ⟨w.heap.size + 1, 0, none⟩) (some T) by rw [← HTT.out]; exact hs4); have F4 := Lib.hid hf4; have R4 := Lib.hid (RX.out.far hf4.far (fun _ e => by rcases e.2 with e | e <;> first | omega | (have := HRW.out _ e; omega))); clear hs4 hf4)
              | (go_at_call 29; (with_reducible refine (left_any _ _ true (some s1) _ R4.out).mono ?_); rintro e w' ⟨rfl, rfl⟩))
            have WD4 := Lib.hid (W4.out.below (Below.refl _ _).drew)
            go_region_held3 (fun w' => WrS w' (w.heap.size + 1) r4 (some ⟨w.heap.size + 1, 0, none⟩) (some T))
              (first | with_reducible exact WD4.out | with_reducible assumption)
              ((go_at_call 17; (with_reducible refine (bytes_lit _ _ _ _ _ _ WD4.out rfl).mono ?_); rintro e w' ⟨rfl, rfl⟩))
            go_wp2
            go_roundw
            case rel => exact ⟨j + 1, T, s1, r4, by go_num, by omega, HT, Lib.hid (R4.out.below (Below.refl _ _).drew), WD4, Lib.hid (fun k hk => by
              rcases F4.out.row with e | ⟨q, e, hq⟩
              · exact HRW.out k (e ▸ hk)
              · have e2 : k = q := by rw [hk] at e; exact Option.some.inj e
                have := BC.out.size
                have := HW.out
                have := FX.out.size
                rw [World.size_alloc] at this
                omega), Lib.hid ((BC.out.trans (F4.out.far.to_below BC.out.size (fun k e => by rcases e.2 with e | e <;> first | omega | (have := HRW.out _ e; omega)))).drew)⟩
            case measure => simp [intOf]; omega
      · obtain rfl : j = n := by omega
        go_wp2_with (go_at_call 10; refine (head_any _).mono ?_; rintro e w2 ⟨rfl, hb2⟩)
        go_ret
        exact ⟨rfl, bel_trans HB.out hb2⟩
theorem PackSame_str (s : ByteArray) (A : Option Addr) (n c : Nat) (xs : List Int) (w : World) (hr : Reads w w.heap.size 1 A n (xs.map (Value.int .u8))) (hx : xs.length = n) (hk : ∀ x ∈ xs, 0 ≤ x ∧ x ≤ 255) (hn : n ≤ 140737488351232) (hs : s.size ≤ 140737488351232) :
    Calls Try.prog 8 #[.string s, .slice A n c] w fun e w' => e = .returned (.bool true) ∧ Below w.heap.size w w' := by
  have e : strV s.data.toList = .string s := congrArg Value.string (ByteArray.ext (Array.toArray_toList))
  rw [← e]
  exact PackSame_any _ A n c xs w hr hx hk hn (by rw [Array.length_toList]; exact hs)
end Go.Proofs.Ytijkfllolcgfhaa.Pack

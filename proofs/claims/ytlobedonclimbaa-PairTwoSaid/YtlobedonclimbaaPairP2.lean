/- Chapter 9: the iterator over the places, walked. No condition but bounds. -/
import Derived.Test.YtlobedonclimbaaPairX
import Derived.Test.YtlobedonclimbaaRange
namespace Go.Proofs.Ytlobedonclimbaa.Pair
open Go.RowKit
set_option linter.unusedVariables false
attribute [local go_sem] Oper.semAt_some

/-- The place behind the i-th character; those that are handed over before the k-th character. -/
def pAt (xs : List Int) (i : Nat) : Nat × Pl := (i, finalP pl0 (xs.take (i + 1)))
def yTo (xs : List Int) (k : Nat) : List (Nat × Pl) := ((List.range k).map (pAt xs)).drop 1
def yL (xs : List Int) : List (Nat × Pl) := yTo xs xs.length
theorem yTo_succ (xs : List Int) (k : Nat) (h : 1 ≤ k) : yTo xs (k + 1) = yTo xs k ++ [pAt xs k] := by
  unfold yTo
  rw [List.range_succ, List.map_append, List.drop_append, List.length_map, List.length_range]
  rw [show 1 - k = 0 by omega]
  rfl
theorem yTo_one (xs : List Int) : yTo xs 1 = [] := by simp [yTo]
theorem yTo_zero (xs : List Int) : yTo xs 0 = [] := by simp [yTo]
theorem yTo_pre (xs : List Int) (k : Nat) (h : k ≤ xs.length) : yTo xs k <+: yL xs := by
  unfold yL yTo
  have : List.range xs.length = List.range k ++ (List.range (xs.length - k)).map (k + ·) := by
    rw [← List.range_add, Nat.add_sub_cancel' h]
  rw [this, List.map_append]
  by_cases h1 : 1 ≤ k
  · rw [List.drop_append, List.length_map, List.length_range, show 1 - k = 0 by omega]
    exact List.prefix_append _ _
  · obtain rfl : k = 0 := by omega
    simp
theorem final_take (xs : List Int) (k : Nat) (h : k < xs.length) : finalP pl0 (xs.take (k + 1)) = stepP (finalP pl0 (xs.take k)) (xs[k]?.getD 0) := by
  rw [List.take_succ_eq_append_getElem h, finalP_snoc, List.getElem?_eq_getElem h]
  rfl
abbrev encP (x : Nat × Pl) : Array Value := #[.int .i64 x.1, plV x.2]
/-- What must lie between two rounds: the caller's blocks, the box of the list, the iterator's own. -/
def SP (n0 bx b0 : Nat) (b : Nat) : Prop := b < n0 ∨ b = bx ∨ b = b0

theorem places_any (A : Option Addr) (n c : Nat) (w : World) : Calls Try.prog 27 #[.slice A n c] w fun e w' => e = .returned (.func (.func 59) #[] #[.pointer (some ⟨w.heap.size, 0, none⟩)]) ∧ w.alloc (.cells #[.slice A n c] 22) = w' := by
  go_enter Try.func27, Try.ntmps27
  go_wp2
  go_ret
  exact ⟨rfl, rfl⟩

set_option maxHeartbeats 4000000 in
set_option maxRecDepth 100000 in
theorem places_seq (A : Option Addr) (n c : Nat) (xs : List Int) (hl : xs.length = n) (hn : n ≤ 1000000) (n0 bx : Nat) (W0 : World) (hbx : bx < W0.heap.size) (hn0 : n0 ≤ W0.heap.size)
    (hbox : Blk W0 bx 22 #[.slice A n c]) (hr : Reads W0 n0 1 A n (xs.map (Value.int .u8))) :
    SeqT Try.prog 59 #[.pointer (some ⟨bx, 0, none⟩)] encP (· = W0.heap.size) (Lies (SP n0 bx W0.heap.size)) (fun _ W => W0.heap.size < W.heap.size) (yL xs) W0 := by
  intro l J Jx hJ hJx hY h0
  have HL := Lib.hid hl
  have HY := Lib.hid hY
  have HJ := Lib.hid hJ
  clear hl hY hJ hJx
  have J0 := Lib.hid (HJ.out.more _ _ _ h0 (bel_alloc (Below.refl _ _) (.cells (plC pl0) 54)))
  have K0 := Lib.hid (Blk.new W0 54 (plC pl0))
  have B0 := Lib.hid (hbox.alloc (.cells (plC pl0) 54))
  have R0 := Lib.hid (hr.alloc hn0 (.cells (plC pl0) 54))
  have cb : W0.cell? ⟨bx, 0, none⟩ = some (.slice A n c) := hbox.cell 0
  clear h0 hbox hr
  refine callsIn_of_wp Try.func59 rfl trivial ?_ rfl
  simp only [Try.ntmps59, List.size_toArray, List.length_cons, List.length_nil, Nat.reduceAdd, Nat.reduceSub, Array.replicate_succ, Array.replicate_zero, List.push_toArray, List.append_toArray, List.nil_append, List.cons_append]
  gi_wp2
  gi_loopw [9] (fun i wr => ∃ k : Nat, i = .int .i64 k ∧ k ≤ n ∧ Hid (Blk wr W0.heap.size 54 (plC (finalP pl0 (xs.take k)))) ∧ Hid (Blk wr bx 22 #[.slice A n c]) ∧ Hid (Reads wr n0 1 A n (xs.map (Value.int .u8))) ∧ Hid (J (yTo xs k) wr)) (fun i wr => n - (intOf i).toNat)
  case atStart => exact ⟨0, rfl, by omega, K0, B0, R0, by rw [yTo_zero]; exact J0⟩
  case round =>
    obtain ⟨k, rfl, hk, K, B, R, JJ⟩ := hrel
    by_cases hlt : k < n
    · obtain ⟨ad, rfl, _, g0⟩ := reads_kind HL.out R.out hlt
      have HF := Lib.hid (final_take xs k (by rw [HL.out]; exact hlt))
      generalize xs[k]?.getD 0 = x at g0 HF
      obtain ⟨p, hp⟩ : ∃ p, finalP pl0 (xs.take k) = p := ⟨_, rfl⟩
      rw [hp] at HF K
      clear hp
      obtain ⟨pa, po, pb, pc⟩ := p
      have c0 : wr.cell? ⟨W0.heap.size, 0, none⟩ = some (.int .u8 pa) := K.out.cell 0
      have c1 : wr.cell? ⟨W0.heap.size, 1, none⟩ = some (.int .u8 po) := K.out.cell 1
      have c2 : wr.cell? ⟨W0.heap.size, 2, none⟩ = some (.int .u8 pb) := K.out.cell 2
      have c3 : wr.cell? ⟨W0.heap.size, 3, none⟩ = some (.bool pc) := K.out.cell 3
      have f0 := K.out.frozen 0
      have f1 := K.out.frozen 1
      have f2 := K.out.frozen 2
      have f3 := K.out.frozen 3
      have i0 : (0 : Int) ≤ k := by omega
      have i1 : (k : Int) < n := by omega
      have lt := K.out.lt
      have Hlt := lt
      obtain ⟨q1, hq1⟩ : ∃ q, (cnt x pb).1 = q := ⟨_, rfl⟩
      obtain ⟨q2, hq2⟩ : ∃ q, (cnt x pb).2 = q := ⟨_, rfl⟩
      have HC := Lib.hid (fun W => counts_any x pb W)
      rw [hq1, hq2] at HC
      have Q1 := Lib.hid hq1
      have Q2 := Lib.hid hq2
      clear hq1 hq2
      by_cases h5 : pb = 5
      · have t5 : (pb != 5) = false := by simpa using h5
        have HO := Lib.hid (show lastO pb po = po from if_neg (fun h => h.1 h5))
        clear h5
        have HN := Lib.hid (show finalP pl0 (xs.take (k + 1)) = ⟨pb, po, q1, q2⟩ by rw [HF.out]; simp only [stepP, Q1.out, Q2.out, HO.out])
        rcases Nat.eq_zero_or_pos k with hk0 | hk1
        · have HZ := Lib.hid hk0
          have z0 : decide ((0 : Int) < (k : Int)) = false := decide_eq_false (by omega)
          have z1 : decide (0 < k) = false := decide_eq_false (by omega)
          have HT := Lib.hid (show yTo xs (k + 1) = yTo xs k by rw [HZ.out]; rw [yTo_zero]; exact yTo_one xs)
          clear hk0
          gi_wp2_with ((refine ⟨trivial, ?_⟩; gi_at_call 60; refine (callsIn_wide.2 (HC.out _)).mono ?_; rintro e w1 ⟨rfl, hb1⟩; have K1 := Lib.hid (((K.out.set_ 0 (.int .u8 pb))).keep hb1); have B1 := Lib.hid ((B.out.far (p := ⟨W0.heap.size, 0, none⟩) (Nat.ne_of_lt hbx) (.int .u8 pb)).keep hb1); have hs1 := hb1.size; simp only [World.size_setCell] at hs1; have R1 := Lib.hid ((R.out.setCell (p := ⟨W0.heap.size, 0, none⟩) hn0 (.int .u8 pb)).below (hb1.mono (by simp only [World.size_setCell]; omega))); have J1 := Lib.hid (HJ.out.more _ _ _ (HJ.out.set_ _ _ ⟨W0.heap.size, 0, none⟩ (.int .u8 pb) rfl JJ.out) hb1); have d2 : w1.cell? ⟨W0.heap.size, 2, none⟩ = some (.int .u8 pb) := K1.out.cell 2; have d3 : w1.cell? ⟨W0.heap.size, 3, none⟩ = some (.bool pc) := K1.out.cell 3; have d0 : w1.cell? ⟨W0.heap.size, 0, none⟩ = some (.int .u8 pb) := K1.out.cell 0; have d1 : w1.cell? ⟨W0.heap.size, 1, none⟩ = some (.int .u8 po) := K1.out.cell 1; have e2 := K1.out.frozen 2; have e3 := K1.out.frozen 3; have K2 := Lib.hid (show Blk ((w1.setCell ⟨W0.heap.size, 2, none⟩ (.int .u8 q1)).setCell ⟨W0.heap.size, 3, none⟩ (.bool q2)) W0.heap.size 54 #[.int .u8 pb, .int .u8 po, .int .u8 q1, .bool q2] from by have := (K1.out.set_ 2 (.int .u8 q1)).set_ 3 (.bool q2); simpa using this); have B2 := Lib.hid ((B1.out.far (p := ⟨W0.heap.size, 2, none⟩) (Nat.ne_of_lt hbx) (.int .u8 q1)).far (p := ⟨W0.heap.size, 3, none⟩) (Nat.ne_of_lt hbx) (.bool q2)); have R2 := Lib.hid ((R1.out.setCell (p := ⟨W0.heap.size, 2, none⟩) hn0 (.int .u8 q1)).setCell (p := ⟨W0.heap.size, 3, none⟩) hn0 (.bool q2)); have J2 := Lib.hid (HJ.out.set_ _ _ ⟨W0.heap.size, 3, none⟩ (.bool q2) rfl (HJ.out.set_ _ _ ⟨W0.heap.size, 2, none⟩ (.int .u8 q1) rfl J1.out))))
          refine ⟨fun _ h => (by cases h), ?_⟩
          gi_wp2
          go_roundw
          case rel => exact ⟨k + 1, by go_num, by omega, by rw [HN.out]; exact K2, B2, R2, by rw [HT.out]; exact J2⟩
          case measure => simp [intOf]; omega
        · have i2 : (0 : Int) < k := by omega
          have HX := Lib.hid (show ∀ W, J (yTo xs k) W → W0.heap.size < W.heap.size → YieldAt Fence.wide 8 Try.prog l #[.int .i64 k, .agg #[.int .u8 pb, .int .u8 po, .int .u8 q1, .bool q2]] W fun e W' => (e = .returned (.bool true) ∧ J (yTo xs (k + 1)) W' ∧ Lies (SP n0 bx W0.heap.size) W W') ∨ (e = .returned (.bool false) ∧ Jx (yTo xs (k + 1)) W') from fun W hj hs => by
            have h := HY.out (yTo xs k) (pAt xs k) W (by rw [← yTo_succ xs k hk1]; exact yTo_pre xs (k + 1) (by rw [HL.out]; omega)) hs hj
            rw [← yTo_succ xs k hk1] at h
            simp only [pAt, encP, HN.out] at h
            exact h)
          gi_wp2_with ((refine ⟨trivial, ?_⟩; gi_at_call 60; refine (callsIn_wide.2 (HC.out _)).mono ?_; rintro e w1 ⟨rfl, hb1⟩; have K1 := Lib.hid (((K.out.set_ 0 (.int .u8 pb))).keep hb1); have B1 := Lib.hid ((B.out.far (p := ⟨W0.heap.size, 0, none⟩) (Nat.ne_of_lt hbx) (.int .u8 pb)).keep hb1); have hs1 := hb1.size; simp only [World.size_setCell] at hs1; have R1 := Lib.hid ((R.out.setCell (p := ⟨W0.heap.size, 0, none⟩) hn0 (.int .u8 pb)).below (hb1.mono (by simp only [World.size_setCell]; omega))); have J1 := Lib.hid (HJ.out.more _ _ _ (HJ.out.set_ _ _ ⟨W0.heap.size, 0, none⟩ (.int .u8 pb) rfl JJ.out) hb1); have d2 : w1.cell? ⟨W0.heap.size, 2, none⟩ = some (.int .u8 pb) := K1.out.cell 2; have d3 : w1.cell? ⟨W0.heap.size, 3, none⟩ = some (.bool pc) := K1.out.cell 3; have d0 : w1.cell? ⟨W0.heap.size, 0, none⟩ = some (.int .u8 pb) := K1.out.cell 0; have d1 : w1.cell? ⟨W0.heap.size, 1, none⟩ = some (.int .u8 po) := K1.out.cell 1; have e2 := K1.out.frozen 2; have e3 := K1.out.frozen 3; have K2 := Lib.hid (show Blk ((w1.setCell ⟨W0.heap.size, 2, none⟩ (.int .u8 q1)).setCell ⟨W0.heap.size, 3, none⟩ (.bool q2)) W0.heap.size 54 #[.int .u8 pb, .int .u8 po, .int .u8 q1, .bool q2] from by have := (K1.out.set_ 2 (.int .u8 q1)).set_ 3 (.bool q2); simpa using this); have B2 := Lib.hid ((B1.out.far (p := ⟨W0.heap.size, 2, none⟩) (Nat.ne_of_lt hbx) (.int .u8 q1)).far (p := ⟨W0.heap.size, 3, none⟩) (Nat.ne_of_lt hbx) (.bool q2)); have R2 := Lib.hid ((R1.out.setCell (p := ⟨W0.heap.size, 2, none⟩) hn0 (.int .u8 q1)).setCell (p := ⟨W0.heap.size, 3, none⟩) hn0 (.bool q2)); have J2 := Lib.hid (HJ.out.set_ _ _ ⟨W0.heap.size, 3, none⟩ (.bool q2) rfl (HJ.out.set_ _ _ ⟨W0.heap.size, 2, none⟩ (.int .u8 q1) rfl J1.out)); have l2 := K2.out.lt; obtain ⟨fn, tmps, assign, body, hy, hR⟩ := HX.out _ J2.out l2))
          refine hR.mono ?_
          rintro e W3 (⟨rfl, hJ3, hk3⟩ | ⟨rfl, hJx3⟩)
          · have K3 := Lib.hid (K2.out.lies hk3 (.inr (.inr rfl)))
            have B3 := Lib.hid (B2.out.lies hk3 (.inr (.inl rfl)))
            have R3 := Lib.hid (R2.out.keep (fun p hp => World.cell?_of_block (hk3.same p.block (.inl hp) (by simp only [World.size_setCell]; omega))))
            have J3 := Lib.hid hJ3
            clear hJ3 hk3
            gi_wp2
            go_roundw
            case rel => exact ⟨k + 1, by go_num, by omega, by rw [HN.out]; exact K3, B3, R3, J3⟩
            case measure => simp [intOf]; omega
          · have P3 := Lib.hid (yTo_pre xs (k + 1) (by rw [HL.out]; omega))
            have J3 := Lib.hid hJx3
            clear hJx3
            gi_wp2
            refine bodyPost_ret (results_none rfl _ _ _) rfl ?_
            exact ⟨⟨_, rfl⟩, .inr ⟨yTo xs (k + 1), P3.out, J3.out⟩⟩
      · by_cases h255 : pb = 255
        · have t5 : (pb != 5) = true := by simpa using h5
          have t255 : (pb != 255) = false := by simpa using h255
          have HO := Lib.hid (show lastO pb po = po from if_neg (fun h => h.2 h255))
          clear h5 h255
          have HN := Lib.hid (show finalP pl0 (xs.take (k + 1)) = ⟨pb, po, q1, q2⟩ by rw [HF.out]; simp only [stepP, Q1.out, Q2.out, HO.out])
          rcases Nat.eq_zero_or_pos k with hk0 | hk1
          · have HZ := Lib.hid hk0
            have z0 : decide ((0 : Int) < (k : Int)) = false := decide_eq_false (by omega)
            have z1 : decide (0 < k) = false := decide_eq_false (by omega)
            have HT := Lib.hid (show yTo xs (k + 1) = yTo xs k by rw [HZ.out]; rw [yTo_zero]; exact yTo_one xs)
            clear hk0
            gi_wp2_with ((refine ⟨trivial, ?_⟩; gi_at_call 60; refine (callsIn_wide.2 (HC.out _)).mono ?_; rintro e w1 ⟨rfl, hb1⟩; have K1 := Lib.hid (((K.out.set_ 0 (.int .u8 pb))).keep hb1); have B1 := Lib.hid ((B.out.far (p := ⟨W0.heap.size, 0, none⟩) (Nat.ne_of_lt hbx) (.int .u8 pb)).keep hb1); have hs1 := hb1.size; simp only [World.size_setCell] at hs1; have R1 := Lib.hid ((R.out.setCell (p := ⟨W0.heap.size, 0, none⟩) hn0 (.int .u8 pb)).below (hb1.mono (by simp only [World.size_setCell]; omega))); have J1 := Lib.hid (HJ.out.more _ _ _ (HJ.out.set_ _ _ ⟨W0.heap.size, 0, none⟩ (.int .u8 pb) rfl JJ.out) hb1); have d2 : w1.cell? ⟨W0.heap.size, 2, none⟩ = some (.int .u8 pb) := K1.out.cell 2; have d3 : w1.cell? ⟨W0.heap.size, 3, none⟩ = some (.bool pc) := K1.out.cell 3; have d0 : w1.cell? ⟨W0.heap.size, 0, none⟩ = some (.int .u8 pb) := K1.out.cell 0; have d1 : w1.cell? ⟨W0.heap.size, 1, none⟩ = some (.int .u8 po) := K1.out.cell 1; have e2 := K1.out.frozen 2; have e3 := K1.out.frozen 3; have K2 := Lib.hid (show Blk ((w1.setCell ⟨W0.heap.size, 2, none⟩ (.int .u8 q1)).setCell ⟨W0.heap.size, 3, none⟩ (.bool q2)) W0.heap.size 54 #[.int .u8 pb, .int .u8 po, .int .u8 q1, .bool q2] from by have := (K1.out.set_ 2 (.int .u8 q1)).set_ 3 (.bool q2); simpa using this); have B2 := Lib.hid ((B1.out.far (p := ⟨W0.heap.size, 2, none⟩) (Nat.ne_of_lt hbx) (.int .u8 q1)).far (p := ⟨W0.heap.size, 3, none⟩) (Nat.ne_of_lt hbx) (.bool q2)); have R2 := Lib.hid ((R1.out.setCell (p := ⟨W0.heap.size, 2, none⟩) hn0 (.int .u8 q1)).setCell (p := ⟨W0.heap.size, 3, none⟩) hn0 (.bool q2)); have J2 := Lib.hid (HJ.out.set_ _ _ ⟨W0.heap.size, 3, none⟩ (.bool q2) rfl (HJ.out.set_ _ _ ⟨W0.heap.size, 2, none⟩ (.int .u8 q1) rfl J1.out))))
            refine ⟨fun _ h => (by cases h), ?_⟩
            gi_wp2
            go_roundw
            case rel => exact ⟨k + 1, by go_num, by omega, by rw [HN.out]; exact K2, B2, R2, by rw [HT.out]; exact J2⟩
            case measure => simp [intOf]; omega
          · have i2 : (0 : Int) < k := by omega
            have HX := Lib.hid (show ∀ W, J (yTo xs k) W → W0.heap.size < W.heap.size → YieldAt Fence.wide 8 Try.prog l #[.int .i64 k, .agg #[.int .u8 pb, .int .u8 po, .int .u8 q1, .bool q2]] W fun e W' => (e = .returned (.bool true) ∧ J (yTo xs (k + 1)) W' ∧ Lies (SP n0 bx W0.heap.size) W W') ∨ (e = .returned (.bool false) ∧ Jx (yTo xs (k + 1)) W') from fun W hj hs => by
              have h := HY.out (yTo xs k) (pAt xs k) W (by rw [← yTo_succ xs k hk1]; exact yTo_pre xs (k + 1) (by rw [HL.out]; omega)) hs hj
              rw [← yTo_succ xs k hk1] at h
              simp only [pAt, encP, HN.out] at h
              exact h)
            gi_wp2_with ((refine ⟨trivial, ?_⟩; gi_at_call 60; refine (callsIn_wide.2 (HC.out _)).mono ?_; rintro e w1 ⟨rfl, hb1⟩; have K1 := Lib.hid (((K.out.set_ 0 (.int .u8 pb))).keep hb1); have B1 := Lib.hid ((B.out.far (p := ⟨W0.heap.size, 0, none⟩) (Nat.ne_of_lt hbx) (.int .u8 pb)).keep hb1); have hs1 := hb1.size; simp only [World.size_setCell] at hs1; have R1 := Lib.hid ((R.out.setCell (p := ⟨W0.heap.size, 0, none⟩) hn0 (.int .u8 pb)).below (hb1.mono (by simp only [World.size_setCell]; omega))); have J1 := Lib.hid (HJ.out.more _ _ _ (HJ.out.set_ _ _ ⟨W0.heap.size, 0, none⟩ (.int .u8 pb) rfl JJ.out) hb1); have d2 : w1.cell? ⟨W0.heap.size, 2, none⟩ = some (.int .u8 pb) := K1.out.cell 2; have d3 : w1.cell? ⟨W0.heap.size, 3, none⟩ = some (.bool pc) := K1.out.cell 3; have d0 : w1.cell? ⟨W0.heap.size, 0, none⟩ = some (.int .u8 pb) := K1.out.cell 0; have d1 : w1.cell? ⟨W0.heap.size, 1, none⟩ = some (.int .u8 po) := K1.out.cell 1; have e2 := K1.out.frozen 2; have e3 := K1.out.frozen 3; have K2 := Lib.hid (show Blk ((w1.setCell ⟨W0.heap.size, 2, none⟩ (.int .u8 q1)).setCell ⟨W0.heap.size, 3, none⟩ (.bool q2)) W0.heap.size 54 #[.int .u8 pb, .int .u8 po, .int .u8 q1, .bool q2] from by have := (K1.out.set_ 2 (.int .u8 q1)).set_ 3 (.bool q2); simpa using this); have B2 := Lib.hid ((B1.out.far (p := ⟨W0.heap.size, 2, none⟩) (Nat.ne_of_lt hbx) (.int .u8 q1)).far (p := ⟨W0.heap.size, 3, none⟩) (Nat.ne_of_lt hbx) (.bool q2)); have R2 := Lib.hid ((R1.out.setCell (p := ⟨W0.heap.size, 2, none⟩) hn0 (.int .u8 q1)).setCell (p := ⟨W0.heap.size, 3, none⟩) hn0 (.bool q2)); have J2 := Lib.hid (HJ.out.set_ _ _ ⟨W0.heap.size, 3, none⟩ (.bool q2) rfl (HJ.out.set_ _ _ ⟨W0.heap.size, 2, none⟩ (.int .u8 q1) rfl J1.out)); have l2 := K2.out.lt; obtain ⟨fn, tmps, assign, body, hy, hR⟩ := HX.out _ J2.out l2))
            refine hR.mono ?_
            rintro e W3 (⟨rfl, hJ3, hk3⟩ | ⟨rfl, hJx3⟩)
            · have K3 := Lib.hid (K2.out.lies hk3 (.inr (.inr rfl)))
              have B3 := Lib.hid (B2.out.lies hk3 (.inr (.inl rfl)))
              have R3 := Lib.hid (R2.out.keep (fun p hp => World.cell?_of_block (hk3.same p.block (.inl hp) (by simp only [World.size_setCell]; omega))))
              have J3 := Lib.hid hJ3
              clear hJ3 hk3
              gi_wp2
              go_roundw
              case rel => exact ⟨k + 1, by go_num, by omega, by rw [HN.out]; exact K3, B3, R3, J3⟩
              case measure => simp [intOf]; omega
            · have P3 := Lib.hid (yTo_pre xs (k + 1) (by rw [HL.out]; omega))
              have J3 := Lib.hid hJx3
              clear hJx3
              gi_wp2
              refine bodyPost_ret (results_none rfl _ _ _) rfl ?_
              exact ⟨⟨_, rfl⟩, .inr ⟨yTo xs (k + 1), P3.out, J3.out⟩⟩
        · have t5 : (pb != 5) = true := by simpa using h5
          have t255 : (pb != 255) = true := by simpa using h255
          have HO := Lib.hid (show lastO pb po = pb from if_pos ⟨h5, h255⟩)
          clear h5 h255
          have HN := Lib.hid (show finalP pl0 (xs.take (k + 1)) = ⟨pb, pb, q1, q2⟩ by rw [HF.out]; simp only [stepP, Q1.out, Q2.out, HO.out])
          rcases Nat.eq_zero_or_pos k with hk0 | hk1
          · have HZ := Lib.hid hk0
            have z0 : decide ((0 : Int) < (k : Int)) = false := decide_eq_false (by omega)
            have z1 : decide (0 < k) = false := decide_eq_false (by omega)
            have HT := Lib.hid (show yTo xs (k + 1) = yTo xs k by rw [HZ.out]; rw [yTo_zero]; exact yTo_one xs)
            clear hk0
            gi_wp2_with ((refine ⟨trivial, ?_⟩; gi_at_call 60; refine (callsIn_wide.2 (HC.out _)).mono ?_; rintro e w1 ⟨rfl, hb1⟩; have K1 := Lib.hid (((K.out.set_ 0 (.int .u8 pb)).set_ 1 (.int .u8 pb)).keep hb1); have B1 := Lib.hid (((B.out.far (p := ⟨W0.heap.size, 0, none⟩) (Nat.ne_of_lt hbx) (.int .u8 pb)).far (p := ⟨W0.heap.size, 1, none⟩) (Nat.ne_of_lt hbx) (.int .u8 pb)).keep hb1); have hs1 := hb1.size; simp only [World.size_setCell] at hs1; have R1 := Lib.hid (((R.out.setCell (p := ⟨W0.heap.size, 0, none⟩) hn0 (.int .u8 pb)).setCell (p := ⟨W0.heap.size, 1, none⟩) hn0 (.int .u8 pb)).below (hb1.mono (by simp only [World.size_setCell]; omega))); have J1 := Lib.hid (HJ.out.more _ _ _ (HJ.out.set_ _ _ ⟨W0.heap.size, 1, none⟩ (.int .u8 pb) rfl (HJ.out.set_ _ _ ⟨W0.heap.size, 0, none⟩ (.int .u8 pb) rfl JJ.out)) hb1); have d2 : w1.cell? ⟨W0.heap.size, 2, none⟩ = some (.int .u8 pb) := K1.out.cell 2; have d3 : w1.cell? ⟨W0.heap.size, 3, none⟩ = some (.bool pc) := K1.out.cell 3; have d0 : w1.cell? ⟨W0.heap.size, 0, none⟩ = some (.int .u8 pb) := K1.out.cell 0; have d1 : w1.cell? ⟨W0.heap.size, 1, none⟩ = some (.int .u8 pb) := K1.out.cell 1; have e2 := K1.out.frozen 2; have e3 := K1.out.frozen 3; have K2 := Lib.hid (show Blk ((w1.setCell ⟨W0.heap.size, 2, none⟩ (.int .u8 q1)).setCell ⟨W0.heap.size, 3, none⟩ (.bool q2)) W0.heap.size 54 #[.int .u8 pb, .int .u8 pb, .int .u8 q1, .bool q2] from by have := (K1.out.set_ 2 (.int .u8 q1)).set_ 3 (.bool q2); simpa using this); have B2 := Lib.hid ((B1.out.far (p := ⟨W0.heap.size, 2, none⟩) (Nat.ne_of_lt hbx) (.int .u8 q1)).far (p := ⟨W0.heap.size, 3, none⟩) (Nat.ne_of_lt hbx) (.bool q2)); have R2 := Lib.hid ((R1.out.setCell (p := ⟨W0.heap.size, 2, none⟩) hn0 (.int .u8 q1)).setCell (p := ⟨W0.heap.size, 3, none⟩) hn0 (.bool q2)); have J2 := Lib.hid (HJ.out.set_ _ _ ⟨W0.heap.size, 3, none⟩ (.bool q2) rfl (HJ.out.set_ _ _ ⟨W0.heap.size, 2, none⟩ (.int .u8 q1) rfl J1.out))))
            refine ⟨fun _ h => (by cases h), ?_⟩
            gi_wp2
            go_roundw
            case rel => exact ⟨k + 1, by go_num, by omega, by rw [HN.out]; exact K2, B2, R2, by rw [HT.out]; exact J2⟩
            case measure => simp [intOf]; omega
          · have i2 : (0 : Int) < k := by omega
            have HX := Lib.hid (show ∀ W, J (yTo xs k) W → W0.heap.size < W.heap.size → YieldAt Fence.wide 8 Try.prog l #[.int .i64 k, .agg #[.int .u8 pb, .int .u8 pb, .int .u8 q1, .bool q2]] W fun e W' => (e = .returned (.bool true) ∧ J (yTo xs (k + 1)) W' ∧ Lies (SP n0 bx W0.heap.size) W W') ∨ (e = .returned (.bool false) ∧ Jx (yTo xs (k + 1)) W') from fun W hj hs => by
              have h := HY.out (yTo xs k) (pAt xs k) W (by rw [← yTo_succ xs k hk1]; exact yTo_pre xs (k + 1) (by rw [HL.out]; omega)) hs hj
              rw [← yTo_succ xs k hk1] at h
              simp only [pAt, encP, HN.out] at h
              exact h)
            gi_wp2_with ((refine ⟨trivial, ?_⟩; gi_at_call 60; refine (callsIn_wide.2 (HC.out _)).mono ?_; rintro e w1 ⟨rfl, hb1⟩; have K1 := Lib.hid (((K.out.set_ 0 (.int .u8 pb)).set_ 1 (.int .u8 pb)).keep hb1); have B1 := Lib.hid (((B.out.far (p := ⟨W0.heap.size, 0, none⟩) (Nat.ne_of_lt hbx) (.int .u8 pb)).far (p := ⟨W0.heap.size, 1, none⟩) (Nat.ne_of_lt hbx) (.int .u8 pb)).keep hb1); have hs1 := hb1.size; simp only [World.size_setCell] at hs1; have R1 := Lib.hid (((R.out.setCell (p := ⟨W0.heap.size, 0, none⟩) hn0 (.int .u8 pb)).setCell (p := ⟨W0.heap.size, 1, none⟩) hn0 (.int .u8 pb)).below (hb1.mono (by simp only [World.size_setCell]; omega))); have J1 := Lib.hid (HJ.out.more _ _ _ (HJ.out.set_ _ _ ⟨W0.heap.size, 1, none⟩ (.int .u8 pb) rfl (HJ.out.set_ _ _ ⟨W0.heap.size, 0, none⟩ (.int .u8 pb) rfl JJ.out)) hb1); have d2 : w1.cell? ⟨W0.heap.size, 2, none⟩ = some (.int .u8 pb) := K1.out.cell 2; have d3 : w1.cell? ⟨W0.heap.size, 3, none⟩ = some (.bool pc) := K1.out.cell 3; have d0 : w1.cell? ⟨W0.heap.size, 0, none⟩ = some (.int .u8 pb) := K1.out.cell 0; have d1 : w1.cell? ⟨W0.heap.size, 1, none⟩ = some (.int .u8 pb) := K1.out.cell 1; have e2 := K1.out.frozen 2; have e3 := K1.out.frozen 3; have K2 := Lib.hid (show Blk ((w1.setCell ⟨W0.heap.size, 2, none⟩ (.int .u8 q1)).setCell ⟨W0.heap.size, 3, none⟩ (.bool q2)) W0.heap.size 54 #[.int .u8 pb, .int .u8 pb, .int .u8 q1, .bool q2] from by have := (K1.out.set_ 2 (.int .u8 q1)).set_ 3 (.bool q2); simpa using this); have B2 := Lib.hid ((B1.out.far (p := ⟨W0.heap.size, 2, none⟩) (Nat.ne_of_lt hbx) (.int .u8 q1)).far (p := ⟨W0.heap.size, 3, none⟩) (Nat.ne_of_lt hbx) (.bool q2)); have R2 := Lib.hid ((R1.out.setCell (p := ⟨W0.heap.size, 2, none⟩) hn0 (.int .u8 q1)).setCell (p := ⟨W0.heap.size, 3, none⟩) hn0 (.bool q2)); have J2 := Lib.hid (HJ.out.set_ _ _ ⟨W0.heap.size, 3, none⟩ (.bool q2) rfl (HJ.out.set_ _ _ ⟨W0.heap.size, 2, none⟩ (.int .u8 q1) rfl J1.out)); have l2 := K2.out.lt; obtain ⟨fn, tmps, assign, body, hy, hR⟩ := HX.out _ J2.out l2))
            refine hR.mono ?_
            rintro e W3 (⟨rfl, hJ3, hk3⟩ | ⟨rfl, hJx3⟩)
            · have K3 := Lib.hid (K2.out.lies hk3 (.inr (.inr rfl)))
              have B3 := Lib.hid (B2.out.lies hk3 (.inr (.inl rfl)))
              have R3 := Lib.hid (R2.out.keep (fun p hp => World.cell?_of_block (hk3.same p.block (.inl hp) (by simp only [World.size_setCell]; omega))))
              have J3 := Lib.hid hJ3
              clear hJ3 hk3
              gi_wp2
              go_roundw
              case rel => exact ⟨k + 1, by go_num, by omega, by rw [HN.out]; exact K3, B3, R3, J3⟩
              case measure => simp [intOf]; omega
            · have P3 := Lib.hid (yTo_pre xs (k + 1) (by rw [HL.out]; omega))
              have J3 := Lib.hid hJx3
              clear hJx3
              gi_wp2
              refine bodyPost_ret (results_none rfl _ _ _) rfl ?_
              exact ⟨⟨_, rfl⟩, .inr ⟨yTo xs (k + 1), P3.out, J3.out⟩⟩
    · obtain rfl : k = n := by omega
      have J3 := Lib.hid (show J (yL xs) wr by rw [yL, HL.out]; exact JJ.out)
      gi_wp2
      go_end0
      exact ⟨⟨_, rfl⟩, .inl J3.out⟩
end Go.Proofs.Ytlobedonclimbaa.Pair

/- Chapter 2: what the program's table tells of second bytes; how long a wrong subpart is; walked. -/
import Derived.Test.YtbafdijklcoeoaaDoorUtfS
namespace Go.Proofs.YtbafdijklcoeoaaDoor.Utf
open Go.RowKit
set_option linter.unusedVariables false
set_option linter.unusedSimpArgs false

def secT : List Int := [224, 160, 191, 237, 128, 159, 240, 144, 191, 244, 128, 143]
/-- The three tables lie as they were laid. -/
structure Tabs (w : World) : Prop where
  u8 : Lib.Utf8Tabs 0 1 w
  sec : ∀ i, i < 12 → w.cell? ⟨2, i, none⟩ = some (.int .u8 (secT.getD i 0))
theorem Tabs.below {w w' : World} (h : Tabs w) (hb : Below w.heap.size w w') : Tabs w' :=
  ⟨Utf8Tabs_below h.u8 hb, fun i hi => (hb.cell (by
    rcases Nat.lt_or_ge 2 w.heap.size with h' | h'
    · exact h'
    · have := h.sec i hi
      simp [World.cell?, Array.getElem?_eq_none h'] at this)).trans (h.sec i hi)⟩
set_option maxHeartbeats 4000000 in
set_option maxRecDepth 20000 in
theorem second_any (f : Int) (w : World) (hf : 0 ≤ f ∧ f ≤ 255) (hT : Tabs w) :
    Calls Tryd.prog 34 #[.int .u8 f] w fun e w' => e = .returned (.tuple #[.int .u8 (lo2 f), .int .u8 (hi2 f)]) ∧ Below w.heap.size w w' := by
  have c0 := hT.sec 0 (by decide)
  have c1 := hT.sec 1 (by decide)
  have c2 := hT.sec 2 (by decide)
  have c3 := hT.sec 3 (by decide)
  have c4 := hT.sec 4 (by decide)
  have c5 := hT.sec 5 (by decide)
  have c6 := hT.sec 6 (by decide)
  have c7 := hT.sec 7 (by decide)
  have c8 := hT.sec 8 (by decide)
  have c9 := hT.sec 9 (by decide)
  have c10 := hT.sec 10 (by decide)
  have c11 := hT.sec 11 (by decide)
  simp only [secT, List.getD_cons_zero, List.getD_cons_succ] at c0 c1 c2 c3 c4 c5 c6 c7 c8 c9 c10 c11
  clear hT
  go_enter Tryd.func34, Tryd.ntmps34
  go_wp2_with (fail)
  have I0 : ∀ W, (Instr.index 69 (.agg #[.int .u8 224, .int .u8 160, .int .u8 191, .int .u8 237, .int .u8 128, .int .u8 159, .int .u8 240, .int .u8 144, .int .u8 191, .int .u8 244, .int .u8 128, .int .u8 143]) (.int .i64 0)).run Tryd.prog W = .ok (.agg #[.int .u8 224, .int .u8 160, .int .u8 191]) W := fun W => by kernel_rfl
  have I1 : ∀ W, (Instr.index 69 (.agg #[.int .u8 224, .int .u8 160, .int .u8 191, .int .u8 237, .int .u8 128, .int .u8 159, .int .u8 240, .int .u8 144, .int .u8 191, .int .u8 244, .int .u8 128, .int .u8 143]) (.int .i64 1)).run Tryd.prog W = .ok (.agg #[.int .u8 237, .int .u8 128, .int .u8 159]) W := fun W => by kernel_rfl
  have I2 : ∀ W, (Instr.index 69 (.agg #[.int .u8 224, .int .u8 160, .int .u8 191, .int .u8 237, .int .u8 128, .int .u8 159, .int .u8 240, .int .u8 144, .int .u8 191, .int .u8 244, .int .u8 128, .int .u8 143]) (.int .i64 2)).run Tryd.prog W = .ok (.agg #[.int .u8 240, .int .u8 144, .int .u8 191]) W := fun W => by kernel_rfl
  have I3 : ∀ W, (Instr.index 69 (.agg #[.int .u8 224, .int .u8 160, .int .u8 191, .int .u8 237, .int .u8 128, .int .u8 159, .int .u8 240, .int .u8 144, .int .u8 191, .int .u8 244, .int .u8 128, .int .u8 143]) (.int .i64 3)).run Tryd.prog W = .ok (.agg #[.int .u8 244, .int .u8 128, .int .u8 143]) W := fun W => by kernel_rfl
  have Z0 := Lib.hid hf
  clear hf
  go_loopw [5, 7] (fun p k wr => ∃ j : Nat, k = .int .i64 j ∧ ((j = 0) ∨ (j = 1 ∧ f ≠ 224) ∨ (j = 2 ∧ f ≠ 224 ∧ f ≠ 237) ∨ (j = 3 ∧ f ≠ 224 ∧ f ≠ 237 ∧ f ≠ 240) ∨ (j = 4 ∧ f ≠ 224 ∧ f ≠ 237 ∧ f ≠ 240 ∧ f ≠ 244)) ∧ Hid (Below w.heap.size w wr)) (fun _ k _ => 4 - (intOf k).toNat)
  case atStart => exact ⟨0, rfl, .inl rfl, Lib.hid (Below.refl _ _)⟩
  case round =>
    obtain ⟨j, rfl, hj, HB⟩ := hrel
    rcases hj with rfl | ⟨rfl, n0⟩ | ⟨rfl, n0, n1⟩ | ⟨rfl, n0, n1, n2⟩ | ⟨rfl, n0, n1, n2, n3⟩
    · have HB2 := Lib.hid (bel_trans HB.out (bel_alloc (Below.refl wr.heap.size wr) (.cells #[.int .u8 224, .int .u8 160, .int .u8 191] 68)))
      by_cases g : f = 224
      · have q : ((224 : Int) == f) = true := by subst g; rfl
        have e1 : lo2 f = 160 := by subst g; decide
        have e2 : hi2 f = 191 := by subst g; decide
        clear g
        go_upto_region 5 with fail
        go_quiet (fail)
        go_wp2
        go_ret2
        exact ⟨by rw [e1, e2]; rfl, bel_drewN HB2.out _⟩
      · have q : ((224 : Int) == f) = false := by simp; omega
        go_wp2_with (fail)
        go_roundw
        case rel => exact ⟨1, by go_num, by omega, HB2⟩
        case measure => simp [intOf]
    · have HB2 := Lib.hid (bel_trans HB.out (bel_alloc (Below.refl wr.heap.size wr) (.cells #[.int .u8 237, .int .u8 128, .int .u8 159] 68)))
      by_cases g : f = 237
      · have q : ((237 : Int) == f) = true := by subst g; rfl
        have e1 : lo2 f = 128 := by subst g; decide
        have e2 : hi2 f = 159 := by subst g; decide
        clear g
        go_upto_region 5 with fail
        go_quiet (fail)
        go_wp2
        go_ret2
        exact ⟨by rw [e1, e2]; rfl, bel_drewN HB2.out _⟩
      · have q : ((237 : Int) == f) = false := by simp; omega
        go_wp2_with (fail)
        go_roundw
        case rel => exact ⟨2, by go_num, by omega, HB2⟩
        case measure => simp [intOf]
    · have HB2 := Lib.hid (bel_trans HB.out (bel_alloc (Below.refl wr.heap.size wr) (.cells #[.int .u8 240, .int .u8 144, .int .u8 191] 68)))
      by_cases g : f = 240
      · have q : ((240 : Int) == f) = true := by subst g; rfl
        have e1 : lo2 f = 144 := by subst g; decide
        have e2 : hi2 f = 191 := by subst g; decide
        clear g
        go_upto_region 5 with fail
        go_quiet (fail)
        go_wp2
        go_ret2
        exact ⟨by rw [e1, e2]; rfl, bel_drewN HB2.out _⟩
      · have q : ((240 : Int) == f) = false := by simp; omega
        go_wp2_with (fail)
        go_roundw
        case rel => exact ⟨3, by go_num, by omega, HB2⟩
        case measure => simp [intOf]
    · have HB2 := Lib.hid (bel_trans HB.out (bel_alloc (Below.refl wr.heap.size wr) (.cells #[.int .u8 244, .int .u8 128, .int .u8 143] 68)))
      by_cases g : f = 244
      · have q : ((244 : Int) == f) = true := by subst g; rfl
        have e1 : lo2 f = 128 := by subst g; decide
        have e2 : hi2 f = 143 := by subst g; decide
        clear g
        go_upto_region 5 with fail
        go_quiet (fail)
        go_wp2
        go_ret2
        exact ⟨by rw [e1, e2]; rfl, bel_drewN HB2.out _⟩
      · have q : ((244 : Int) == f) = false := by simp; omega
        go_wp2_with (fail)
        go_roundw
        case rel => exact ⟨4, by go_num, by omega, HB2⟩
        case measure => simp [intOf]
    · have e1 : lo2 f = 128 := by have := lo_cases f; omega
      have e2 : hi2 f = 191 := by have := hi_cases f; omega
      go_wp2_with (fail)
      go_ret2
      exact ⟨by rw [e1, e2]; rfl, HB.out⟩

theorem begGo_ge (n : Nat) (l : List UInt8) : ∀ f k, k ≤ begGo n l f k
  | 0, k => Nat.le_refl _
  | f + 1, k => by
    unfold begGo
    split
    · have := begGo_ge n l f (k + 1); omega
    · exact Nat.le_refl _
/-- How many bytes the wrong subpart has. -/
def wrongN (l : List UInt8) : Nat := max (begN l) 1
set_option maxHeartbeats 4000000 in
set_option maxRecDepth 20000 in
theorem wrong_loop (l : List UInt8) (w : World) (h0 : l ≠ []) (hl : l.length ≤ 1000000000000) (hT : Tabs w) (need : Nat)
    (hneed : (194 ≤ at_ l 0 ∧ at_ l 0 ≤ 223 ∧ need = 2) ∨ (224 ≤ at_ l 0 ∧ at_ l 0 ≤ 239 ∧ need = 3) ∨ (240 ≤ at_ l 0 ∧ at_ l 0 ≤ 244 ∧ need = 4) ∨ (at_ l 0 < 194 ∧ need = 0) ∨ (244 < at_ l 0 ∧ need = 0)) :
    Calls Tryd.prog 28 #[.string ⟨l.toArray⟩] w fun e w' => e = .returned (.int .i64 ((wrongN l : Nat) : Int)) ∧ Below w.heap.size w w' := by
  have gl : (⟨l.toArray⟩ : ByteArray).size = l.length := rfl
  obtain ⟨x0, hx0⟩ : ∃ x, l[0]? = some x := ⟨_, List.getElem?_eq_getElem (List.length_pos_iff.2 h0)⟩
  have I0 := str_get l 0 x0 hx0
  have b0 : (0 : Int) < (l.length : Int) := by have := List.length_pos_iff.2 h0; omega
  have b0' : 0 < l.length := List.length_pos_iff.2 h0
  have bl : (l.length : Int) ≤ 1000000000000 := by omega
  have HA := Lib.hid (at_some hx0)
  have x0l := UInt8.toNat_lt x0
  have HS := Lib.hid (fun (W : World) (hb : Below w.heap.size w W) => second_any (x0.toNat : Int) W ⟨by omega, by omega⟩ (hT.below hb))
  have HW : Hid (need = 0 ∧ wrongN l = 1 ∨ 0 < need ∧ need ≤ 4 ∧ wrongN l = begGo need l 4 1) := Lib.hid (by
    have hn := longN_eq (at_ l 0)
    have := at_lt l 0
    rcases hneed with ⟨a, b, c⟩ | ⟨a, b, c⟩ | ⟨a, b, c⟩ | ⟨a, c⟩ | ⟨a, c⟩
    all_goals subst c
    · right
      rw [if_neg (by omega), if_pos (by omega)] at hn
      refine ⟨by omega, by omega, ?_⟩
      unfold wrongN begN
      rw [hn]
      have := begGo_ge 2 l 4 1
      rw [show begGo 2 l 5 0 = begGo 2 l 4 1 by rw [begGo, if_pos ⟨by omega, b0', .inl rfl⟩]]
      omega
    · right
      rw [if_neg (by omega), if_neg (by omega), if_pos (by omega)] at hn
      refine ⟨by omega, by omega, ?_⟩
      unfold wrongN begN
      rw [hn]
      have := begGo_ge 3 l 4 1
      rw [show begGo 3 l 5 0 = begGo 3 l 4 1 by rw [begGo, if_pos ⟨by omega, b0', .inl rfl⟩]]
      omega
    · right
      rw [if_neg (by omega), if_neg (by omega), if_neg (by omega), if_pos (by omega)] at hn
      refine ⟨by omega, by omega, ?_⟩
      unfold wrongN begN
      rw [hn]
      have := begGo_ge 4 l 4 1
      rw [show begGo 4 l 5 0 = begGo 4 l 4 1 by rw [begGo, if_pos ⟨by omega, b0', .inl rfl⟩]]
      omega
    · left
      refine ⟨rfl, ?_⟩
      have hb := begN_eq l h0
      unfold wrongN
      by_cases h : at_ l 0 ≤ 127
      · rw [if_pos (by omega)] at hn
        rw [hn, if_neg (by omega), if_pos (by omega)] at hb
        omega
      · rw [if_neg (by omega), if_neg (by omega), if_neg (by omega), if_neg (by omega)] at hn
        rw [hn, if_pos rfl] at hb
        omega
    · left
      refine ⟨rfl, ?_⟩
      have hb := begN_eq l h0
      unfold wrongN
      rw [if_neg (by omega), if_neg (by omega), if_neg (by omega), if_neg (by omega)] at hn
      rw [hn, if_pos rfl] at hb
      omega)
  rw [HA.out] at hneed
  have hneed4 : (need : Int) ≤ 4 := by omega
  have q2 : (decide (194 ≤ (x0.toNat : Int)) = true ∧ decide ((x0.toNat : Int) ≤ 223) = true ∧ need = 2) ∨
      ((decide (194 ≤ (x0.toNat : Int)) = true ∧ decide ((x0.toNat : Int) ≤ 223) = false) ∧ decide (224 ≤ (x0.toNat : Int)) = true ∧ decide ((x0.toNat : Int) ≤ 239) = true ∧ need = 3) ∨
      ((decide (194 ≤ (x0.toNat : Int)) = true ∧ decide ((x0.toNat : Int) ≤ 223) = false) ∧ (decide (224 ≤ (x0.toNat : Int)) = true ∧ decide ((x0.toNat : Int) ≤ 239) = false) ∧ decide (240 ≤ (x0.toNat : Int)) = true ∧ decide ((x0.toNat : Int) ≤ 244) = true ∧ need = 4) ∨
      (decide (194 ≤ (x0.toNat : Int)) = false ∧ decide (224 ≤ (x0.toNat : Int)) = false ∧ decide (240 ≤ (x0.toNat : Int)) = false ∧ need = 0) ∨
      ((decide (194 ≤ (x0.toNat : Int)) = true ∧ decide ((x0.toNat : Int) ≤ 223) = false) ∧ (decide (224 ≤ (x0.toNat : Int)) = true ∧ decide ((x0.toNat : Int) ≤ 239) = false) ∧ (decide (240 ≤ (x0.toNat : Int)) = true ∧ decide ((x0.toNat : Int) ≤ 244) = false) ∧ need = 0) := by
    simp only [decide_eq_true_eq, decide_eq_false_iff_not]
    omega
  clear hneed hx0 h0 hl hT x0l
  rcases q2 with ⟨r1, r2, rfl⟩ | ⟨⟨r1, r2⟩, r3, r4, rfl⟩ | ⟨⟨r1, r2⟩, ⟨r3, r4⟩, r5, r6, rfl⟩ | ⟨r1, r3, r5, rfl⟩ | ⟨⟨r1, r2⟩, ⟨r3, r4⟩, ⟨r5, r6⟩, rfl⟩
  · clear hneed4
    go_enter Tryd.func28, Tryd.ntmps28
    go_wp2_with (go_at_call 34; (with_reducible refine (HS.out _ (Below.refl _ _)).mono ?_); rintro e w1 ⟨rfl, hb1⟩; have HB1 := Lib.hid hb1; clear hb1)
    go_loopw [5, 6, 7] (fun k a b wr => ∃ (j : Nat) (av bv : Int), k = .int .i64 j ∧ a = .int .u8 av ∧ b = .int .u8 bv ∧ 1 ≤ j ∧ j ≤ 4 ∧ Hid (∀ c, mayN (at_ l 0) j c = true ↔ av ≤ c ∧ c ≤ bv) ∧ Hid (2 = 0 ∧ j = 1 ∧ wrongN l = 1 ∨ 0 < 2 ∧ begGo 2 l (5 - j) j = wrongN l) ∧ Hid (Below w.heap.size w wr)) (fun k _ _ _ => 4 - (intOf k).toNat)
    case atStart => exact ⟨1, _, _, rfl, rfl, rfl, by omega, by omega, Lib.hid (fun c => by rw [HA.out]; exact may1 _ c), Lib.hid (by have h := HW.out; rw [show 5 - 1 = 4 from rfl]; omega), HB1⟩
    case round =>
      obtain ⟨j, av, bv, rfl, rfl, rfl, hj, hj4, HM, HG, HB⟩ := hrel
      have j0 : (0 : Int) ≤ (j : Int) := by omega
      have HJ := Lib.hid hj
      by_cases g1 : j < 2
      · have q1 : decide ((j : Int) < 2) = true := decide_eq_true (by omega)
        obtain ⟨f, hf⟩ : ∃ f, 5 - j = f + 1 := ⟨4 - j, by omega⟩
        have HS2 := Lib.hid (show (if j < 2 ∧ j < l.length ∧ (j = 0 ∨ mayN (at_ l 0) j (at_ l j) = true) then begGo 2 l f (j + 1) else j) = wrongN l by
          have := HG.out
          rw [hf] at this
          rcases this with h | h
          · omega
          · exact h.2)
        have HF := Lib.hid hf
        clear hf
        by_cases g2 : j < l.length
        · have q2 : decide ((j : Int) < (l.length : Int)) = true := decide_eq_true (by omega)
          obtain ⟨x, hx⟩ : ∃ x, l[j]? = some x := ⟨_, List.getElem?_eq_getElem g2⟩
          have IJ := str_get l j x hx
          have HAJ := Lib.hid (at_some hx)
          have k2 : (j : Int) < (l.length : Int) := by omega
          clear hx
          by_cases g3 : av ≤ (x.toNat : Int)
          · have q3 : decide (av ≤ (x.toNat : Int)) = true := decide_eq_true g3
            by_cases g4 : (x.toNat : Int) ≤ bv
            · have q4 : decide ((x.toNat : Int) ≤ bv) = true := decide_eq_true g4
              have HE := Lib.hid (show begGo 2 l f (j + 1) = wrongN l by have := HS2.out; rwa [if_pos ⟨g1, g2, .inr (by rw [HM.out, HAJ.out]; exact ⟨g3, g4⟩)⟩] at this)
              have j4 : (j : Int) < 4 := by omega
              clear g3 g4
              go_wp2_with (fail)
              go_roundw
              case rel => exact ⟨j + 1, 128, 191, by go_num, rfl, rfl, by omega, by omega, Lib.hid (fun c => may2 _ _ c (by have := HJ.out; omega)), Lib.hid (.inr ⟨by omega, by rw [show 5 - (j + 1) = f by have := HF.out; omega]; exact HE.out⟩), HB⟩
              case measure => simp [intOf]; omega
            · have q4 : decide ((x.toNat : Int) ≤ bv) = false := decide_eq_false g4
              have HE := Lib.hid (show j = wrongN l by have := HS2.out; rwa [if_neg (fun h => by rcases h.2.2 with h | h; omega; rw [HM.out, HAJ.out] at h; exact g4 h.2)] at this)
              clear g3 g4
              go_wp2_with (fail)
              go_ret
              exact ⟨by rw [← HE.out]; rfl, HB.out⟩
          · have q3 : decide (av ≤ (x.toNat : Int)) = false := decide_eq_false g3
            have HE := Lib.hid (show j = wrongN l by have := HS2.out; rwa [if_neg (fun h => by rcases h.2.2 with h | h; omega; rw [HM.out, HAJ.out] at h; exact g3 h.1)] at this)
            clear g3
            go_wp2_with (fail)
            go_ret
            exact ⟨by rw [← HE.out]; rfl, HB.out⟩
        · have q2 : decide ((j : Int) < (l.length : Int)) = false := decide_eq_false (by omega)
          have HE := Lib.hid (show j = wrongN l by have := HS2.out; rwa [if_neg (fun h => g2 h.2.1)] at this)
          go_wp2_with (fail)
          go_ret
          exact ⟨by rw [← HE.out]; rfl, HB.out⟩
      · have q1 : decide ((j : Int) < 2) = false := decide_eq_false (by omega)
        have HE := Lib.hid (show j = wrongN l by
          rcases HG.out with h | ⟨h, h2⟩
          · omega
          · rw [← h2]
            cases 5 - j with
            | zero => rfl
            | succ f => rw [begGo, if_neg (fun h => g1 h.1)])
        go_wp2_with (fail)
        go_ret
        exact ⟨by rw [← HE.out]; rfl, HB.out⟩
  · clear hneed4
    go_enter Tryd.func28, Tryd.ntmps28
    go_wp2_with (go_at_call 34; (with_reducible refine (HS.out _ (Below.refl _ _)).mono ?_); rintro e w1 ⟨rfl, hb1⟩; have HB1 := Lib.hid hb1; clear hb1)
    go_loopw [5, 6, 7] (fun k a b wr => ∃ (j : Nat) (av bv : Int), k = .int .i64 j ∧ a = .int .u8 av ∧ b = .int .u8 bv ∧ 1 ≤ j ∧ j ≤ 4 ∧ Hid (∀ c, mayN (at_ l 0) j c = true ↔ av ≤ c ∧ c ≤ bv) ∧ Hid (3 = 0 ∧ j = 1 ∧ wrongN l = 1 ∨ 0 < 3 ∧ begGo 3 l (5 - j) j = wrongN l) ∧ Hid (Below w.heap.size w wr)) (fun k _ _ _ => 4 - (intOf k).toNat)
    case atStart => exact ⟨1, _, _, rfl, rfl, rfl, by omega, by omega, Lib.hid (fun c => by rw [HA.out]; exact may1 _ c), Lib.hid (by have h := HW.out; rw [show 5 - 1 = 4 from rfl]; omega), HB1⟩
    case round =>
      obtain ⟨j, av, bv, rfl, rfl, rfl, hj, hj4, HM, HG, HB⟩ := hrel
      have j0 : (0 : Int) ≤ (j : Int) := by omega
      have HJ := Lib.hid hj
      by_cases g1 : j < 3
      · have q1 : decide ((j : Int) < 3) = true := decide_eq_true (by omega)
        obtain ⟨f, hf⟩ : ∃ f, 5 - j = f + 1 := ⟨4 - j, by omega⟩
        have HS2 := Lib.hid (show (if j < 3 ∧ j < l.length ∧ (j = 0 ∨ mayN (at_ l 0) j (at_ l j) = true) then begGo 3 l f (j + 1) else j) = wrongN l by
          have := HG.out
          rw [hf] at this
          rcases this with h | h
          · omega
          · exact h.2)
        have HF := Lib.hid hf
        clear hf
        by_cases g2 : j < l.length
        · have q2 : decide ((j : Int) < (l.length : Int)) = true := decide_eq_true (by omega)
          obtain ⟨x, hx⟩ : ∃ x, l[j]? = some x := ⟨_, List.getElem?_eq_getElem g2⟩
          have IJ := str_get l j x hx
          have HAJ := Lib.hid (at_some hx)
          have k2 : (j : Int) < (l.length : Int) := by omega
          clear hx
          by_cases g3 : av ≤ (x.toNat : Int)
          · have q3 : decide (av ≤ (x.toNat : Int)) = true := decide_eq_true g3
            by_cases g4 : (x.toNat : Int) ≤ bv
            · have q4 : decide ((x.toNat : Int) ≤ bv) = true := decide_eq_true g4
              have HE := Lib.hid (show begGo 3 l f (j + 1) = wrongN l by have := HS2.out; rwa [if_pos ⟨g1, g2, .inr (by rw [HM.out, HAJ.out]; exact ⟨g3, g4⟩)⟩] at this)
              have j4 : (j : Int) < 4 := by omega
              clear g3 g4
              go_wp2_with (fail)
              go_roundw
              case rel => exact ⟨j + 1, 128, 191, by go_num, rfl, rfl, by omega, by omega, Lib.hid (fun c => may2 _ _ c (by have := HJ.out; omega)), Lib.hid (.inr ⟨by omega, by rw [show 5 - (j + 1) = f by have := HF.out; omega]; exact HE.out⟩), HB⟩
              case measure => simp [intOf]; omega
            · have q4 : decide ((x.toNat : Int) ≤ bv) = false := decide_eq_false g4
              have HE := Lib.hid (show j = wrongN l by have := HS2.out; rwa [if_neg (fun h => by rcases h.2.2 with h | h; omega; rw [HM.out, HAJ.out] at h; exact g4 h.2)] at this)
              clear g3 g4
              go_wp2_with (fail)
              go_ret
              exact ⟨by rw [← HE.out]; rfl, HB.out⟩
          · have q3 : decide (av ≤ (x.toNat : Int)) = false := decide_eq_false g3
            have HE := Lib.hid (show j = wrongN l by have := HS2.out; rwa [if_neg (fun h => by rcases h.2.2 with h | h; omega; rw [HM.out, HAJ.out] at h; exact g3 h.1)] at this)
            clear g3
            go_wp2_with (fail)
            go_ret
            exact ⟨by rw [← HE.out]; rfl, HB.out⟩
        · have q2 : decide ((j : Int) < (l.length : Int)) = false := decide_eq_false (by omega)
          have HE := Lib.hid (show j = wrongN l by have := HS2.out; rwa [if_neg (fun h => g2 h.2.1)] at this)
          go_wp2_with (fail)
          go_ret
          exact ⟨by rw [← HE.out]; rfl, HB.out⟩
      · have q1 : decide ((j : Int) < 3) = false := decide_eq_false (by omega)
        have HE := Lib.hid (show j = wrongN l by
          rcases HG.out with h | ⟨h, h2⟩
          · omega
          · rw [← h2]
            cases 5 - j with
            | zero => rfl
            | succ f => rw [begGo, if_neg (fun h => g1 h.1)])
        go_wp2_with (fail)
        go_ret
        exact ⟨by rw [← HE.out]; rfl, HB.out⟩
  · clear hneed4
    go_enter Tryd.func28, Tryd.ntmps28
    go_wp2_with (go_at_call 34; (with_reducible refine (HS.out _ (Below.refl _ _)).mono ?_); rintro e w1 ⟨rfl, hb1⟩; have HB1 := Lib.hid hb1; clear hb1)
    go_loopw [5, 6, 7] (fun k a b wr => ∃ (j : Nat) (av bv : Int), k = .int .i64 j ∧ a = .int .u8 av ∧ b = .int .u8 bv ∧ 1 ≤ j ∧ j ≤ 4 ∧ Hid (∀ c, mayN (at_ l 0) j c = true ↔ av ≤ c ∧ c ≤ bv) ∧ Hid (4 = 0 ∧ j = 1 ∧ wrongN l = 1 ∨ 0 < 4 ∧ begGo 4 l (5 - j) j = wrongN l) ∧ Hid (Below w.heap.size w wr)) (fun k _ _ _ => 4 - (intOf k).toNat)
    case atStart => exact ⟨1, _, _, rfl, rfl, rfl, by omega, by omega, Lib.hid (fun c => by rw [HA.out]; exact may1 _ c), Lib.hid (by have h := HW.out; rw [show 5 - 1 = 4 from rfl]; omega), HB1⟩
    case round =>
      obtain ⟨j, av, bv, rfl, rfl, rfl, hj, hj4, HM, HG, HB⟩ := hrel
      have j0 : (0 : Int) ≤ (j : Int) := by omega
      have HJ := Lib.hid hj
      by_cases g1 : j < 4
      · have q1 : decide ((j : Int) < 4) = true := decide_eq_true (by omega)
        obtain ⟨f, hf⟩ : ∃ f, 5 - j = f + 1 := ⟨4 - j, by omega⟩
        have HS2 := Lib.hid (show (if j < 4 ∧ j < l.length ∧ (j = 0 ∨ mayN (at_ l 0) j (at_ l j) = true) then begGo 4 l f (j + 1) else j) = wrongN l by
          have := HG.out
          rw [hf] at this
          rcases this with h | h
          · omega
          · exact h.2)
        have HF := Lib.hid hf
        clear hf
        by_cases g2 : j < l.length
        · have q2 : decide ((j : Int) < (l.length : Int)) = true := decide_eq_true (by omega)
          obtain ⟨x, hx⟩ : ∃ x, l[j]? = some x := ⟨_, List.getElem?_eq_getElem g2⟩
          have IJ := str_get l j x hx
          have HAJ := Lib.hid (at_some hx)
          have k2 : (j : Int) < (l.length : Int) := by omega
          clear hx
          by_cases g3 : av ≤ (x.toNat : Int)
          · have q3 : decide (av ≤ (x.toNat : Int)) = true := decide_eq_true g3
            by_cases g4 : (x.toNat : Int) ≤ bv
            · have q4 : decide ((x.toNat : Int) ≤ bv) = true := decide_eq_true g4
              have HE := Lib.hid (show begGo 4 l f (j + 1) = wrongN l by have := HS2.out; rwa [if_pos ⟨g1, g2, .inr (by rw [HM.out, HAJ.out]; exact ⟨g3, g4⟩)⟩] at this)
              have j4 : (j : Int) < 4 := by omega
              clear g3 g4
              go_wp2_with (fail)
              go_roundw
              case rel => exact ⟨j + 1, 128, 191, by go_num, rfl, rfl, by omega, by omega, Lib.hid (fun c => may2 _ _ c (by have := HJ.out; omega)), Lib.hid (.inr ⟨by omega, by rw [show 5 - (j + 1) = f by have := HF.out; omega]; exact HE.out⟩), HB⟩
              case measure => simp [intOf]; omega
            · have q4 : decide ((x.toNat : Int) ≤ bv) = false := decide_eq_false g4
              have HE := Lib.hid (show j = wrongN l by have := HS2.out; rwa [if_neg (fun h => by rcases h.2.2 with h | h; omega; rw [HM.out, HAJ.out] at h; exact g4 h.2)] at this)
              clear g3 g4
              go_wp2_with (fail)
              go_ret
              exact ⟨by rw [← HE.out]; rfl, HB.out⟩
          · have q3 : decide (av ≤ (x.toNat : Int)) = false := decide_eq_false g3
            have HE := Lib.hid (show j = wrongN l by have := HS2.out; rwa [if_neg (fun h => by rcases h.2.2 with h | h; omega; rw [HM.out, HAJ.out] at h; exact g3 h.1)] at this)
            clear g3
            go_wp2_with (fail)
            go_ret
            exact ⟨by rw [← HE.out]; rfl, HB.out⟩
        · have q2 : decide ((j : Int) < (l.length : Int)) = false := decide_eq_false (by omega)
          have HE := Lib.hid (show j = wrongN l by have := HS2.out; rwa [if_neg (fun h => g2 h.2.1)] at this)
          go_wp2_with (fail)
          go_ret
          exact ⟨by rw [← HE.out]; rfl, HB.out⟩
      · have q1 : decide ((j : Int) < 4) = false := decide_eq_false (by omega)
        have HE := Lib.hid (show j = wrongN l by
          rcases HG.out with h | ⟨h, h2⟩
          · omega
          · rw [← h2]
            cases 5 - j with
            | zero => rfl
            | succ f => rw [begGo, if_neg (fun h => g1 h.1)])
        go_wp2_with (fail)
        go_ret
        exact ⟨by rw [← HE.out]; rfl, HB.out⟩
  · clear hneed4
    go_enter Tryd.func28, Tryd.ntmps28
    go_wp2_with (go_at_call 34; (with_reducible refine (HS.out _ (Below.refl _ _)).mono ?_); rintro e w1 ⟨rfl, hb1⟩; have HB1 := Lib.hid hb1; clear hb1)
    go_loopw [5, 6, 7] (fun k a b wr => ∃ (j : Nat) (av bv : Int), k = .int .i64 j ∧ a = .int .u8 av ∧ b = .int .u8 bv ∧ 1 ≤ j ∧ j ≤ 4 ∧ Hid (∀ c, mayN (at_ l 0) j c = true ↔ av ≤ c ∧ c ≤ bv) ∧ Hid (0 = 0 ∧ j = 1 ∧ wrongN l = 1 ∨ 0 < 0 ∧ begGo 0 l (5 - j) j = wrongN l) ∧ Hid (Below w.heap.size w wr)) (fun k _ _ _ => 4 - (intOf k).toNat)
    case atStart => exact ⟨1, _, _, rfl, rfl, rfl, by omega, by omega, Lib.hid (fun c => by rw [HA.out]; exact may1 _ c), Lib.hid (by have h := HW.out; rw [show 5 - 1 = 4 from rfl]; omega), HB1⟩
    case round =>
      obtain ⟨j, av, bv, rfl, rfl, rfl, hj, hj4, HM, HG, HB⟩ := hrel
      have j0 : (0 : Int) ≤ (j : Int) := by omega
      have HJ := Lib.hid hj
      by_cases g1 : j < 0
      · have q1 : decide ((j : Int) < 0) = true := decide_eq_true (by omega)
        obtain ⟨f, hf⟩ : ∃ f, 5 - j = f + 1 := ⟨4 - j, by omega⟩
        have HS2 := Lib.hid (show (if j < 0 ∧ j < l.length ∧ (j = 0 ∨ mayN (at_ l 0) j (at_ l j) = true) then begGo 0 l f (j + 1) else j) = wrongN l by
          have := HG.out
          rw [hf] at this
          rcases this with h | h
          · omega
          · exact h.2)
        have HF := Lib.hid hf
        clear hf
        by_cases g2 : j < l.length
        · have q2 : decide ((j : Int) < (l.length : Int)) = true := decide_eq_true (by omega)
          obtain ⟨x, hx⟩ : ∃ x, l[j]? = some x := ⟨_, List.getElem?_eq_getElem g2⟩
          have IJ := str_get l j x hx
          have HAJ := Lib.hid (at_some hx)
          have k2 : (j : Int) < (l.length : Int) := by omega
          clear hx
          by_cases g3 : av ≤ (x.toNat : Int)
          · have q3 : decide (av ≤ (x.toNat : Int)) = true := decide_eq_true g3
            by_cases g4 : (x.toNat : Int) ≤ bv
            · have q4 : decide ((x.toNat : Int) ≤ bv) = true := decide_eq_true g4
              have HE := Lib.hid (show begGo 0 l f (j + 1) = wrongN l by have := HS2.out; rwa [if_pos ⟨g1, g2, .inr (by rw [HM.out, HAJ.out]; exact ⟨g3, g4⟩)⟩] at this)
              have j4 : (j : Int) < 4 := by omega
              clear g3 g4
              go_wp2_with (fail)
              go_roundw
              case rel => exact ⟨j + 1, 128, 191, by go_num, rfl, rfl, by omega, by omega, Lib.hid (fun c => may2 _ _ c (by have := HJ.out; omega)), Lib.hid (.inr ⟨by omega, by rw [show 5 - (j + 1) = f by have := HF.out; omega]; exact HE.out⟩), HB⟩
              case measure => simp [intOf]; omega
            · have q4 : decide ((x.toNat : Int) ≤ bv) = false := decide_eq_false g4
              have HE := Lib.hid (show j = wrongN l by have := HS2.out; rwa [if_neg (fun h => by rcases h.2.2 with h | h; omega; rw [HM.out, HAJ.out] at h; exact g4 h.2)] at this)
              clear g3 g4
              go_wp2_with (fail)
              go_ret
              exact ⟨by rw [← HE.out]; rfl, HB.out⟩
          · have q3 : decide (av ≤ (x.toNat : Int)) = false := decide_eq_false g3
            have HE := Lib.hid (show j = wrongN l by have := HS2.out; rwa [if_neg (fun h => by rcases h.2.2 with h | h; omega; rw [HM.out, HAJ.out] at h; exact g3 h.1)] at this)
            clear g3
            go_wp2_with (fail)
            go_ret
            exact ⟨by rw [← HE.out]; rfl, HB.out⟩
        · have q2 : decide ((j : Int) < (l.length : Int)) = false := decide_eq_false (by omega)
          have HE := Lib.hid (show j = wrongN l by have := HS2.out; rwa [if_neg (fun h => g2 h.2.1)] at this)
          go_wp2_with (fail)
          go_ret
          exact ⟨by rw [← HE.out]; rfl, HB.out⟩
      · have q1 : decide ((j : Int) < 0) = false := decide_eq_false (by omega)
        have HE := Lib.hid (show j = wrongN l by
          rcases HG.out with h | ⟨h, h2⟩
          · omega
          · rw [← h2]
            cases 5 - j with
            | zero => rfl
            | succ f => rw [begGo, if_neg (fun h => g1 h.1)])
        go_wp2_with (fail)
        go_ret
        exact ⟨by rw [← HE.out]; rfl, HB.out⟩
  · clear hneed4
    go_enter Tryd.func28, Tryd.ntmps28
    go_wp2_with (go_at_call 34; (with_reducible refine (HS.out _ (Below.refl _ _)).mono ?_); rintro e w1 ⟨rfl, hb1⟩; have HB1 := Lib.hid hb1; clear hb1)
    go_loopw [5, 6, 7] (fun k a b wr => ∃ (j : Nat) (av bv : Int), k = .int .i64 j ∧ a = .int .u8 av ∧ b = .int .u8 bv ∧ 1 ≤ j ∧ j ≤ 4 ∧ Hid (∀ c, mayN (at_ l 0) j c = true ↔ av ≤ c ∧ c ≤ bv) ∧ Hid (0 = 0 ∧ j = 1 ∧ wrongN l = 1 ∨ 0 < 0 ∧ begGo 0 l (5 - j) j = wrongN l) ∧ Hid (Below w.heap.size w wr)) (fun k _ _ _ => 4 - (intOf k).toNat)
    case atStart => exact ⟨1, _, _, rfl, rfl, rfl, by omega, by omega, Lib.hid (fun c => by rw [HA.out]; exact may1 _ c), Lib.hid (by have h := HW.out; rw [show 5 - 1 = 4 from rfl]; omega), HB1⟩
    case round =>
      obtain ⟨j, av, bv, rfl, rfl, rfl, hj, hj4, HM, HG, HB⟩ := hrel
      have j0 : (0 : Int) ≤ (j : Int) := by omega
      have HJ := Lib.hid hj
      by_cases g1 : j < 0
      · have q1 : decide ((j : Int) < 0) = true := decide_eq_true (by omega)
        obtain ⟨f, hf⟩ : ∃ f, 5 - j = f + 1 := ⟨4 - j, by omega⟩
        have HS2 := Lib.hid (show (if j < 0 ∧ j < l.length ∧ (j = 0 ∨ mayN (at_ l 0) j (at_ l j) = true) then begGo 0 l f (j + 1) else j) = wrongN l by
          have := HG.out
          rw [hf] at this
          rcases this with h | h
          · omega
          · exact h.2)
        have HF := Lib.hid hf
        clear hf
        by_cases g2 : j < l.length
        · have q2 : decide ((j : Int) < (l.length : Int)) = true := decide_eq_true (by omega)
          obtain ⟨x, hx⟩ : ∃ x, l[j]? = some x := ⟨_, List.getElem?_eq_getElem g2⟩
          have IJ := str_get l j x hx
          have HAJ := Lib.hid (at_some hx)
          have k2 : (j : Int) < (l.length : Int) := by omega
          clear hx
          by_cases g3 : av ≤ (x.toNat : Int)
          · have q3 : decide (av ≤ (x.toNat : Int)) = true := decide_eq_true g3
            by_cases g4 : (x.toNat : Int) ≤ bv
            · have q4 : decide ((x.toNat : Int) ≤ bv) = true := decide_eq_true g4
              have HE := Lib.hid (show begGo 0 l f (j + 1) = wrongN l by have := HS2.out; rwa [if_pos ⟨g1, g2, .inr (by rw [HM.out, HAJ.out]; exact ⟨g3, g4⟩)⟩] at this)
              have j4 : (j : Int) < 4 := by omega
              clear g3 g4
              go_wp2_with (fail)
              go_roundw
              case rel => exact ⟨j + 1, 128, 191, by go_num, rfl, rfl, by omega, by omega, Lib.hid (fun c => may2 _ _ c (by have := HJ.out; omega)), Lib.hid (.inr ⟨by omega, by rw [show 5 - (j + 1) = f by have := HF.out; omega]; exact HE.out⟩), HB⟩
              case measure => simp [intOf]; omega
            · have q4 : decide ((x.toNat : Int) ≤ bv) = false := decide_eq_false g4
              have HE := Lib.hid (show j = wrongN l by have := HS2.out; rwa [if_neg (fun h => by rcases h.2.2 with h | h; omega; rw [HM.out, HAJ.out] at h; exact g4 h.2)] at this)
              clear g3 g4
              go_wp2_with (fail)
              go_ret
              exact ⟨by rw [← HE.out]; rfl, HB.out⟩
          · have q3 : decide (av ≤ (x.toNat : Int)) = false := decide_eq_false g3
            have HE := Lib.hid (show j = wrongN l by have := HS2.out; rwa [if_neg (fun h => by rcases h.2.2 with h | h; omega; rw [HM.out, HAJ.out] at h; exact g3 h.1)] at this)
            clear g3
            go_wp2_with (fail)
            go_ret
            exact ⟨by rw [← HE.out]; rfl, HB.out⟩
        · have q2 : decide ((j : Int) < (l.length : Int)) = false := decide_eq_false (by omega)
          have HE := Lib.hid (show j = wrongN l by have := HS2.out; rwa [if_neg (fun h => g2 h.2.1)] at this)
          go_wp2_with (fail)
          go_ret
          exact ⟨by rw [← HE.out]; rfl, HB.out⟩
      · have q1 : decide ((j : Int) < 0) = false := decide_eq_false (by omega)
        have HE := Lib.hid (show j = wrongN l by
          rcases HG.out with h | ⟨h, h2⟩
          · omega
          · rw [← h2]
            cases 5 - j with
            | zero => rfl
            | succ f => rw [begGo, if_neg (fun h => g1 h.1)])
        go_wp2_with (fail)
        go_ret
        exact ⟨by rw [← HE.out]; rfl, HB.out⟩
theorem wrong_any (l : List UInt8) (w : World) (h0 : l ≠ []) (hl : l.length ≤ 1000000000000) (hT : Tabs w) :
    Calls Tryd.prog 28 #[.string ⟨l.toArray⟩] w fun e w' => e = .returned (.int .i64 ((wrongN l : Nat) : Int)) ∧ Below w.heap.size w w' := by
  by_cases a : 194 ≤ at_ l 0 ∧ at_ l 0 ≤ 223
  · exact wrong_loop l w h0 hl hT 2 (by omega)
  · by_cases b : 224 ≤ at_ l 0 ∧ at_ l 0 ≤ 239
    · exact wrong_loop l w h0 hl hT 3 (by omega)
    · by_cases c : 240 ≤ at_ l 0 ∧ at_ l 0 ≤ 244
      · exact wrong_loop l w h0 hl hT 4 (by omega)
      · exact wrong_loop l w h0 hl hT 0 (by omega)
end Go.Proofs.YtbafdijklcoeoaaDoor.Utf

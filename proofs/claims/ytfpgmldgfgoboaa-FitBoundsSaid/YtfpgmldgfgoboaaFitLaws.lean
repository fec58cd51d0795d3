/- The laws of chapter 22 (fit), walked: each call returns true. No condition. -/
import Derived.Test.YtfpgmldgfgoboaaFit
namespace Go.Proofs.Ytfpgmldgfgoboaa.Fit
open Go.RowKit
attribute [local go_sem] max2_int min2_int max_two min_two
set_option linter.unusedVariables false

set_option maxHeartbeats 1000000 in
set_option maxRecDepth 100000 in
theorem head_any (w : World) : Calls Try.prog 18 #[] w fun e w' => e = .returned (.bool true) ∧ Below w.heap.size w w' := by
  go_enter Try.func18, Try.ntmps18
  go_wp2_with (first
    | (go_at_call 10; ((with_reducible refine (fit_any 10 40 25 (-1) 25 0 (by decide) (by decide) _).mono ?_); rintro e w1 ⟨rfl, hb1⟩))
    | (go_at_call 10; ((with_reducible refine (fit_any 10 40 5 (-1) 10 0 (by decide) (by decide) _).mono ?_); rintro e w2 ⟨rfl, hb2⟩))
    | (go_at_call 10; ((with_reducible refine (fit_any 10 40 99 (-1) 40 0 (by decide) (by decide) _).mono ?_); rintro e w3 ⟨rfl, hb3⟩))
    | (go_at_call 10; ((with_reducible refine (fit_any 10 40 25 7 7 0 (by decide) (by decide) _).mono ?_); rintro e w4 ⟨rfl, hb4⟩))
    | (go_at_call 12; ((with_reducible refine (outer_any 10 3 (-20) (-7) 0 (by decide) (by decide) _).mono ?_); rintro e w5 ⟨rfl, hb5⟩))
    | (go_at_call 14; ((with_reducible refine (inner_any 10 8 4 0 0 (by decide) (by decide) _).mono ?_); rintro e w6 ⟨rfl, hb6⟩))
    | (go_at_call 16; ((with_reducible refine (box_any 10 40 25 (-1) 3 4 18 25 0 (by decide) (by decide) (by decide) _).mono ?_); rintro e w7 ⟨rfl, hb7⟩))
    | (go_at_call 10; ((with_reducible refine (fit_any 5 4 9 (-1) 0 2 (by decide) (by decide) _).mono ?_); rintro e w8 ⟨rfl, hb8⟩)))
  go_ret
  exact ⟨rfl, by (repeat (first | assumption | refine bel_trans ?_ (by assumption)))⟩

set_option maxHeartbeats 1000000 in
set_option maxRecDepth 100000 in
theorem FitTells_any (l m a s x y : Int) (w : World) : Calls Try.prog 3 #[.agg #[.int .i64 l, .int .i64 m, .int .i64 a, .int .i64 s, .int .i64 x, .int .i64 y]] w fun e w' => e = .returned (.bool true) ∧ Below w.heap.size w w' := by
  obtain ⟨v1, h1⟩ : ∃ v, fitV l m a s = v := ⟨_, rfl⟩
  obtain ⟨e1, h2⟩ : ∃ v, fitE l m a s = v := ⟨_, rfl⟩
  obtain ⟨v2, h3⟩ : ∃ v, outV a x y = v := ⟨_, rfl⟩
  obtain ⟨e2, h4⟩ : ∃ v, ooE a x y = v := ⟨_, rfl⟩
  obtain ⟨v3, h5⟩ : ∃ v, innV a x y = v := ⟨_, rfl⟩
  obtain ⟨i, h6⟩ : ∃ v, boxI l m a s x y = v := ⟨_, rfl⟩
  obtain ⟨o, h7⟩ : ∃ v, boxO l m a s x y = v := ⟨_, rfl⟩
  obtain ⟨e3, h8⟩ : ∃ v, boxE l m a s x y = v := ⟨_, rfl⟩
  have r1 := fitE_rng l m a s
  have r2 : 0 ≤ ooE a x y ∧ ooE a x y ≤ 2 := by unfold ooE; split <;> omega
  have r3 := boxE_rng l m a s x y
  rw [h2] at r1
  rw [h4] at r2
  rw [h8] at r3
  have A1 := Lib.hid h1
  have A2 := Lib.hid h2
  have B1 := Lib.hid h3
  have B2 := Lib.hid h4
  have C1 := Lib.hid h5
  have D1 := Lib.hid h6
  have D2 := Lib.hid h7
  have D3 := Lib.hid h8
  clear h1 h2 h3 h4 h5 h6 h7 h8
  have K0 := Blk.boxed w 23 #[.int .i64 l, .int .i64 m, .int .i64 a, .int .i64 s, .int .i64 x, .int .i64 y]
  have bel0 := bel_alloc (Below.refl w.heap.size w) (.cells #[.int .i64 l, .int .i64 m, .int .i64 a, .int .i64 s, .int .i64 x, .int .i64 y] 23)
  go_enter Try.func3, Try.ntmps3
  go_wp2_with (first
    | (go_at_call 10; refine (fit_any l m a s v1 e1 A1.out A2.out _).mono ?_; rintro e w1 ⟨rfl, hb1⟩; have K1 := K0.keep hb1; have R1 := K1.cell)
    | (go_at_call 11; refine (refFit_any l m a s v1 e1 A1.out A2.out _).mono ?_; rintro e w2 ⟨rfl, hb2⟩; have K2 := K1.keep hb2; have R2 := K2.cell)
    | (go_at_call 12; refine (outer_any a x y v2 e2 B1.out B2.out _).mono ?_; rintro e w3 ⟨rfl, hb3⟩; have K3 := K2.keep hb3; have R3 := K3.cell)
    | (go_at_call 13; refine (refOuter_any a x y v2 e2 B1.out B2.out _).mono ?_; rintro e w4 ⟨rfl, hb4⟩; have K4 := K3.keep hb4; have R4 := K4.cell)
    | (go_at_call 14; refine (inner_any a x y v3 e2 C1.out B2.out _).mono ?_; rintro e w5 ⟨rfl, hb5⟩; have K5 := K4.keep hb5; have R5 := K5.cell)
    | (go_at_call 15; refine (refInner_any a x y v3 e2 C1.out B2.out _).mono ?_; rintro e w6 ⟨rfl, hb6⟩; have K6 := K5.keep hb6; have R6 := K6.cell)
    | (go_at_call 16; refine (box_any l m a s x y i o e3 D1.out D2.out D3.out _).mono ?_; rintro e w7 ⟨rfl, hb7⟩; have K7 := K6.keep hb7; have R7 := K7.cell)
    | (go_at_call 17; refine (refBox_any l m a s x y i o e3 D1.out D2.out D3.out _).mono ?_; rintro e w8 ⟨rfl, hb8⟩; have K8 := K7.keep hb8; have R8 := K8.cell)
    | (go_at_call 18; refine (head_any _).mono ?_; rintro e w9 ⟨rfl, hb9⟩))
  go_ret
  exact ⟨rfl, by (repeat (first | assumption | refine bel_trans ?_ (by assumption)))⟩


end Go.Proofs.Ytfpgmldgfgoboaa.Fit

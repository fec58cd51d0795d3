/- Chapter 5: the head of the laws, walked. No condition. -/
import Derived.Test.YtdoppkhpffdfgaaFontE
namespace Go.Proofs.Ytdoppkhpffdfgaa.Font
open Go.RowKit Go.Proofs.Ytdoppkhpffdfgaa.Unit
set_option linter.unusedVariables false

def exR : List Rng := [(32, 32, 256), (19968, 40959, 1024)]
def exG : List Rng := [(19968, 40959, 1024), (32, 32, 256)]
theorem exR_wf : ∀ y ∈ exR, wfA y := fun y hy => by
  simp only [exR, List.mem_cons, List.not_mem_nil, or_false] at hy
  rcases hy with rfl | rfl <;> exact ⟨by decide, by decide, by decide⟩
theorem exG_wf : ∀ y ∈ exG, wfA y := fun y hy => by
  simp only [exG, List.mem_cons, List.not_mem_nil, or_false] at hy
  rcases hy with rfl | rfl <;> exact ⟨by decide, by decide, by decide⟩
def ExEnd (w : World) (e : Ending) (w' : World) : Prop := ∃ g : Nat, e = .returned (fontV 800 224 0 512 512 (some ⟨g, 0, none⟩) 2 2) ∧ w.heap.size ≤ g ∧ Blk w' g 38 (exR.flatMap encA).toArray ∧ Below w.heap.size w w'
set_option maxHeartbeats 1000000 in
theorem example_any (w : World) : Calls Try.prog 20 #[] w (ExEnd w) := by
  go_enter Try.func20, Try.ntmps20
  go_wp2
  refine bodyPost_ret (v := fontV 800 224 0 512 512 (some ⟨w.heap.size + 1, 0, none⟩) 2 2) (by simp [results, Try.results20, go_sem]) rfl ⟨w.heap.size + 1, rfl, by omega, ?_, ?_⟩
  · have := Blk.new (w.alloc (.cells (fontC 800 224 0 512 512 (some ⟨w.heap.size + 1, 0, none⟩) 2 2) 24)) 38 (exR.flatMap encA).toArray
    rw [World.size_alloc] at this
    exact this
  · exact bel_alloc (bel_alloc (Below.refl _ _) _) _
theorem ra_of {W : World} {g : Nat} {rs : List Rng} (h : Blk W g 38 (rs.flatMap encA).toArray) : RA W (some ⟨g, 0, none⟩) rs.length rs := by
  refine ⟨rfl, by rw [flat_length (k := 3) rs (fun _ _ => rfl)], fun _ => ⟨_, rfl, h.lt, fun j u hu => ?_⟩⟩
  have ha : (⟨g, 0, none⟩ : Addr).add j = ⟨g, j, none⟩ := by
    unfold Addr.add
    split
    · subst_vars; rfl
    · simp
  rw [ha, h.cell j]
  simpa using hu
/-- What lies in memory while the head asks. -/
structure FM (w : World) (g1 g2 B1 B2 : Nat) (W : World) : Prop where
  k1 : Blk W B1 24 (fontC 800 224 0 512 512 (some ⟨g1, 0, none⟩) 2 2)
  k2 : Blk W B2 24 (fontC 800 224 0 512 512 (some ⟨g2, 0, none⟩) 2 2)
  r1 : RA W (some ⟨g1, 0, none⟩) 2 exR
  r2 : RA W (some ⟨g2, 0, none⟩) 2 exG
  bel : Below w.heap.size w W
theorem FM.keep {w : World} {g1 g2 B1 B2 : Nat} {W W' : World} (m : FM w g1 g2 B1 B2 W) (hb : Below W.heap.size W W') : FM w g1 g2 B1 B2 W' := ⟨m.k1.keep hb, m.k2.keep hb, m.r1.keep hb, m.r2.keep hb, bel_trans m.bel hb⟩
theorem FM.cells {w : World} {g1 g2 B1 B2 : Nat} {W : World} (m : FM w g1 g2 B1 B2 W) : W.cell? ⟨B1, 0, none⟩ = some (.int .i64 800) ∧ W.cell? ⟨B1, 1, none⟩ = some (.int .i64 224) ∧ W.cell? ⟨B1, 2, none⟩ = some (.int .i64 0) ∧ W.cell? ⟨B1, 3, none⟩ = some (.int .i64 512) ∧ W.cell? ⟨B1, 4, none⟩ = some (.int .i64 512) ∧ W.cell? ⟨B1, 5, none⟩ = some (.slice (some ⟨g1, 0, none⟩) 2 2) :=
  ⟨m.k1.cell 0, m.k1.cell 1, m.k1.cell 2, m.k1.cell 3, m.k1.cell 4, m.k1.cell 5⟩
theorem FM.cells2 {w : World} {g1 g2 B1 B2 : Nat} {W : World} (m : FM w g1 g2 B1 B2 W) : W.cell? ⟨B2, 0, none⟩ = some (.int .i64 800) ∧ W.cell? ⟨B2, 1, none⟩ = some (.int .i64 224) ∧ W.cell? ⟨B2, 2, none⟩ = some (.int .i64 0) ∧ W.cell? ⟨B2, 3, none⟩ = some (.int .i64 512) ∧ W.cell? ⟨B2, 4, none⟩ = some (.int .i64 512) ∧ W.cell? ⟨B2, 5, none⟩ = some (.slice (some ⟨g2, 0, none⟩) 2 2) :=
  ⟨m.k2.cell 0, m.k2.cell 1, m.k2.cell 2, m.k2.cell 3, m.k2.cell 4, m.k2.cell 5⟩
set_option maxHeartbeats 8000000 in
set_option maxRecDepth 100000 in
theorem head_any (w : World) : Calls Try.prog 8 #[] w fun e w' => e = .returned (.bool true) ∧ Below w.heap.size w w' := by
  have tok1 : True := trivial
  go_enter Try.func8, Try.ntmps8
  go_wp2_with (first
    | (go_at_call 20; have _t := tok1; refine (example_any _).mono ?_; rintro e w1 ⟨g1, rfl, hg1, hk1, hb1⟩; clear tok1 _t)
    | (go_at_call 20; refine (example_any _).mono ?_; rintro e w2 ⟨g2, rfl, hg2, hk2, hb2⟩))
  have K1 := ((Blk.new w1 24 (fontC 800 224 0 512 512 (some ⟨g1, 0, none⟩) 2 2)).keep hb2).alloc (.cells (fontC 800 224 0 512 512 (some ⟨g2, 0, none⟩) 2 2) 24)
  have K2 := Blk.new w2 24 (fontC 800 224 0 512 512 (some ⟨g2, 0, none⟩) 2 2)
  have KA := ((hk1.alloc (.cells (fontC 800 224 0 512 512 (some ⟨g1, 0, none⟩) 2 2) 24)).keep hb2).alloc (.cells (fontC 800 224 0 512 512 (some ⟨g2, 0, none⟩) 2 2) 24)
  have KB := hk2.alloc (.cells (fontC 800 224 0 512 512 (some ⟨g2, 0, none⟩) 2 2) 24)
  have bW : Below w.heap.size w (w2.alloc (.cells (fontC 800 224 0 512 512 (some ⟨g2, 0, none⟩) 2 2) 24)) := bel_alloc (bel_trans (bel_alloc hb1 _) hb2) _
  have l1 := hk1.lt
  have l2 := hk2.lt
  have l3 := hb2.size
  rw [World.size_alloc] at hg2 l3
  have s1 := hb1.size
  generalize hB2 : w2.heap.size = B2 at *
  generalize hB1 : w1.heap.size = B1 at *
  generalize w2.alloc (.cells (fontC 800 224 0 512 512 (some ⟨g2, 0, none⟩) 2 2) 24) = W at *
  have c0 : W.cell? ⟨B2, 5, none⟩ = some (.slice (some ⟨g2, 0, none⟩) 2 2) := K2.cell 5
  have d0 : W.cell? ⟨g2, 0, none⟩ = some (.int .i32 32) := KB.cell 0
  have d1 : W.cell? ⟨g2, 1, none⟩ = some (.int .i32 32) := KB.cell 1
  have d2 : W.cell? ⟨g2, 2, none⟩ = some (.int .i64 256) := KB.cell 2
  have d3 : W.cell? ⟨g2, 3, none⟩ = some (.int .i32 19968) := KB.cell 3
  have d4 : W.cell? ⟨g2, 4, none⟩ = some (.int .i32 40959) := KB.cell 4
  have d5 : W.cell? ⟨g2, 5, none⟩ = some (.int .i64 1024) := KB.cell 5
  have f0 := KB.frozen 0
  have f1 := KB.frozen 1
  have f2 := KB.frozen 2
  have f3 := KB.frozen 3
  have f4 := KB.frozen 4
  have f5 := KB.frozen 5
  have HH1 := Lib.hid hB1
  have HH2 := Lib.hid hB2
  clear hB1 hB2 hk1 hk2 hb1 hb2
  have HK1 := Lib.hid K1
  have HK2 := Lib.hid K2
  have HKA := Lib.hid KA
  have HKB := Lib.hid KB
  clear K1 K2 KA KB
  go_region
  have M0 : FM w g1 g2 B1 B2 ((((((W.setCell ⟨g2, 0, none⟩ (.int .i32 19968)).setCell ⟨g2, 1, none⟩ (.int .i32 40959)).setCell ⟨g2, 2, none⟩ (.int .i64 1024)).setCell ⟨g2, 3, none⟩ (.int .i32 32)).setCell ⟨g2, 4, none⟩ (.int .i32 32)).setCell ⟨g2, 5, none⟩ (.int .i64 256)).drew := by
    have far : ∀ {g : Nat} {t : TypeId} {cs : Array Value}, Blk W g t cs → g ≠ g2 → Blk ((((((W.setCell ⟨g2, 0, none⟩ (.int .i32 19968)).setCell ⟨g2, 1, none⟩ (.int .i32 40959)).setCell ⟨g2, 2, none⟩ (.int .i64 1024)).setCell ⟨g2, 3, none⟩ (.int .i32 32)).setCell ⟨g2, 4, none⟩ (.int .i32 32)).setCell ⟨g2, 5, none⟩ (.int .i64 256)).drew g t cs := fun h hne =>
      (((((((h.far (p := ⟨g2, 0, none⟩) hne _).far (p := ⟨g2, 1, none⟩) hne _).far (p := ⟨g2, 2, none⟩) hne _).far (p := ⟨g2, 3, none⟩) hne _).far (p := ⟨g2, 4, none⟩) hne _).far (p := ⟨g2, 5, none⟩) hne _)).drew
    have own := ((((((HKB.out.set_ 0 (.int .i32 19968)).set_ 1 (.int .i32 40959)).set_ 2 (.int .i64 1024)).set_ 3 (.int .i32 32)).set_ 4 (.int .i32 32)).set_ 5 (.int .i64 256)).drew
    have le : w.heap.size ≤ g2 := by omega
    exact ⟨far HK1.out (by omega), far HK2.out (by omega), ra_of (far HKA.out (by omega)), ra_of (rs := exG) own, (((((((bW.setCell (p := ⟨g2, 0, none⟩) le _).setCell (p := ⟨g2, 1, none⟩) le _).setCell (p := ⟨g2, 2, none⟩) le _).setCell (p := ⟨g2, 3, none⟩) le _).setCell (p := ⟨g2, 4, none⟩) le _).setCell (p := ⟨g2, 5, none⟩) le _)).drew⟩
  generalize ((((((W.setCell ⟨g2, 0, none⟩ (.int .i32 19968)).setCell ⟨g2, 1, none⟩ (.int .i32 40959)).setCell ⟨g2, 2, none⟩ (.int .i64 1024)).setCell ⟨g2, 3, none⟩ (.int .i32 32)).setCell ⟨g2, 4, none⟩ (.int .i32 32)).setCell ⟨g2, 5, none⟩ (.int .i64 256)).drew = V at M0 ⊢
  clear c0 d0 d1 d2 d3 d4 d5 f0 f1 f2 f3 f4 f5 HK1 HK2 HKA HKB bW
  have H0 : Hid (∀ W, FM w g1 g2 B1 B2 W → Calls Try.prog 9 #[fontV 800 224 0 512 512 (some ⟨g1, 0, none⟩) 2 2] W fun e w' => e = .returned (.int .i64 0) ∧ Below W.heap.size W w') := fun W m => by
    have := check_any 800 224 0 512 512 (some ⟨g1, 0, none⟩) 2 2 exR (by omega) W m.r1 exR_wf
    rw [show chkV 800 224 0 512 512 exR = 0 by decide] at this
    exact this
  have H1 : Hid (∀ W, FM w g1 g2 B1 B2 W → Calls Try.prog 11 #[fontV 800 224 0 512 512 (some ⟨g1, 0, none⟩) 2 2, .int .i64 1024, .int .i32 97] W fun e w' => e = .returned (.int .i64 512) ∧ Below W.heap.size W w') := fun W m => by
    have := adv_any 800 224 0 512 512 (some ⟨g1, 0, none⟩) 2 2 exR 1024 97 (by omega) W m.r1
    rw [show atV (advOf exR 512 97) 1024 = 512 by decide] at this
    exact this
  have H2 : Hid (∀ W, FM w g1 g2 B1 B2 W → Calls Try.prog 11 #[fontV 800 224 0 512 512 (some ⟨g1, 0, none⟩) 2 2, .int .i64 1024, .int .i32 32] W fun e w' => e = .returned (.int .i64 256) ∧ Below W.heap.size W w') := fun W m => by
    have := adv_any 800 224 0 512 512 (some ⟨g1, 0, none⟩) 2 2 exR 1024 32 (by omega) W m.r1
    rw [show atV (advOf exR 512 32) 1024 = 256 by decide] at this
    exact this
  have H3 : Hid (∀ W, FM w g1 g2 B1 B2 W → Calls Try.prog 11 #[fontV 800 224 0 512 512 (some ⟨g1, 0, none⟩) 2 2, .int .i64 640, .int .i32 20013] W fun e w' => e = .returned (.int .i64 640) ∧ Below W.heap.size W w') := fun W m => by
    have := adv_any 800 224 0 512 512 (some ⟨g1, 0, none⟩) 2 2 exR 640 20013 (by omega) W m.r1
    rw [show atV (advOf exR 512 20013) 640 = 640 by decide] at this
    exact this
  have H4 : Hid (∀ W, FM w g1 g2 B1 B2 W → Calls Try.prog 11 #[fontV 800 224 0 512 512 (some ⟨g1, 0, none⟩) 2 2, .int .i64 3, .int .i32 97] W fun e w' => e = .returned (.int .i64 2) ∧ Below W.heap.size W w') := fun W m => by
    have := adv_any 800 224 0 512 512 (some ⟨g1, 0, none⟩) 2 2 exR 3 97 (by omega) W m.r1
    rw [show atV (advOf exR 512 97) 3 = 2 by decide] at this
    exact this
  have H5 : Hid (∀ W, FM w g1 g2 B1 B2 W → Calls Try.prog 13 #[fontV 800 224 0 512 512 (some ⟨g1, 0, none⟩) 2 2, .int .i64 1024] W fun e w' => e = .returned (.int .i64 800) ∧ Below W.heap.size W w') := fun W m => by
    have := up_any 800 224 0 512 512 (some ⟨g1, 0, none⟩) 2 2 1024 W
    rw [show atV 800 1024 = 800 by decide] at this
    exact this
  have H6 : Hid (∀ W, FM w g1 g2 B1 B2 W → Calls Try.prog 15 #[fontV 800 224 0 512 512 (some ⟨g1, 0, none⟩) 2 2, .int .i64 640] W fun e w' => e = .returned (.int .i64 140) ∧ Below W.heap.size W w') := fun W m => by
    have := down_any 800 224 0 512 512 (some ⟨g1, 0, none⟩) 2 2 640 W
    rw [show atV 224 640 = 140 by decide] at this
    exact this
  have H7 : Hid (∀ W, FM w g1 g2 B1 B2 W → Calls Try.prog 17 #[fontV 800 224 0 512 512 (some ⟨g1, 0, none⟩) 2 2, .int .i64 1] W fun e w' => e = .returned (.int .i64 1) ∧ Below W.heap.size W w') := fun W m => by
    have := x_any 800 224 0 512 512 (some ⟨g1, 0, none⟩) 2 2 1 W
    rw [show atV 512 1 = 1 by decide] at this
    exact this
  have H8 : Hid (∀ W, FM w g1 g2 B1 B2 W → Calls Try.prog 16 #[fontV 800 224 0 512 512 (some ⟨g1, 0, none⟩) 2 2, .int .i64 9] W fun e w' => e = .returned (.int .i64 0) ∧ Below W.heap.size W w') := fun W m => by
    have := gap_any 800 224 0 512 512 (some ⟨g1, 0, none⟩) 2 2 9 W
    rw [show atV 0 9 = 0 by decide] at this
    exact this
  have H9 : Hid (∀ W, FM w g1 g2 B1 B2 W → Calls Try.prog 13 #[fontV 800 224 0 512 512 (some ⟨g1, 0, none⟩) 2 2, .int .i64 (-1)] W fun e w' => e = .returned (.int .i64 0) ∧ Below W.heap.size W w') := fun W m => by
    have := up_any 800 224 0 512 512 (some ⟨g1, 0, none⟩) 2 2 (-1) W
    rw [show atV 800 (-1) = 0 by decide] at this
    exact this
  have HT : Hid (∀ W, FM w g1 g2 B1 B2 W → Calls Try.prog 18 #[fontV 800 224 0 512 512 (some ⟨g1, 0, none⟩) 2 2, .int .i64 1024, .slice (some ⟨W.heap.size, 0, none⟩) 3 3] (W.alloc (.cells #[.int .i32 97, .int .i32 32, .int .i32 97] 21)) fun e w' => e = .returned (.int .i64 1280) ∧ Below (W.alloc (.cells #[.int .i32 97, .int .i32 32, .int .i32 97] 21)).heap.size (W.alloc (.cells #[.int .i32 97, .int .i32 32, .int .i32 97] 21)) w') := fun W m => by
    have := text_any 800 224 0 512 512 (some ⟨g1, 0, none⟩) 2 2 exR 1024 (some ⟨W.heap.size, 0, none⟩) 3 3 [97, 32, 97] (by omega) (by omega) _ (m.r1.keep (bel_alloc (Below.refl _ _) _)) rfl (reads_new W 21 #[.int .i32 97, .int .i32 32, .int .i32 97] 3 _ rfl rfl)
    rw [show tS exR 512 1024 [97, 32, 97] = 1280 by decide] at this
    exact this
  have HG : Hid (∀ W, FM w g1 g2 B1 B2 W → Calls Try.prog 9 #[fontV 800 224 0 512 512 (some ⟨g2, 0, none⟩) 2 2] W fun e w' => e = .returned (.int .i64 50) ∧ Below W.heap.size W w') := fun W m => by
    have := check_any 800 224 0 512 512 (some ⟨g2, 0, none⟩) 2 2 exG (by omega) W m.r2 exG_wf
    rw [show chkV 800 224 0 512 512 exG = 50 by decide] at this
    exact this
  obtain ⟨p0, p1, p2, p3, p4, p5⟩ := M0.cells
  go_wp2_with (first
    | (go_at_call 9; ((with_reducible refine (H0.out _ M0).mono ?_); rintro e v1 ⟨rfl, b1⟩; have M1 := M0.keep b1; obtain ⟨p10, p11, p12, p13, p14, p15⟩ := M1.cells))
    | (go_at_call 11; ((with_reducible refine (H1.out _ M1).mono ?_); rintro e v2 ⟨rfl, b2⟩; have M2 := M1.keep b2; obtain ⟨p20, p21, p22, p23, p24, p25⟩ := M2.cells))
    | (go_at_call 11; ((with_reducible refine (H2.out _ M2).mono ?_); rintro e v3 ⟨rfl, b3⟩; have M3 := M2.keep b3; obtain ⟨p30, p31, p32, p33, p34, p35⟩ := M3.cells))
    | (go_at_call 11; ((with_reducible refine (H3.out _ M3).mono ?_); rintro e v4 ⟨rfl, b4⟩; have M4 := M3.keep b4; obtain ⟨p40, p41, p42, p43, p44, p45⟩ := M4.cells))
    | (go_at_call 11; ((with_reducible refine (H4.out _ M4).mono ?_); rintro e v5 ⟨rfl, b5⟩; have M5 := M4.keep b5; obtain ⟨p50, p51, p52, p53, p54, p55⟩ := M5.cells))
    | (go_at_call 13; ((with_reducible refine (H5.out _ M5).mono ?_); rintro e v6 ⟨rfl, b6⟩; have M6 := M5.keep b6; obtain ⟨p60, p61, p62, p63, p64, p65⟩ := M6.cells))
    | (go_at_call 15; ((with_reducible refine (H6.out _ M6).mono ?_); rintro e v7 ⟨rfl, b7⟩; have M7 := M6.keep b7; obtain ⟨p70, p71, p72, p73, p74, p75⟩ := M7.cells))
    | (go_at_call 17; ((with_reducible refine (H7.out _ M7).mono ?_); rintro e v8 ⟨rfl, b8⟩; have M8 := M7.keep b8; obtain ⟨p80, p81, p82, p83, p84, p85⟩ := M8.cells))
    | (go_at_call 16; ((with_reducible refine (H8.out _ M8).mono ?_); rintro e v9 ⟨rfl, b9⟩; have M9 := M8.keep b9; obtain ⟨p90, p91, p92, p93, p94, p95⟩ := M9.cells))
    | (go_at_call 13; ((with_reducible refine (H9.out _ M9).mono ?_); rintro e v10 ⟨rfl, b10⟩; have M10 := M9.keep b10; obtain ⟨p100, p101, p102, p103, p104, p105⟩ := M10.cells))
    | (go_at_call 18; ((with_reducible refine (HT.out _ M10).mono ?_); rintro e v11 ⟨rfl, b11⟩; have M11 := (M10.keep (bel_alloc (Below.refl _ _) _)).keep b11; obtain ⟨q0, q1, q2, q3, q4, q5⟩ := M11.cells2))
    | (go_at_call 9; ((with_reducible refine (HG.out _ M11).mono ?_); rintro e v12 ⟨rfl, b12⟩; have M12 := M11.keep b12)))
  go_ret
  exact ⟨rfl, M12.bel⟩
end Go.Proofs.Ytdoppkhpffdfgaa.Font

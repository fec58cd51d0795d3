/- Chapter 23: the reference's Line and the law FlexLines, walked. No condition but bounds. -/
import Derived.Test.YtglomkpnbdnnoaaFlexX
namespace Go.Proofs.Ytglomkpnbdnnoaa.Flex
open Go.RowKit Go.Proofs.Ytglomkpnbdnnoaa.Unit Go.Proofs.Ytglomkpnbdnnoaa.Div
set_option linter.unusedVariables false
set_option linter.unusedSimpArgs false
attribute [local go_sem] max2_V max_two
theorem line_step {l : List Bx} {y : Bx} {j : Nat} (h : l[j]? = some y) (h0 : j ≠ 0) : lineB (l.take (j + 1)) = mxB (lineB (l.take j)) y := by
  cases l with
  | nil => simp at h
  | cons x l =>
    obtain ⟨i, rfl⟩ : ∃ i, j = i + 1 := ⟨j - 1, by omega⟩
    simp only [List.take_succ_cons, lineB]
    exact fold_step l x y i (by simpa using h)
theorem line_one {l : List Bx} {y : Bx} (h : l[0]? = some y) : lineB (l.take 1) = y := by
  cases l with
  | nil => simp at h
  | cons x l => simp at h; subst h; rfl
theorem le_mx (a b : Bx) : a.ab ≤ (mxB a b).ab ∧ a.be ≤ (mxB a b).be ∧ b.ab ≤ (mxB a b).ab ∧ b.be ≤ (mxB a b).be := by
  simp only [mxB, mxV]
  split <;> split <;> omega
theorem fold_ge : ∀ (l : List Bx) (x : Bx), x.ab ≤ (l.foldl mxB x).ab ∧ x.be ≤ (l.foldl mxB x).be ∧ ∀ (i : Nat) y, l[i]? = some y → y.ab ≤ (l.foldl mxB x).ab ∧ y.be ≤ (l.foldl mxB x).be
  | [], x => ⟨Int.le_refl _, Int.le_refl _, fun i y h => by simp at h⟩
  | z :: l, x => by
    obtain ⟨h1, h2, h3⟩ := fold_ge l (mxB x z)
    obtain ⟨g1, g2, g3, g4⟩ := le_mx x z
    refine ⟨Int.le_trans g1 h1, Int.le_trans g2 h2, fun i y h => ?_⟩
    cases i with
    | zero => simp at h; subst h; exact ⟨Int.le_trans g3 h1, Int.le_trans g4 h2⟩
    | succ i => exact h3 i y (by simpa using h)
theorem line_ge {l : List Bx} {i : Nat} {y : Bx} (h : l[i]? = some y) : y.ab ≤ (lineB l).ab ∧ y.be ≤ (lineB l).be := by
  cases l with
  | nil => simp at h
  | cons x l =>
    obtain ⟨h1, h2, h3⟩ := fold_ge l x
    cases i with
    | zero => simp at h; subst h; exact ⟨h1, h2⟩
    | succ i => exact h3 i y (by simpa using h)
theorem box_at {w : World} {B n : Nat} {ad : Addr} {xs : List Bx} (hr : Reads w B 2 (some ad) n (bxL xs)) {j : Nat} (hj : j < n) {y : Bx} (hy : xs[j]? = some y) (V : World) (h : Below B w V) :
    V.cell? (ad.add (j * 2)) = some (.int .i64 y.ab) ∧ V.cell? ⟨(ad.add (j * 2)).block, (ad.add (j * 2)).off + 1, none⟩ = some (.int .i64 y.be) := by
  obtain ⟨ad', y', e, _, hy', k0, k1⟩ := reads_bx (hr.below h) hj
  injection e with e
  subst e
  rw [hy] at hy'
  injection hy' with hy'
  subst hy'
  exact ⟨k0, k1⟩
theorem mxV_yes {a b : Int} (h : a < b) : mxV a b = b := if_pos h
theorem mxV_no {a b : Int} (h : ¬ a < b) : mxV a b = a := if_neg h
set_option maxHeartbeats 16000000 in
set_option maxRecDepth 100000 in
theorem refLine_any (A : Option Addr) (n c : Nat) (xs : List Bx) (hn : n ≤ 1000000) (w : World) (hr : Reads w w.heap.size 2 A n (bxL xs)) :
    Calls Try.prog 16 #[.slice A n c] w fun e w' => e = .returned (bxV (lineB xs)) ∧ Below w.heap.size w w' := by
  have HL := Lib.hid (len_bx hr)
  have nn : (n : Int) ≤ 1000000 := by omega
  have HRD := Lib.hid hr
  have KR := Lib.hid ((Blk.new w 39 #[.int .i64 0, .int .i64 0]).alloc (.cells #[.int .i64 0, .int .i64 0] 39))
  have KB := Lib.hid (show Blk ((w.alloc (.cells #[.int .i64 0, .int .i64 0] 39)).alloc (.cells #[.int .i64 0, .int .i64 0] 39)) (w.heap.size + 1) 39 #[.int .i64 0, .int .i64 0] by
    have := Blk.new (w.alloc (.cells #[.int .i64 0, .int .i64 0] 39)) 39 #[.int .i64 0, .int .i64 0]
    rwa [World.size_alloc] at this)
  have HB := Lib.hid (bel_alloc (bel_alloc (Below.refl w.heap.size w) (.cells #[.int .i64 0, .int .i64 0] 39)) (.cells #[.int .i64 0, .int .i64 0] 39))
  clear hr
  go_enter Try.func16, Try.ntmps16
  go_upto_region 2 with fail
  generalize (w.alloc (.cells #[.int .i64 0, .int .i64 0] 39)).alloc (.cells #[.int .i64 0, .int .i64 0] 39) = W1 at KR KB HB ⊢
  go_wp2
  go_loopw [4] (fun i wr => ∃ j : Nat, i = .int .i64 j ∧ j ≤ n ∧ Hid (Blk wr (w.heap.size + 1) 39 #[.int .i64 (lineB (xs.take j)).ab, .int .i64 (lineB (xs.take j)).be]) ∧ Hid (Blk wr w.heap.size 39 #[.int .i64 0, .int .i64 0]) ∧ Hid (Below w.heap.size w wr)) (fun i _ => n - (intOf i).toNat)
  case atStart => exact ⟨0, rfl, by omega, KB, KR, HB⟩
  case round =>
    obtain ⟨j, rfl, hj, HK, HR, HBw⟩ := hrel
    clear KB KR HB
    by_cases hlt : j < n
    · have q1 : decide ((j : Int) < (n : Int)) = true := decide_eq_true (by omega)
      have i0 : (0 : Int) ≤ (j : Int) := by omega
      have i1 : (j : Int) < (n : Int) := by omega
      obtain ⟨ad, y, rfl, hbk, hy, y0, y1⟩ := reads_bx (HRD.out.below HBw.out) hlt
      have HY := Lib.hid hy
      have HF1 := Lib.hid (fun h : j = 0 => line_one (l := xs) (y := y) (by rw [← h]; exact hy))
      have HF2 := Lib.hid (fun h : j ≠ 0 => line_step hy h)
      have HC := Lib.hid (box_at (HRD.out) hlt hy)
      obtain ⟨b, hb⟩ : ∃ b, lineB (xs.take j) = b := ⟨_, rfl⟩
      rw [hb] at HK HF2
      clear hb hy
      have c0 : wr.cell? ⟨w.heap.size + 1, 0, none⟩ = some (.int .i64 b.ab) := HK.out.cell 0
      have c1 : wr.cell? ⟨w.heap.size + 1, 1, none⟩ = some (.int .i64 b.be) := HK.out.cell 1
      have f0 := HK.out.frozen 0
      have f1 := HK.out.frozen 1
      clear hbk
      by_cases hj0 : j = 0
      · have q2 : ((j : Int) == 0) = true := by simp [hj0]
        have HN := Lib.hid (show lineB (xs.take (j + 1)) = ⟨y.ab, y.be⟩ by rw [hj0]; exact HF1.out hj0)
        clear hj0 HF1 HF2
        go_upto_region 5 with fail
        go_quiet (fail)
        have BQ := Lib.hid (bel_drewN (Below.refl wr.heap.size wr) nq)
        generalize wr.drewN nq = W5 at BQ ⊢
        have K5 := Lib.hid (HK.out.keep BQ.out)
        have R5 := Lib.hid (HR.out.keep BQ.out)
        have B5 := Lib.hid (bel_trans HBw.out BQ.out)
        clear c0 c1 f0 f1 y0 y1 HK HR HBw BQ
        obtain ⟨y0, y1⟩ := HC.out W5 B5.out
        have c0 : W5.cell? ⟨w.heap.size + 1, 0, none⟩ = some (.int .i64 b.ab) := K5.out.cell 0
        have f0 := K5.out.frozen 0
        go_upto_region 7 with fail
        have K6 := Lib.hid (show Blk (W5.setCell ⟨w.heap.size + 1, 0, none⟩ (.int .i64 y.ab)) (w.heap.size + 1) 39 #[.int .i64 y.ab, .int .i64 b.be] by simpa using K5.out.set_ 0 (.int .i64 y.ab))
        have R6 := Lib.hid (R5.out.far (p := ⟨w.heap.size + 1, 0, none⟩) (by simp only; omega) (.int .i64 y.ab))
        have B6 := Lib.hid (B5.out.setCell (p := ⟨w.heap.size + 1, 0, none⟩) (by simp only; omega) (.int .i64 y.ab))
        generalize W5.setCell ⟨w.heap.size + 1, 0, none⟩ (.int .i64 y.ab) = W6 at K6 R6 B6 ⊢
        clear y0 y1 c0 f0 K5 R5 B5
        obtain ⟨y0, y1⟩ := HC.out W6 B6.out
        have c1 : W6.cell? ⟨w.heap.size + 1, 1, none⟩ = some (.int .i64 b.be) := K6.out.cell 1
        go_quiet (fail)
        have BQ := Lib.hid (bel_drewN (Below.refl W6.heap.size W6) nq)
        generalize W6.drewN nq = W7 at BQ ⊢
        have K7 := Lib.hid (K6.out.keep BQ.out)
        have R7 := Lib.hid (R6.out.keep BQ.out)
        have B7 := Lib.hid (bel_trans B6.out BQ.out)
        clear c1 y0 y1 K6 R6 B6 BQ
        obtain ⟨y0, y1⟩ := HC.out W7 B7.out
        have c1 : W7.cell? ⟨w.heap.size + 1, 1, none⟩ = some (.int .i64 b.be) := K7.out.cell 1
        have f1 := K7.out.frozen 1
        have K8 := Lib.hid (show Blk (W7.setCell ⟨w.heap.size + 1, 1, none⟩ (.int .i64 y.be)) (w.heap.size + 1) 39 #[.int .i64 y.ab, .int .i64 y.be] by simpa using K7.out.set_ 1 (.int .i64 y.be))
        have R8 := Lib.hid (R7.out.far (p := ⟨w.heap.size + 1, 1, none⟩) (by simp only; omega) (.int .i64 y.be))
        have B8 := Lib.hid (B7.out.setCell (p := ⟨w.heap.size + 1, 1, none⟩) (by simp only; omega) (.int .i64 y.be))
        clear K7 R7 B7
        go_wp2
        go_roundw
        case rel => exact ⟨j + 1, by go_num, by omega, by rw [HN.out]; exact K8, R8, B8⟩
        case measure => simp [intOf]; omega
      · have q2 : ((j : Int) == 0) = false := by simp [hj0]
        have HF := Lib.hid (HF2.out hj0)
        clear hj0 HF1 HF2
        by_cases h1 : b.ab < y.ab
        · have t1 : decide (b.ab < y.ab) = true := decide_eq_true h1
          by_cases h2 : b.be < y.be
          · have t2 : decide (b.be < y.be) = true := decide_eq_true h2
            have HN := Lib.hid (show lineB (xs.take (j + 1)) = ⟨y.ab, y.be⟩ by rw [HF.out]; unfold mxB; rw [mxV_yes h1, mxV_yes h2])
            clear h1 h2 HF
            go_upto_region 5 with fail
            go_quiet (fail)
            have BQ := Lib.hid (bel_drewN (Below.refl wr.heap.size wr) nq)
            generalize wr.drewN nq = W5 at BQ ⊢
            have K5 := Lib.hid (HK.out.keep BQ.out)
            have R5 := Lib.hid (HR.out.keep BQ.out)
            have B5 := Lib.hid (bel_trans HBw.out BQ.out)
            clear c0 c1 f0 f1 y0 y1 HK HR HBw BQ
            obtain ⟨y0, y1⟩ := HC.out W5 B5.out
            have c0 : W5.cell? ⟨w.heap.size + 1, 0, none⟩ = some (.int .i64 b.ab) := K5.out.cell 0
            have f0 := K5.out.frozen 0
            go_upto_region 7 with fail
            have K6 := Lib.hid (show Blk (W5.setCell ⟨w.heap.size + 1, 0, none⟩ (.int .i64 y.ab)) (w.heap.size + 1) 39 #[.int .i64 y.ab, .int .i64 b.be] by simpa using K5.out.set_ 0 (.int .i64 y.ab))
            have R6 := Lib.hid (R5.out.far (p := ⟨w.heap.size + 1, 0, none⟩) (by simp only; omega) (.int .i64 y.ab))
            have B6 := Lib.hid (B5.out.setCell (p := ⟨w.heap.size + 1, 0, none⟩) (by simp only; omega) (.int .i64 y.ab))
            generalize W5.setCell ⟨w.heap.size + 1, 0, none⟩ (.int .i64 y.ab) = W6 at K6 R6 B6 ⊢
            clear y0 y1 c0 f0 K5 R5 B5
            obtain ⟨y0, y1⟩ := HC.out W6 B6.out
            have c1 : W6.cell? ⟨w.heap.size + 1, 1, none⟩ = some (.int .i64 b.be) := K6.out.cell 1
            go_quiet (fail)
            have BQ := Lib.hid (bel_drewN (Below.refl W6.heap.size W6) nq)
            generalize W6.drewN nq = W7 at BQ ⊢
            have K7 := Lib.hid (K6.out.keep BQ.out)
            have R7 := Lib.hid (R6.out.keep BQ.out)
            have B7 := Lib.hid (bel_trans B6.out BQ.out)
            clear c1 y0 y1 K6 R6 B6 BQ
            obtain ⟨y0, y1⟩ := HC.out W7 B7.out
            have c1 : W7.cell? ⟨w.heap.size + 1, 1, none⟩ = some (.int .i64 b.be) := K7.out.cell 1
            have f1 := K7.out.frozen 1
            have K8 := Lib.hid (show Blk (W7.setCell ⟨w.heap.size + 1, 1, none⟩ (.int .i64 y.be)) (w.heap.size + 1) 39 #[.int .i64 y.ab, .int .i64 y.be] by simpa using K7.out.set_ 1 (.int .i64 y.be))
            have R8 := Lib.hid (R7.out.far (p := ⟨w.heap.size + 1, 1, none⟩) (by simp only; omega) (.int .i64 y.be))
            have B8 := Lib.hid (B7.out.setCell (p := ⟨w.heap.size + 1, 1, none⟩) (by simp only; omega) (.int .i64 y.be))
            clear K7 R7 B7
            go_wp2
            go_roundw
            case rel => exact ⟨j + 1, by go_num, by omega, by rw [HN.out]; exact K8, R8, B8⟩
            case measure => simp [intOf]; omega
          · have t2 : decide (b.be < y.be) = false := decide_eq_false h2
            have HN := Lib.hid (show lineB (xs.take (j + 1)) = ⟨y.ab, b.be⟩ by rw [HF.out]; unfold mxB; rw [mxV_yes h1, mxV_no h2])
            clear h1 h2 HF
            go_upto_region 5 with fail
            go_quiet (fail)
            have BQ := Lib.hid (bel_drewN (Below.refl wr.heap.size wr) nq)
            generalize wr.drewN nq = W5 at BQ ⊢
            have K5 := Lib.hid (HK.out.keep BQ.out)
            have R5 := Lib.hid (HR.out.keep BQ.out)
            have B5 := Lib.hid (bel_trans HBw.out BQ.out)
            clear c0 c1 f0 f1 y0 y1 HK HR HBw BQ
            obtain ⟨y0, y1⟩ := HC.out W5 B5.out
            have c0 : W5.cell? ⟨w.heap.size + 1, 0, none⟩ = some (.int .i64 b.ab) := K5.out.cell 0
            have f0 := K5.out.frozen 0
            go_upto_region 7 with fail
            have K6 := Lib.hid (show Blk (W5.setCell ⟨w.heap.size + 1, 0, none⟩ (.int .i64 y.ab)) (w.heap.size + 1) 39 #[.int .i64 y.ab, .int .i64 b.be] by simpa using K5.out.set_ 0 (.int .i64 y.ab))
            have R6 := Lib.hid (R5.out.far (p := ⟨w.heap.size + 1, 0, none⟩) (by simp only; omega) (.int .i64 y.ab))
            have B6 := Lib.hid (B5.out.setCell (p := ⟨w.heap.size + 1, 0, none⟩) (by simp only; omega) (.int .i64 y.ab))
            generalize W5.setCell ⟨w.heap.size + 1, 0, none⟩ (.int .i64 y.ab) = W6 at K6 R6 B6 ⊢
            clear y0 y1 c0 f0 K5 R5 B5
            obtain ⟨y0, y1⟩ := HC.out W6 B6.out
            have c1 : W6.cell? ⟨w.heap.size + 1, 1, none⟩ = some (.int .i64 b.be) := K6.out.cell 1
            go_quiet (fail)
            have BQ := Lib.hid (bel_drewN (Below.refl W6.heap.size W6) nq)
            generalize W6.drewN nq = W7 at BQ ⊢
            have K7 := Lib.hid (K6.out.keep BQ.out)
            have R7 := Lib.hid (R6.out.keep BQ.out)
            have B7 := Lib.hid (bel_trans B6.out BQ.out)
            clear c1 y0 y1 K6 R6 B6 BQ
            have K8 := K7
            have R8 := R7
            have B8 := B7
            clear K7 R7 B7
            go_wp2
            go_roundw
            case rel => exact ⟨j + 1, by go_num, by omega, by rw [HN.out]; exact K8, R8, B8⟩
            case measure => simp [intOf]; omega
        · have t1 : decide (b.ab < y.ab) = false := decide_eq_false h1
          by_cases h2 : b.be < y.be
          · have t2 : decide (b.be < y.be) = true := decide_eq_true h2
            have HN := Lib.hid (show lineB (xs.take (j + 1)) = ⟨b.ab, y.be⟩ by rw [HF.out]; unfold mxB; rw [mxV_no h1, mxV_yes h2])
            clear h1 h2 HF
            go_upto_region 5 with fail
            go_quiet (fail)
            have BQ := Lib.hid (bel_drewN (Below.refl wr.heap.size wr) nq)
            generalize wr.drewN nq = W5 at BQ ⊢
            have K5 := Lib.hid (HK.out.keep BQ.out)
            have R5 := Lib.hid (HR.out.keep BQ.out)
            have B5 := Lib.hid (bel_trans HBw.out BQ.out)
            clear c0 c1 f0 f1 y0 y1 HK HR HBw BQ
            go_upto_region 7 with fail
            obtain ⟨W6, hW6⟩ : ∃ W6, W6 = W5 := ⟨_, rfl⟩
            subst hW6
            have K6 := K5
            have R6 := R5
            have B6 := B5
            clear K5 R5 B5
            obtain ⟨y0, y1⟩ := HC.out W6 B6.out
            have c1 : W6.cell? ⟨w.heap.size + 1, 1, none⟩ = some (.int .i64 b.be) := K6.out.cell 1
            go_quiet (fail)
            have BQ := Lib.hid (bel_drewN (Below.refl W6.heap.size W6) nq)
            generalize W6.drewN nq = W7 at BQ ⊢
            have K7 := Lib.hid (K6.out.keep BQ.out)
            have R7 := Lib.hid (R6.out.keep BQ.out)
            have B7 := Lib.hid (bel_trans B6.out BQ.out)
            clear c1 y0 y1 K6 R6 B6 BQ
            obtain ⟨y0, y1⟩ := HC.out W7 B7.out
            have c1 : W7.cell? ⟨w.heap.size + 1, 1, none⟩ = some (.int .i64 b.be) := K7.out.cell 1
            have f1 := K7.out.frozen 1
            have K8 := Lib.hid (show Blk (W7.setCell ⟨w.heap.size + 1, 1, none⟩ (.int .i64 y.be)) (w.heap.size + 1) 39 #[.int .i64 b.ab, .int .i64 y.be] by simpa using K7.out.set_ 1 (.int .i64 y.be))
            have R8 := Lib.hid (R7.out.far (p := ⟨w.heap.size + 1, 1, none⟩) (by simp only; omega) (.int .i64 y.be))
            have B8 := Lib.hid (B7.out.setCell (p := ⟨w.heap.size + 1, 1, none⟩) (by simp only; omega) (.int .i64 y.be))
            clear K7 R7 B7
            go_wp2
            go_roundw
            case rel => exact ⟨j + 1, by go_num, by omega, by rw [HN.out]; exact K8, R8, B8⟩
            case measure => simp [intOf]; omega
          · have t2 : decide (b.be < y.be) = false := decide_eq_false h2
            have HN := Lib.hid (show lineB (xs.take (j + 1)) = ⟨b.ab, b.be⟩ by rw [HF.out]; unfold mxB; rw [mxV_no h1, mxV_no h2])
            clear h1 h2 HF
            go_upto_region 5 with fail
            go_quiet (fail)
            have BQ := Lib.hid (bel_drewN (Below.refl wr.heap.size wr) nq)
            generalize wr.drewN nq = W5 at BQ ⊢
            have K5 := Lib.hid (HK.out.keep BQ.out)
            have R5 := Lib.hid (HR.out.keep BQ.out)
            have B5 := Lib.hid (bel_trans HBw.out BQ.out)
            clear c0 c1 f0 f1 y0 y1 HK HR HBw BQ
            go_upto_region 7 with fail
            obtain ⟨W6, hW6⟩ : ∃ W6, W6 = W5 := ⟨_, rfl⟩
            subst hW6
            have K6 := K5
            have R6 := R5
            have B6 := B5
            clear K5 R5 B5
            obtain ⟨y0, y1⟩ := HC.out W6 B6.out
            have c1 : W6.cell? ⟨w.heap.size + 1, 1, none⟩ = some (.int .i64 b.be) := K6.out.cell 1
            go_quiet (fail)
            have BQ := Lib.hid (bel_drewN (Below.refl W6.heap.size W6) nq)
            generalize W6.drewN nq = W7 at BQ ⊢
            have K7 := Lib.hid (K6.out.keep BQ.out)
            have R7 := Lib.hid (R6.out.keep BQ.out)
            have B7 := Lib.hid (bel_trans B6.out BQ.out)
            clear c1 y0 y1 K6 R6 B6 BQ
            have K8 := K7
            have R8 := R7
            have B8 := B7
            clear K7 R7 B7
            go_wp2
            go_roundw
            case rel => exact ⟨j + 1, by go_num, by omega, by rw [HN.out]; exact K8, R8, B8⟩
            case measure => simp [intOf]; omega
    · obtain rfl : n = j := by omega
      have q1 : decide ((n : Int) < (n : Int)) = false := decide_eq_false (by omega)
      have HFi := Lib.hid (show lineB (xs.take n) = lineB xs by rw [List.take_of_length_le (by rw [HL.out]; exact Nat.le_refl _)])
      generalize lineB (xs.take n) = b at HK HFi
      have c0 : wr.cell? ⟨w.heap.size + 1, 0, none⟩ = some (.int .i64 b.ab) := HK.out.cell 0
      have c1 : wr.cell? ⟨w.heap.size + 1, 1, none⟩ = some (.int .i64 b.be) := HK.out.cell 1
      have r0 : wr.cell? ⟨w.heap.size, 0, none⟩ = some (.int .i64 0) := HR.out.cell 0
      have r1 : wr.cell? ⟨w.heap.size, 1, none⟩ = some (.int .i64 0) := HR.out.cell 1
      have e0 := HR.out.frozen 0
      have e1 := HR.out.frozen 1
      have KF := (HR.out.set_ 0 (.int .i64 b.ab)).set_ 1 (.int .i64 b.be)
      have KF : Blk ((wr.setCell ⟨w.heap.size, 0, none⟩ (.int .i64 b.ab)).setCell ⟨w.heap.size, 1, none⟩ (.int .i64 b.be)) w.heap.size 39 #[.int .i64 b.ab, .int .i64 b.be] := by simpa using KF
      have BN := Lib.hid ((HBw.out.setCell (p := ⟨w.heap.size, 0, none⟩) (by simp only; omega) (.int .i64 b.ab)).setCell (p := ⟨w.heap.size, 1, none⟩) (by simp only; omega) (.int .i64 b.be))
      have s0 := Lib.hid (KF.cell 0)
      have s1 := Lib.hid (KF.cell 1)
      clear KF
      go_wp2
      have t0 := s0.out
      have t1 := s1.out
      exact bodyPost_ret (v := bxV b) (by simp [results, Try.results16, go_sem, t0, t1]) rfl ⟨by rw [← HFi.out], BN.out⟩
set_option maxHeartbeats 16000000 in
set_option maxRecDepth 100000 in
theorem FlexLines_any (A : Option Addr) (n c : Nat) (xs : List Bx) (hc : n ≤ c) (w : World) (hr : Reads w w.heap.size 2 A n (bxL xs)) :
    Calls Try.prog 6 #[.slice A n c] w fun e w' => e = .returned (.bool true) ∧ Below w.heap.size w w' := by
  have HH := Lib.hid (fun V => head_any V)
  by_cases hg : n ≤ 300
  · have q0 : decide ((300 : Int) < (n : Int)) = false := decide_eq_false (by omega)
    have HLi := Lib.hid (Line_any A n c xs (by omega) hc w hr)
    have HRf := Lib.hid (fun V (h : Below w.heap.size w V) => refLine_any A n c xs (by omega) V ((hr.below h).more h.size))
    have HRD := Lib.hid hr
    have HG := Lib.hid (fun (i : Nat) (y : Bx) (h : xs[i]? = some y) => line_ge h)
    generalize lineB xs = b at HLi HRf HG
    have nn : (n : Int) ≤ 300 := by omega
    clear hr hg
    go_enter Try.func6, Try.ntmps6
    go_upto_region 4 with (go_at_call 15; (with_reducible refine HLi.out.mono ?_); rintro e w1 ⟨rfl, bb⟩; have B1 := Lib.hid bb; clear bb)
    have K1 := Lib.hid (Blk.new w1 39 #[.int .i64 b.ab, .int .i64 b.be])
    have B2 := Lib.hid (bel_trans B1.out (bel_alloc (Below.refl w1.heap.size w1) (.cells #[.int .i64 b.ab, .int .i64 b.be] 39)))
    obtain ⟨g, hgz⟩ : ∃ g, w1.heap.size = g := ⟨_, rfl⟩
    rw [hgz] at K1 ⊢
    generalize w1.alloc (.cells #[.int .i64 b.ab, .int .i64 b.be] 39) = W1 at K1 B2 ⊢
    clear B1 HLi hgz
    go_wp2
    go_loopw [4] (fun i wr => ∃ j : Nat, i = .int .i64 j ∧ j ≤ n ∧ Hid (Blk wr g 39 #[.int .i64 b.ab, .int .i64 b.be]) ∧ Hid (Below w.heap.size w wr)) (fun i _ => n - (intOf i).toNat)
    case atStart => exact ⟨0, rfl, by omega, K1, B2⟩
    case round =>
      obtain ⟨j, rfl, hj, HK, HB⟩ := hrel
      clear K1 B2
      have c0 : wr.cell? ⟨g, 0, none⟩ = some (.int .i64 b.ab) := HK.out.cell 0
      have c1 : wr.cell? ⟨g, 1, none⟩ = some (.int .i64 b.be) := HK.out.cell 1
      by_cases hlt : j < n
      · have q1 : decide ((j : Int) < (n : Int)) = true := decide_eq_true (by omega)
        have i0 : (0 : Int) ≤ (j : Int) := by omega
        have i1 : (j : Int) < (n : Int) := by omega
        obtain ⟨ad, y, rfl, _, hy, y0, y1⟩ := reads_bx (HRD.out.below HB.out) hlt
        have h := HG.out j y hy
        have t1 : decide (b.ab < y.ab) = false := decide_eq_false (by omega)
        have t2 : decide (b.be < y.be) = false := decide_eq_false (by omega)
        clear h hy HG HRf HRD
        go_upto_region 7 with fail
        go_quiet (fail)
        have BQ := Lib.hid (bel_drewN (Below.refl wr.heap.size wr) nq)
        generalize wr.drewN nq = W5 at BQ ⊢
        have K5 := Lib.hid (HK.out.keep BQ.out)
        have B5 := Lib.hid (bel_trans HB.out BQ.out)
        go_wp2
        go_roundw
        case rel => exact ⟨j + 1, by go_num, by omega, K5, B5⟩
        case measure => simp [intOf]; omega
      · obtain rfl : n = j := by omega
        have q1 : decide ((n : Int) < (n : Int)) = false := decide_eq_false (by omega)
        clear HG HRD
        go_upto_region 9 with fail
        have BD := Lib.hid HB.out.drew
        have KD := Lib.hid (HK.out.keep (Below.refl wr.heap.size wr).drew)
        go_region_with (first
          | (go_at_call 16; (with_reducible refine (HRf.out _ BD.out).mono ?_); rintro e w5 ⟨rfl, bb⟩; have B5 := Lib.hid (bel_trans BD.out bb); have d0 : w5.cell? ⟨g, 0, none⟩ = some (.int .i64 b.ab) := (KD.out.keep bb).cell 0; have d1 : w5.cell? ⟨g, 1, none⟩ = some (.int .i64 b.be) := (KD.out.keep bb).cell 1; clear bb)
          | (go_at_call 9; (with_reducible refine (HH.out _).mono ?_); rintro e w9 ⟨rfl, bb⟩; have B9 := Lib.hid (bel_trans B5.out bb); clear bb))
        all_goals go_wp2
        all_goals go_ret
        all_goals exact ⟨rfl, B9.out⟩
  · have q0 : decide ((300 : Int) < (n : Int)) = true := decide_eq_true (by omega)
    clear hr
    go_enter Try.func6, Try.ntmps6
    go_wp2_with (go_at_call 9; (with_reducible refine (HH.out _).mono ?_); rintro e w9 ⟨rfl, b⟩; have T6 := Lib.hid b; clear b)
    go_ret
    exact ⟨rfl, T6.out⟩
end Go.Proofs.Ytglomkpnbdnnoaa.Flex

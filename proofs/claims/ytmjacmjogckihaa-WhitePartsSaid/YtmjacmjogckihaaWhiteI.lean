/- Chapter 8: the reference's small functions on characters, walked. No condition but bounds. -/
import Derived.Test.YtmjacmjogckihaaWhiteG
namespace Go.Proofs.Ytmjacmjogckihaa.White
open Go.RowKit
set_option linter.unusedVariables false
set_option linter.unusedSimpArgs false
def enC (c : Cr) : Bool := isT c 10 || isT c 13
def whC (ss : List St) (c : Cr) : Bool := foldW (whOf ss c.node) && (isT c 32 || isT c 9)
def sfC (ss : List St) (c : Cr) : Bool := enC c && (decide (whOf ss c.node = 0) || decide (whOf ss c.node = 1))
def wdC (c : Cr) : Bool := decide (c.kind = 0) && (!enC c && Class.wideB c.r)
set_option maxHeartbeats 1000000 in
theorem is_any (m : Cr) (r : Int) (w : World) : Calls Try.prog 56 #[crV m, .int .i32 r] w fun e w' => e = .returned (.bool (isT m r)) ∧ Below w.heap.size w w' := by
  obtain ⟨r0, nd, p, n, k⟩ := m
  have HB := Lib.hid (bel_alloc (Below.refl w.heap.size w) (.cells #[.int .i32 r0, .int .i64 nd, .int .i64 p, .int .i64 n, .int .u8 k] 38))
  by_cases g1 : k = 0
  · subst g1
    by_cases g2 : r0 = r
    · have q2 : (r0 == r) = true := by simpa using g2
      have HE := Lib.hid (show isT ⟨r0, nd, p, n, 0⟩ r = true by unfold isT; rw [decide_eq_true g2]; rfl)
      clear g2
      go_enter Try.func56, Try.ntmps56
      go_wp2
      go_ret
      exact ⟨by rw [HE.out]; rfl, HB.out⟩
    · have q2 : (r0 == r) = false := by simpa using g2
      have HE := Lib.hid (show isT ⟨r0, nd, p, n, 0⟩ r = false by unfold isT; rw [decide_eq_false g2]; rfl)
      clear g2
      go_enter Try.func56, Try.ntmps56
      go_wp2
      go_ret
      exact ⟨by rw [HE.out]; rfl, HB.out⟩
  · have q1 : (k == 0) = false := by simpa using g1
    have HE := Lib.hid (show isT ⟨r0, nd, p, n, k⟩ r = false by unfold isT; rw [decide_eq_false g1]; rfl)
    clear g1
    go_enter Try.func56, Try.ntmps56
    go_wp2
    go_ret
    exact ⟨by rw [HE.out]; rfl, HB.out⟩
/-- A character's box. -/
abbrev crA (c : Cr) : Array Value := #[.int .i32 c.r, .int .i64 c.node, .int .i64 c.p, .int .i64 c.n, .int .u8 c.kind]
set_option maxHeartbeats 1000000 in
theorem End_any (m : Cr) (w : World) : Calls Try.prog 59 #[crV m] w fun e w' => e = .returned (.bool (enC m)) ∧ Below w.heap.size w w' := by
  have H1 := Lib.hid (fun W => is_any m 10 W)
  have H2 := Lib.hid (fun W => is_any m 13 W)
  obtain ⟨a, ha⟩ : ∃ a, isT m 10 = a := ⟨_, rfl⟩
  obtain ⟨b, hb⟩ : ∃ b, isT m 13 = b := ⟨_, rfl⟩
  have HE := Lib.hid (show enC m = (a || b) by unfold enC; rw [ha, hb])
  rw [ha] at H1
  rw [hb] at H2
  clear ha hb
  obtain ⟨r0, nd, p, n, k⟩ := m
  have HB := Lib.hid (bel_alloc (Below.refl w.heap.size w) (.cells #[.int .i32 r0, .int .i64 nd, .int .i64 p, .int .i64 n, .int .u8 k] 38))
  have HK := Lib.hid (Blk.new w 38 #[.int .i32 r0, .int .i64 nd, .int .i64 p, .int .i64 n, .int .u8 k])
  cases a <;> cases b
  all_goals
    go_enter Try.func59, Try.ntmps59
    go_wp2_with (first
      | (go_at_call 56; (with_reducible refine (H1.out _).mono ?_); rintro e w1 ⟨rfl, b1⟩; have K1 := HK.out.keep b1; have e0 := K1.cell 0; have e1 := K1.cell 1; have e2 := K1.cell 2; have e3 := K1.cell 3; have e4 := K1.cell 4; have B1 := Lib.hid (bel_trans HB.out b1); clear b1 K1)
      | (go_at_call 56; (with_reducible refine (H2.out _).mono ?_); rintro e w2 ⟨rfl, b2⟩; have B2 := Lib.hid (bel_trans B1.out b2); clear b2))
    go_ret
    exact ⟨by rw [HE.out]; rfl, by first | exact B2.out | exact B1.out | exact HB.out⟩
set_option maxHeartbeats 1000000 in
theorem rwide_any (m : Cr) (w : World) : Calls Try.prog 67 #[crV m] w fun e w' => e = .returned (.bool (wdC m)) ∧ Below w.heap.size w w' := by
  have H1 := Lib.hid (fun W => End_any m W)
  have H2 := Lib.hid (fun W => Class.refWide_any m.r W)
  obtain ⟨a, ha⟩ : ∃ a, enC m = a := ⟨_, rfl⟩
  obtain ⟨b, hb⟩ : ∃ b, Class.wideB m.r = b := ⟨_, rfl⟩
  have HE := Lib.hid (show wdC m = (decide (m.kind = 0) && (!a && b)) by unfold wdC; rw [ha, hb])
  rw [ha] at H1
  rw [hb] at H2
  clear ha hb
  obtain ⟨r0, nd, p, n, k⟩ := m
  simp only at H2 HE
  have HB := Lib.hid (bel_alloc (Below.refl w.heap.size w) (.cells #[.int .i32 r0, .int .i64 nd, .int .i64 p, .int .i64 n, .int .u8 k] 38))
  have HK := Lib.hid (Blk.new w 38 #[.int .i32 r0, .int .i64 nd, .int .i64 p, .int .i64 n, .int .u8 k])
  by_cases g1 : k = 0
  · subst g1
    cases a
    all_goals
      go_enter Try.func67, Try.ntmps67
      go_wp2_with (first
        | (go_at_call 59; (with_reducible refine (H1.out _).mono ?_); rintro e w1 ⟨rfl, b1⟩; have K1 := HK.out.keep b1; have e0 := K1.cell 0; have e1 := K1.cell 1; have e2 := K1.cell 2; have e3 := K1.cell 3; have e4 := K1.cell 4; have B1 := Lib.hid (bel_trans HB.out b1); clear b1 K1)
        | (go_at_call 71; (with_reducible refine (H2.out _).mono ?_); rintro e w2 ⟨rfl, b2⟩; have B2 := Lib.hid (bel_trans B1.out b2); clear b2))
      go_ret
      exact ⟨by rw [HE.out]; rfl, by first | exact B2.out | exact B1.out | exact HB.out⟩
  · have q1 : (k == 0) = false := by simpa using g1
    have HE2 := Lib.hid (show wdC ⟨r0, nd, p, n, k⟩ = false by rw [HE.out, decide_eq_false g1]; rfl)
    clear g1
    go_enter Try.func67, Try.ntmps67
    go_wp2
    go_ret
    exact ⟨by rw [HE2.out]; rfl, HB.out⟩
theorem styleAt {W : World} {B nS : Nat} {AS : Option Addr} {ss : List St} (hr : Reads W B 9 AS nS (stL ss)) {node : Int} (h0 : 0 ≤ node) (h1 : node < (nS : Int)) :
    ∃ (nd : Nat) (ad : Addr) (s : St), node = nd ∧ nd < nS ∧ AS = some ad ∧ ad.block < B ∧ whOf ss node = s.white ∧ CellS W (ad.add (nd * 9)) s := by
  obtain ⟨nd, rfl⟩ : ∃ nd : Nat, node = nd := ⟨node.toNat, by omega⟩
  obtain ⟨ad, s, e, hb, hs, hc⟩ := reads_st hr (show nd < nS by omega)
  exact ⟨nd, ad, s, rfl, by omega, e, hb, whOf_at hs, hc⟩
theorem cellS_keep {w w' : World} {B : Nat} {a : Addr} {m : St} (h : CellS w a m) (hb : Below B w w') (ha : a.block < B) : CellS w' a m :=
  ⟨(hb.cell ha).trans h.c0, (hb.cell (p := ⟨a.block, a.off + 1, none⟩) ha).trans h.c1, (hb.cell (p := ⟨a.block, a.off + 2, none⟩) ha).trans h.c2, (hb.cell (p := ⟨a.block, a.off + 3, none⟩) ha).trans h.c3, (hb.cell (p := ⟨a.block, a.off + 4, none⟩) ha).trans h.c4,
    (hb.cell (p := ⟨a.block, a.off + 5, none⟩) ha).trans h.c5, (hb.cell (p := ⟨a.block, a.off + 6, none⟩) ha).trans h.c6, (hb.cell (p := ⟨a.block, a.off + 7, none⟩) ha).trans h.c7, (hb.cell (p := ⟨a.block, a.off + 8, none⟩) ha).trans h.c8⟩
set_option maxHeartbeats 2000000 in
theorem rwhite_any (m : Cr) (AS : Option Addr) (nS cS : Nat) (ss : List St) (h0 : 0 ≤ m.node) (h1 : m.node < (nS : Int)) (w : World) (hr : Reads w w.heap.size 9 AS nS (stL ss)) :
    Calls Try.prog 55 #[crV m, .slice AS nS cS] w fun e w' => e = .returned (.bool (whC ss m)) ∧ Below w.heap.size w w' := by
  have H1 := Lib.hid (fun W => is_any m 32 W)
  have H2 := Lib.hid (fun W => is_any m 9 W)
  obtain ⟨a, ha⟩ : ∃ a, isT m 32 = a := ⟨_, rfl⟩
  obtain ⟨b, hb⟩ : ∃ b, isT m 9 = b := ⟨_, rfl⟩
  obtain ⟨nd, ad, s, hnd, hlt, rfl, hbS, hwh, cc⟩ := styleAt hr h0 h1
  have H3 := Lib.hid (fun W => refCollapses_any s W)
  obtain ⟨f, hf⟩ : ∃ f, foldW s.white = f := ⟨_, rfl⟩
  have HE := Lib.hid (show whC ss m = (f && (a || b)) by unfold whC; rw [ha, hb, hwh, hf])
  rw [ha] at H1
  rw [hb] at H2
  rw [hf] at H3
  clear ha hb hf hwh
  obtain ⟨r0, node, p, n, k⟩ := m
  simp only at hnd h0 h1
  subst hnd
  have HB := Lib.hid (bel_alloc (Below.refl w.heap.size w) (.cells #[.int .i32 r0, .int .i64 (nd : Int), .int .i64 p, .int .i64 n, .int .u8 k] 38))
  have HK := Lib.hid (Blk.new w 38 #[.int .i32 r0, .int .i64 (nd : Int), .int .i64 p, .int .i64 n, .int .u8 k])
  obtain ⟨x0, x1, x2, x3, x4, x5, x6, x7, x8⟩ := cellS_keep cc HB.out (by rw [block_of_add]; exact hbS)
  obtain ⟨y0, y1, y2, y3, y4, y5, y6, y7, y8⟩ := cc
  obtain ⟨s0, s1, s2, s3, s4, s5, s6, s7, s8⟩ := s
  simp only at x0 x1 x2 x3 x4 x5 x6 x7 x8 y0 y1 y2 y3 y4 y5 y6 y7 y8
  clear hr
  cases f <;> cases a
  all_goals
    go_enter Try.func55, Try.ntmps55
    go_wp2_with (first
      | (go_at_call 13; (with_reducible refine (H3.out _).mono ?_); rintro e w0 ⟨rfl, b0⟩; have K0 := HK.out.keep b0; have f0 := K0.cell 0; have f1 := K0.cell 1; have f2 := K0.cell 2; have f3 := K0.cell 3; have f4 := K0.cell 4; have K0 := Lib.hid K0; have B0 := Lib.hid (bel_trans HB.out b0); clear b0)
      | (go_at_call 56; (with_reducible refine (H1.out _).mono ?_); rintro e w1 ⟨rfl, b1⟩; have K1 := K0.out.keep b1; have e0 := K1.cell 0; have e1 := K1.cell 1; have e2 := K1.cell 2; have e3 := K1.cell 3; have e4 := K1.cell 4; have B1 := Lib.hid (bel_trans B0.out b1); clear b1 K1)
      | (go_at_call 56; (with_reducible refine (H2.out _).mono ?_); rintro e w2 ⟨rfl, b2⟩; have B2 := Lib.hid (bel_trans B1.out b2); clear b2))
    go_ret
    exact ⟨by rw [HE.out]; rfl, by first | exact B2.out | exact B1.out | exact B0.out⟩
set_option maxHeartbeats 2000000 in
theorem rsoft_any (m : Cr) (AS : Option Addr) (nS cS : Nat) (ss : List St) (h0 : 0 ≤ m.node) (h1 : m.node < (nS : Int)) (w : World) (hr : Reads w w.heap.size 9 AS nS (stL ss)) :
    Calls Try.prog 57 #[crV m, .slice AS nS cS] w fun e w' => e = .returned (.bool (sfC ss m)) ∧ Below w.heap.size w w' := by
  have H1 := Lib.hid (fun W => End_any m W)
  obtain ⟨a, ha⟩ : ∃ a, enC m = a := ⟨_, rfl⟩
  obtain ⟨nd, ad, s, hnd, hlt, rfl, hbS, hwh, cc⟩ := styleAt hr h0 h1
  have HE := Lib.hid (show sfC ss m = (a && (decide (s.white = 0) || decide (s.white = 1))) by unfold sfC; rw [ha, hwh])
  rw [ha] at H1
  clear ha hwh
  obtain ⟨r0, node, p, n, k⟩ := m
  simp only at hnd h0 h1
  subst hnd
  have HB := Lib.hid (bel_alloc (Below.refl w.heap.size w) (.cells #[.int .i32 r0, .int .i64 (nd : Int), .int .i64 p, .int .i64 n, .int .u8 k] 38))
  have HK := Lib.hid (Blk.new w 38 #[.int .i32 r0, .int .i64 (nd : Int), .int .i64 p, .int .i64 n, .int .u8 k])
  have HC := Lib.hid (fun (V : World) (hV : Below w.heap.size w V) => (cellS_keep cc hV (by rw [block_of_add]; exact hbS)).c0)
  obtain ⟨s0, s1, s2, s3, s4, s5, s6, s7, s8⟩ := s
  simp only at HC HE
  clear hr cc
  rcases (show (a = false) ∨ (a = true ∧ s0 = 0) ∨ (a = true ∧ s0 = 1) ∨ (a = true ∧ ¬ s0 = 0 ∧ ¬ s0 = 1) by cases a <;> simp <;> omega) with rfl | ⟨rfl, rfl⟩ | ⟨rfl, rfl⟩ | ⟨rfl, g0, g1⟩
  · have HE2 := Lib.hid (show sfC ss ⟨r0, (nd : Int), p, n, k⟩ = false by rw [HE.out]; rfl)
    go_enter Try.func57, Try.ntmps57
    go_wp2_with (go_at_call 59; (with_reducible refine (H1.out _).mono ?_); rintro e w1 ⟨rfl, b1⟩; have B1 := Lib.hid (bel_trans HB.out b1); clear b1)
    go_ret
    exact ⟨by rw [HE2.out]; rfl, B1.out⟩
  · have HE2 := Lib.hid (show sfC ss ⟨r0, (nd : Int), p, n, k⟩ = true by rw [HE.out]; rfl)
    go_enter Try.func57, Try.ntmps57
    go_wp2_with (go_at_call 59; (with_reducible refine (H1.out _).mono ?_); rintro e w1 ⟨rfl, b1⟩; have K1 := HK.out.keep b1; have e0 := K1.cell 0; have e1 := K1.cell 1; have e2 := K1.cell 2; have e3 := K1.cell 3; have e4 := K1.cell 4; have B1 := Lib.hid (bel_trans HB.out b1); have y0 := HC.out _ B1.out; clear b1 K1)
    go_ret
    exact ⟨by rw [HE2.out]; rfl, B1.out⟩
  · have HE2 := Lib.hid (show sfC ss ⟨r0, (nd : Int), p, n, k⟩ = true by rw [HE.out]; rfl)
    go_enter Try.func57, Try.ntmps57
    go_wp2_with (go_at_call 59; (with_reducible refine (H1.out _).mono ?_); rintro e w1 ⟨rfl, b1⟩; have K1 := HK.out.keep b1; have e0 := K1.cell 0; have e1 := K1.cell 1; have e2 := K1.cell 2; have e3 := K1.cell 3; have e4 := K1.cell 4; have B1 := Lib.hid (bel_trans HB.out b1); have y0 := HC.out _ B1.out; clear b1 K1)
    go_ret
    exact ⟨by rw [HE2.out]; rfl, B1.out⟩
  · have HE2 := Lib.hid (show sfC ss ⟨r0, (nd : Int), p, n, k⟩ = false by rw [HE.out, decide_eq_false g0, decide_eq_false g1]; rfl)
    have q0 : (s0 == 0) = false := by simpa using g0
    have q1 : (s0 == 1) = false := by simpa using g1
    clear g0 g1
    go_enter Try.func57, Try.ntmps57
    go_wp2_with (go_at_call 59; (with_reducible refine (H1.out _).mono ?_); rintro e w1 ⟨rfl, b1⟩; have K1 := HK.out.keep b1; have e0 := K1.cell 0; have e1 := K1.cell 1; have e2 := K1.cell 2; have e3 := K1.cell 3; have e4 := K1.cell 4; have B1 := Lib.hid (bel_trans HB.out b1); have y0 := HC.out _ B1.out; clear b1 K1)
    go_ret
    exact ⟨by rw [HE2.out]; rfl, B1.out⟩
end Go.Proofs.Ytmjacmjogckihaa.White

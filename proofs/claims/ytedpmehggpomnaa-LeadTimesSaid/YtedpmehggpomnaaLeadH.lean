/- Chapter 18: a line's height: the program's and the reference's, walked. No condition but bounds. -/
import Derived.Test.YtedpmehggpomnaaLeadT
namespace Go.Proofs.Ytedpmehggpomnaa.Lead
open Go.RowKit Go.Proofs.Ytedpmehggpomnaa.Unit Go.Proofs.Ytedpmehggpomnaa.Font
set_option linter.unusedVariables false

theorem atL_rng (n size : Int) : 0 ≤ atV n size ∧ atV n size ≤ 8589934592 := by
  by_cases h : mayF n = true ∧ 0 ≤ size ∧ size ≤ 1073741824
  · obtain ⟨h1, h2, h3⟩ := h
    rw [atV_in h1 h2 h3]
    obtain ⟨n0, n1⟩ := mayF_parts h1
    have q0 := Int.mul_nonneg n0 h2
    have q1 := Int.mul_le_mul n1 h3 h2 (by omega)
    have a1 := rnd_mono (0 * 1024) (n * size) 1024 (by omega) (by omega)
    have a2 := rnd_mono (n * size) (8589934592 * 1024) 1024 (by omega) (by omega)
    rw [rnd_self _ _ (by omega)] at a1 a2
    exact ⟨a1, a2⟩
  · rw [atV_out (by cases e : mayF n <;> simp_all <;> omega)]
    omega
theorem rndL_rng (ht sz : Int) (h0 : 0 ≤ ht) (h1 : ht ≤ 1073741824) (s0 : 0 ≤ sz) (s1 : sz ≤ 1073741824) : 0 ≤ rnd (ht * sz) 64 ∧ rnd (ht * sz) 64 ≤ 18014398509481984 := by
  have q0 := Int.mul_nonneg h0 s0
  have q1 := Int.mul_le_mul h1 s1 s0 (by omega)
  have a1 := rnd_mono (0 * 64) (ht * sz) 64 (by omega) (by omega)
  have a2 := rnd_mono (ht * sz) (18014398509481984 * 64) 64 (by omega) (by omega)
  rw [rnd_self _ _ (by omega)] at a1 a2
  exact ⟨a1, a2⟩
/-- A line's height. -/
def htV (a d g sz hk ht : Int) : Int := if hk = 1 then rnd (ht * sz) 64 else if hk = 2 then ht else atV a sz + atV d sz + atV g sz
theorem htV_rng (a d g sz hk ht : Int) (h0 : 0 ≤ ht) (h1 : ht ≤ 1073741824) (s0 : 0 ≤ sz) (s1 : sz ≤ 1073741824) : 0 ≤ htV a d g sz hk ht ∧ htV a d g sz hk ht ≤ 18014398509481984 := by
  have h2 := atL_rng a sz
  have h3 := atL_rng d sz
  have h4 := atL_rng g sz
  have h5 := rndL_rng ht sz h0 h1 s0 s1
  unfold htV
  split
  · exact h5
  · split <;> omega
/-- A font and a style lie in boxes, beside them two blocks. -/
structure LB (w : World) (F S : Nat) (fc sc : Array Value) (B : Nat) (bt : TypeId) (bc : Array Value) (R : Nat) (rt : TypeId) (rc : Array Value) (W : World) : Prop where
  m : LS w F S fc sc W
  b : Blk W B bt bc
  r : Blk W R rt rc
section
variable {w W W' : World} {F S B R : Nat} {fc sc bc rc : Array Value} {bt rt : TypeId} {a d g x o : Int} {A : Option Addr} {n c : Nat} {wh wo wr li tb fo sz hk ht u v : Int}
theorem LB.keep (h : LB w F S fc sc B bt bc R rt rc W) (hb : Below W.heap.size W W') : LB w F S fc sc B bt bc R rt rc W' := ⟨h.m.keep hb, h.b.keep hb, h.r.keep hb⟩
theorem LB.drew (h : LB w F S fc sc B bt bc R rt rc W) : LB w F S fc sc B bt bc R rt rc W.drew := ⟨h.m.drew, h.b.drew, h.r.drew⟩
theorem LB.cells (h : LB w F S (fontC a d g x o A n c) (styC wh wo wr li tb fo sz hk ht) B bt (boxC u v) R rt rc W) : FS F S a d g x o A n c wh wo wr li tb fo sz hk ht W ∧ W.cell? ⟨B, 0, none⟩ = some (.int .i64 u) ∧ W.cell? ⟨B, 1, none⟩ = some (.int .i64 v) ∧ LB w F S (fontC a d g x o A n c) (styC wh wo wr li tb fo sz hk ht) B bt (boxC u v) R rt rc W := ⟨h.m.cells, h.b.cell 0, h.b.cell 1, h⟩
theorem lb_of {p0 p1 p2 : Prop} (h : p0 ∧ p1 ∧ p2 ∧ LB w F S fc sc B bt bc R rt rc W) : LB w F S fc sc B bt bc R rt rc W := h.2.2.2
theorem lb_keep {p0 p1 p2 : Prop} (hb : Below W.heap.size W W') (h : p0 ∧ p1 ∧ p2 ∧ LB w F S (fontC a d g x o A n c) (styC wh wo wr li tb fo sz hk ht) B bt (boxC u v) R rt rc W) : FS F S a d g x o A n c wh wo wr li tb fo sz hk ht W' ∧ W'.cell? ⟨B, 0, none⟩ = some (.int .i64 u) ∧ W'.cell? ⟨B, 1, none⟩ = some (.int .i64 v) ∧ LB w F S (fontC a d g x o A n c) (styC wh wo wr li tb fo sz hk ht) B bt (boxC u v) R rt rc W' := ((lb_of h).keep hb).cells
theorem ls_keep {p0 : Prop} (hb : Below W.heap.size W W') (h : p0 ∧ LS w F S (fontC a d g x o A n c) (styC wh wo wr li tb fo sz hk ht) W) : FS F S a d g x o A n c wh wo wr li tb fo sz hk ht W' ∧ LS w F S (fontC a d g x o A n c) (styC wh wo wr li tb fo sz hk ht) W' := ⟨(h.2.keep hb).cells, h.2.keep hb⟩
end

section
variable (a d g x o : Int) (A : Option Addr) (n c : Nat) (wh wo wr li tb fo sz hk ht : Int) (w : World)
set_option maxHeartbeats 4000000 in
set_option maxRecDepth 100000 in
theorem height_any (h0 : 0 ≤ ht) (h1 : ht ≤ 1073741824) (s0 : 0 ≤ sz) (s1 : sz ≤ 1073741824) : Calls Try.prog 23 #[fontV a d g x o A n c, styV wh wo wr li tb fo sz hk ht] w fun e w' => e = .returned (.int .i64 (htV a d g sz hk ht)) ∧ Below w.heap.size w w' := by
  rcases (show hk = 1 ∨ hk = 2 ∨ (hk ≠ 1 ∧ hk ≠ 2) by omega) with rfl | rfl | ⟨g1, g2⟩
  · have HV := Lib.hid (show htV a d g sz 1 ht = rnd (ht * sz) 64 by simp [htV])
    have C := Lib.hid (scale_in ht sz 64 (by omega) (by omega) (by omega) (by omega) (by omega) (by omega)).1
    generalize rnd (ht * sz) 64 = z at C HV
    go_enter Try.func23, Try.ntmps23
    go_wp2_with (go_at_call 39; ((with_reducible refine (C.out _).mono ?_); rintro e w3 ⟨rfl, ⟨m3, rfl⟩⟩))
    go_ret
    exact ⟨ret_int HV.out.symm, by repeat (first | exact Below.refl _ _ | refine bel_alloc ?_ _ | refine bel_drewN ?_ _)⟩
  · have HV := Lib.hid (show htV a d g sz 2 ht = ht by simp [htV])
    go_enter Try.func23, Try.ntmps23
    go_wp2
    go_ret
    exact ⟨ret_int HV.out.symm, by repeat (first | exact Below.refl _ _ | refine bel_alloc ?_ _ | refine bel_drewN ?_ _)⟩
  · have HV := Lib.hid (show htV a d g sz hk ht = atV a sz + atV d sz + atV g sz by simp [htV, g1, g2])
    have b1 : (hk == 1) = false := by simpa using g1
    have b2 : (hk == 2) = false := by simpa using g2
    have b3 : decide (hk = 1) = false := decide_eq_false g1
    have b4 : decide (hk = 2) = false := decide_eq_false g2
    have M := Lib.hid (LS.new (w := w) (fc := fontC a d g x o A n c) (sc := styC wh wo wr li tb fo sz hk ht))
    have H1 := Lib.hid (fun W => text_any a d g x o A n c wh wo wr li tb fo sz hk ht W)
    have H2 := Lib.hid (fun W => gap_any a d g x o A n c sz W)
    obtain ⟨u0, u1⟩ := atL_rng a sz
    obtain ⟨v0, v1⟩ := atL_rng d sz
    obtain ⟨z0, z1⟩ := atL_rng g sz
    generalize atV a sz = u at *
    generalize atV d sz = v at *
    generalize atV g sz = z at *
    have e1 : IntKind.i64.wrap (u + v) = u + v := by rw [IntKind.wrap_i64]; omega
    have e2 : IntKind.i64.wrap (u + v + z) = u + v + z := by rw [IntKind.wrap_i64]; omega
    go_enter Try.func23, Try.ntmps23
    go_wp2_with (go_at_call 21; refine (H1.out _).mono ?_; rintro e w1 ⟨rfl, hb1⟩)
    have C0 := (show LB w w.heap.size (w.heap.size + 1) (fontC a d g x o A n c) (styC wh wo wr li tb fo sz hk ht) w1.heap.size 30 (boxC u v) w1.heap.size 30 (boxC u v) (w1.alloc (.cells (boxC u v) 30)) from ⟨(M.out.keep hb1).alloc _, Blk.new _ _ _, Blk.new _ _ _⟩).drew.cells
    go_region_held3 (fun w' => (w'.cell? ⟨w.heap.size, 0, none⟩ = some (.int .i64 a) ∧ w'.cell? ⟨w.heap.size, 1, none⟩ = some (.int .i64 d) ∧ w'.cell? ⟨w.heap.size, 2, none⟩ = some (.int .i64 g) ∧ w'.cell? ⟨w.heap.size, 3, none⟩ = some (.int .i64 x) ∧ w'.cell? ⟨w.heap.size, 4, none⟩ = some (.int .i64 o) ∧ w'.cell? ⟨w.heap.size, 5, none⟩ = some (.slice A n c) ∧ w'.cell? ⟨w.heap.size + 1, 0, none⟩ = some (.int .u8 wh) ∧ w'.cell? ⟨w.heap.size + 1, 1, none⟩ = some (.int .u8 wo) ∧ w'.cell? ⟨w.heap.size + 1, 2, none⟩ = some (.int .u8 wr) ∧ w'.cell? ⟨w.heap.size + 1, 3, none⟩ = some (.int .u8 li) ∧ w'.cell? ⟨w.heap.size + 1, 4, none⟩ = some (.int .i64 tb) ∧ w'.cell? ⟨w.heap.size + 1, 5, none⟩ = some (.int .i64 fo) ∧ w'.cell? ⟨w.heap.size + 1, 6, none⟩ = some (.int .i64 sz) ∧ w'.cell? ⟨w.heap.size + 1, 7, none⟩ = some (.int .u8 hk) ∧ w'.cell? ⟨w.heap.size + 1, 8, none⟩ = some (.int .i64 ht)) ∧ w'.cell? ⟨w1.heap.size, 0, none⟩ = some (.int .i64 u) ∧ w'.cell? ⟨w1.heap.size, 1, none⟩ = some (.int .i64 v) ∧ LB w w.heap.size (w.heap.size + 1) (fontC a d g x o A n c) (styC wh wo wr li tb fo sz hk ht) w1.heap.size 30 (boxC u v) w1.heap.size 30 (boxC u v) w')
      (first | exact C0 | exact lb_keep (by assumption) (by assumption) | go_keep)
      (first
      | (go_at_call 40; refine (H2.out _).mono ?_; rintro e w2 ⟨rfl, hb2⟩))
    go_wp2
    go_ret
    exact ⟨ret_int HV.out.symm, (lb_of (by assumption)).m.bel⟩
set_option maxHeartbeats 4000000 in
set_option maxRecDepth 100000 in
theorem rheight_any (h0 : 0 ≤ ht) (h1 : ht ≤ 1073741824) (s0 : 0 ≤ sz) (s1 : sz ≤ 1073741824) : Calls Try.prog 15 #[fontV a d g x o A n c, styV wh wo wr li tb fo sz hk ht] w fun e w' => e = .returned (.int .i64 (htV a d g sz hk ht)) ∧ Below w.heap.size w w' := by
  have M := Lib.hid (LS.new (w := w) (fc := fontC a d g x o A n c) (sc := styC wh wo wr li tb fo sz hk ht))
  rcases (show hk = 1 ∨ hk = 2 ∨ (hk ≠ 1 ∧ hk ≠ 2) by omega) with rfl | rfl | ⟨g1, g2⟩
  · have HV := Lib.hid (show htV a d g sz 1 ht = rnd (ht * sz) 64 by simp [htV])
    have C := Lib.hid (scale_in ht sz 64 (by omega) (by omega) (by omega) (by omega) (by omega) (by omega)).2
    generalize rnd (ht * sz) 64 = z at C HV
    go_enter Try.func15, Try.ntmps15
    go_wp2_with (go_at_call 32; ((with_reducible refine (C.out _).mono ?_); rintro e w3 ⟨rfl, hb3⟩))
    go_ret
    exact ⟨ret_int HV.out.symm, bel_trans M.out.bel hb3⟩
  · have HV := Lib.hid (show htV a d g sz 2 ht = ht by simp [htV])
    go_enter Try.func15, Try.ntmps15
    go_wp2
    go_ret
    exact ⟨ret_int HV.out.symm, M.out.bel⟩
  · have HV := Lib.hid (show htV a d g sz hk ht = atV a sz + atV d sz + atV g sz by simp [htV, g1, g2])
    have b1 : (hk == 1) = false := by simpa using g1
    have b2 : (hk == 2) = false := by simpa using g2
    have b3 : decide (hk = 1) = false := decide_eq_false g1
    have b4 : decide (hk = 2) = false := decide_eq_false g2
    have H1 := Lib.hid (fun W => refAt_any a sz W)
    have H2 := Lib.hid (fun W => refAt_any d sz W)
    have H3 := Lib.hid (fun W => refAt_any g sz W)
    obtain ⟨u0, u1⟩ := atL_rng a sz
    obtain ⟨v0, v1⟩ := atL_rng d sz
    obtain ⟨z0, z1⟩ := atL_rng g sz
    generalize atV a sz = u at *
    generalize atV d sz = v at *
    generalize atV g sz = z at *
    have e1 : IntKind.i64.wrap (u + v) = u + v := by rw [IntKind.wrap_i64]; omega
    have e2 : IntKind.i64.wrap (u + v + z) = u + v + z := by rw [IntKind.wrap_i64]; omega
    have C0 := And.intro M.out.drew.cells M.out.drew
    go_enter Try.func15, Try.ntmps15
    go_wp2
    go_region_held3 (fun w' => (w'.cell? ⟨w.heap.size, 0, none⟩ = some (.int .i64 a) ∧ w'.cell? ⟨w.heap.size, 1, none⟩ = some (.int .i64 d) ∧ w'.cell? ⟨w.heap.size, 2, none⟩ = some (.int .i64 g) ∧ w'.cell? ⟨w.heap.size, 3, none⟩ = some (.int .i64 x) ∧ w'.cell? ⟨w.heap.size, 4, none⟩ = some (.int .i64 o) ∧ w'.cell? ⟨w.heap.size, 5, none⟩ = some (.slice A n c) ∧ w'.cell? ⟨w.heap.size + 1, 0, none⟩ = some (.int .u8 wh) ∧ w'.cell? ⟨w.heap.size + 1, 1, none⟩ = some (.int .u8 wo) ∧ w'.cell? ⟨w.heap.size + 1, 2, none⟩ = some (.int .u8 wr) ∧ w'.cell? ⟨w.heap.size + 1, 3, none⟩ = some (.int .u8 li) ∧ w'.cell? ⟨w.heap.size + 1, 4, none⟩ = some (.int .i64 tb) ∧ w'.cell? ⟨w.heap.size + 1, 5, none⟩ = some (.int .i64 fo) ∧ w'.cell? ⟨w.heap.size + 1, 6, none⟩ = some (.int .i64 sz) ∧ w'.cell? ⟨w.heap.size + 1, 7, none⟩ = some (.int .u8 hk) ∧ w'.cell? ⟨w.heap.size + 1, 8, none⟩ = some (.int .i64 ht)) ∧ LS w w.heap.size (w.heap.size + 1) (fontC a d g x o A n c) (styC wh wo wr li tb fo sz hk ht) w')
      (first | exact C0 | exact ls_keep (by assumption) (by assumption) | go_keep)
      (first
      | (go_at_call 17; ((with_reducible refine (H1.out _).mono ?_); rintro e w1 ⟨rfl, hb1⟩))
      | (go_at_call 17; ((with_reducible refine (H2.out _).mono ?_); rintro e w1 ⟨rfl, hb1⟩))
      | (go_at_call 17; ((with_reducible refine (H3.out _).mono ?_); rintro e w1 ⟨rfl, hb1⟩)))
    go_wp2
    go_ret
    exact ⟨ret_int HV.out.symm, (And.right (by assumption : _ ∧ LS w w.heap.size (w.heap.size + 1) (fontC a d g x o A n c) (styC wh wo wr li tb fo sz hk ht) w1)).bel⟩
end
end Go.Proofs.Ytedpmehggpomnaa.Lead

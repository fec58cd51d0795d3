/- Chapter 19: ShiftStands, walked: it returns true, for every input. No condition. -/
import Derived.Test.YtdjbcbdgcejcmaaShiftL
import Derived.Test.YtdjbcbdgcejcmaaShiftS
namespace Go.Proofs.Ytdjbcbdgcejcmaa.Unit
open Go.RowKit Go.Proofs.Ytdjbcbdgcejcmaa.Div Go.Great
set_option linter.unusedVariables false
set_option linter.unusedSimpArgs false

theorem open_ist {act : Act} {W0 : World} {p0 q0 p1 q1 p2 q2 : Int} {c0 c1 c2 a0 a1 a2 s0 s1 s2 : Bool} {a : Act} {V : World} (h : Ist (Fof act) W0 p0 q0 p1 q1 p2 q2 (ltab c0 c1 c2 a0 a1 a2 s0 s1 s2) a V) :
    ∃ (v0 v1 v2 r0 r1 r2 : Value) (g0 g1 g2 : Nat), a = Fof act v0 v1 v2 r0 r1 r2 ∧
    (c0 = true → r0 = boxV p0 q0) ∧ (c1 = true → r1 = boxV p1 q1) ∧ (c2 = true → r2 = boxV p2 q2) ∧
    Cel W0 V a0 s0 v0 g0 p0 q0 ∧ Cel W0 V a1 s1 v1 g1 p1 q1 ∧ Cel W0 V a2 s2 v2 g2 p2 q2 ∧ (s0 = true → a0 = true) ∧ (s1 = true → a1 = true) ∧ (s2 = true → a2 = true) ∧
    (a0 = true → a1 = true → g0 ≠ g1) ∧ (a0 = true → a2 = true → g0 ≠ g2) ∧ (a1 = true → a2 = true → g1 ≠ g2) ∧ Below W0.heap.size W0 V := by
  obtain ⟨c0', c1', c2', a0', a1', a2', s0', s1', s2', v0, v1, v2, r0, r1, r2, g0, g1, g2, hL, rest⟩ := h
  simp only [ltab, Array.mk.injEq, List.cons.injEq, true_and, and_true] at hL
  obtain ⟨rfl, rfl, rfl, rfl, rfl, rfl, rfl, rfl, rfl⟩ := hL
  exact ⟨v0, v1, v2, r0, r1, r2, g0, g1, g2, rest⟩
theorem stored_bel (w : World) (u v : Int) : Below w.heap.size w (((w.alloc (.cells #[.int .i64 0, .int .i64 0] 25)).setCell ⟨w.heap.size, 0, none⟩ (.int .i64 u)).setCell ⟨w.heap.size, 1, none⟩ (.int .i64 v)) :=
  ((bel_alloc (Below.refl _ _) _).setCell (Nat.le_refl _) _).setCell (Nat.le_refl _) _
theorem stored_blk (w : World) (u v : Int) : Blk (((w.alloc (.cells #[.int .i64 0, .int .i64 0] 25)).setCell ⟨w.heap.size, 0, none⟩ (.int .i64 u)).setCell ⟨w.heap.size, 1, none⟩ (.int .i64 v)) w.heap.size 25 #[.int .i64 u, .int .i64 v] :=
  ((Blk.new w _ _).set_ 0 _).set_ 1 _
theorem wanted_none (o : Oper) (f : Nat → Option Bool) (h : o.guard = none) : Region.wanted o f = true := by unfold Region.wanted; rw [h]
theorem wpOp_lit {P : Program} {o : Oper} {a : Act} {w : World} {K : Act → World → Prop} {Q : Exit → Act → World → Prop} {f : Nat → Option Bool} {X Y : Prop} (h : ∀ K' : Act → World → Prop, (∀ a w, K a w → K' a w) → Oper.wp P o a w K' Q) (hg : Region.wanted o f = true) : if Region.wanted o f = true then (Oper.wp P o a w K Q ∨ X) else Y := by
  rw [if_pos hg]
  exact .inl (h K (fun _ _ h => h))
theorem made_of {W0 V : World} {s : Bool} {p q : Int} (d : s = true → false = true) (hB : W0.heap.size ≤ V.heap.size) : Cel W0 (V.alloc (.cells #[.int .i64 0, .int .i64 0] 25)) true s (ptr V.heap.size) V.heap.size p q := by
  cases s
  · exact Cel.made hB
  · exact absurd (d rfl) (by decide)
set_option synthInstance.maxSize 100000 in
set_option synthInstance.maxHeartbeats 2000000 in
set_option maxHeartbeats 16000000 in
set_option maxRecDepth 100000 in
theorem stands_good (A B U D X S H y n3 m4 k5 p0 q0 p1 q1 p2 q2 oA oB yn : Int) (H3 : Hid (cS 3 0 A B U D X S H n3 0 0)) (H4 : Hid (cS 4 0 A B U D X S H m4 0 0)) (H5 : Hid (cS 5 0 A B U D X S H k5 0 0))
    (M1 : Hid (cMv A B n3 p0 q0)) (M2 : Hid (cMv A B m4 p1 q1)) (M3 : Hid (cMv A B k5 p2 q2)) (M4 : Hid (cMv A B y oA oB)) (M5 : Hid (cMv oA oB yn A B))
    (hyn : wrap64 (-y) = yn) (hp : p0 = U) (hq : q1 = D) (zz off ss : Int) (hz : wrap64 (p2 - q2) = zz) (ho : wrap64 (X - zz) = off) (hoff : off = 0 ∨ off = 1) (hs1 : wrap64 (oA + oB) = ss) (hs2 : wrap64 (A + B) = ss) (w : World) :
    Calls Try.prog 4 #[boxV A B, arV U D X S H, .int .i64 y] w fun e w' => e = .returned (.bool true) ∧ Below w.heap.size w w' := by
  have N := Lib.hid (BA.new2 w A B U D X S H)
  subst hp hq
  go_enter Try.func4, Try.ntmps4
  go_upto_region 6 with (go_at_call 6; first
    | ((with_reducible refine (H3.out _).mono ?_); rintro e w1 ⟨rfl, hb1⟩; have N1 := Lib.hid (N.out.keep hb1); obtain ⟨c0, c1, c2, c3, c4, c5, c6⟩ := N1.out.cells)
    | ((with_reducible refine (H4.out _).mono ?_); rintro e w2 ⟨rfl, hb2⟩; have N2 := Lib.hid (N1.out.keep hb2); obtain ⟨d0, d1, d2, d3, d4, d5, d6⟩ := N2.out.cells)
    | ((with_reducible refine (H5.out _).mono ?_); rintro e w3 ⟨rfl, hb3⟩; have NB := Lib.hid (N2.out.keep hb3)))
  have lt0 := NB.out.b.lt
  have BW := Lib.hid (show Below w.heap.size w w3 from bel_trans (bel_trans (bel_trans (bel_alloc (bel_alloc (Below.refl _ _) _) _) hb1) hb2) hb3)
  refine wp_region_held_drew (S := fun V => Blk V w.heap.size 25 #[.int .i64 A, .int .i64 B]) (by kernel_rfl) NB.out.b.drew (fun hS => ?_)
  refine wpAnyH_take (i := 1) (oi := _) (v := .int .i64 n3) rfl (by kernel_rfl) (by kernel_rfl) (by kernel_rfl) (fun _ _ _ h => h) (Or.inl ⟨by rfl, ?_⟩) hS ?_
  · intro wz hz
    have b0 : wz.cell? ⟨w.heap.size, 0, none⟩ = some (.int .i64 A) := hz.cell 0
    have b1 : wz.cell? ⟨w.heap.size, 1, none⟩ = some (.int .i64 B) := hz.cell 1
    clear hz
    go_simp
  try simp only [List.getElem_toArray, List.getElem_cons_zero, List.getElem_cons_succ, Act.put, List.setIfInBounds_toArray, List.set_cons_zero, List.set_cons_succ]
  refine wpAnyH_take (i := 4) (oi := _) (v := .int .i64 m4) rfl (by kernel_rfl) (by kernel_rfl) (by kernel_rfl) (fun _ _ _ h => h) (Or.inl ⟨by rfl, ?_⟩) hS ?_
  · intro wz hz
    have b0 : wz.cell? ⟨w.heap.size, 0, none⟩ = some (.int .i64 A) := hz.cell 0
    have b1 : wz.cell? ⟨w.heap.size, 1, none⟩ = some (.int .i64 B) := hz.cell 1
    clear hz
    go_simp
  try simp only [List.getElem_toArray, List.getElem_cons_zero, List.getElem_cons_succ, Act.put, List.setIfInBounds_toArray, List.set_cons_zero, List.set_cons_succ]
  refine wpAnyH_take (i := 7) (oi := _) (v := .int .i64 k5) rfl (by kernel_rfl) (by kernel_rfl) (by kernel_rfl) (fun _ _ _ h => h) (Or.inl ⟨by rfl, ?_⟩) hS ?_
  · intro wz hz
    have b0 : wz.cell? ⟨w.heap.size, 0, none⟩ = some (.int .i64 A) := hz.cell 0
    have b1 : wz.cell? ⟨w.heap.size, 1, none⟩ = some (.int .i64 B) := hz.cell 1
    clear hz
    go_simp
  try simp only [List.getElem_toArray, List.getElem_cons_zero, List.getElem_cons_succ, Act.put, List.setIfInBounds_toArray, List.set_cons_zero, List.set_cons_succ]
  refine wpAnyH_take (i := 0) (oi := _) (v := boxV A B) rfl (by kernel_rfl) (by kernel_rfl) (by kernel_rfl) (fun _ _ _ h => h) (Or.inl ⟨by rfl, ?_⟩) hS ?_
  · intro wz hz
    have b0 : wz.cell? ⟨w.heap.size, 0, none⟩ = some (.int .i64 A) := hz.cell 0
    have b1 : wz.cell? ⟨w.heap.size, 1, none⟩ = some (.int .i64 B) := hz.cell 1
    clear hz
    go_simp
  try simp only [List.getElem_toArray, List.getElem_cons_zero, List.getElem_cons_succ, Act.put, List.setIfInBounds_toArray, List.set_cons_zero, List.set_cons_succ]
  refine wpAnyH_take (i := 3) (oi := _) (v := boxV A B) rfl (by kernel_rfl) (by kernel_rfl) (by kernel_rfl) (fun _ _ _ h => h) (Or.inl ⟨by rfl, ?_⟩) hS ?_
  · intro wz hz
    have b0 : wz.cell? ⟨w.heap.size, 0, none⟩ = some (.int .i64 A) := hz.cell 0
    have b1 : wz.cell? ⟨w.heap.size, 1, none⟩ = some (.int .i64 B) := hz.cell 1
    clear hz
    go_simp
  try simp only [List.getElem_toArray, List.getElem_cons_zero, List.getElem_cons_succ, Act.put, List.setIfInBounds_toArray, List.set_cons_zero, List.set_cons_succ]
  refine wpAnyH_take (i := 6) (oi := _) (v := boxV A B) rfl (by kernel_rfl) (by kernel_rfl) (by kernel_rfl) (fun _ _ _ h => h) (Or.inl ⟨by rfl, ?_⟩) hS ?_
  · intro wz hz
    have b0 : wz.cell? ⟨w.heap.size, 0, none⟩ = some (.int .i64 A) := hz.cell 0
    have b1 : wz.cell? ⟨w.heap.size, 1, none⟩ = some (.int .i64 B) := hz.cell 1
    clear hz
    go_simp
  try simp only [List.getElem_toArray, List.getElem_cons_zero, List.getElem_cons_succ, Act.put, List.setIfInBounds_toArray, List.set_cons_zero, List.set_cons_succ]
  refine region_inv w3 p0 q0 p1 q1 p2 q2 ?_ ?_ ?_ ?_ ?_ ?_
  · exact (Below.refl _ _).drew
  · decide +kernel
  · decide +kernel
  · kernel_rfl
  · intro g0 g1 g2 wf l0 l1 l2 B0 B1 B2 hB
    have NV := Lib.hid (NB.out.keep hB)
    obtain ⟨b0, b1, u0, u1, u2, u3, u4⟩ := NV.out.cells
    have x0 : wf.cell? ⟨g0, 0, none⟩ = some (.int .i64 p0) := B0.cell 0
    have z0 : wf.cell? ⟨g2, 0, none⟩ = some (.int .i64 p2) := B2.cell 0
    have z1 : wf.cell? ⟨g2, 1, none⟩ = some (.int .i64 q2) := B2.cell 1
    try simp only [List.getElem_toArray, List.getElem_cons_zero, List.getElem_cons_succ, Fof, Act.put, List.setIfInBounds_toArray, List.set_cons_zero, List.set_cons_succ]
    rcases hoff with rfl | rfl
    all_goals
      go_wp2_with (first
        | (go_at_call 9; ((with_reducible refine (M4.out _).mono ?_); rintro e w4 ⟨rfl, hb4⟩))
        | (go_at_call 9; ((with_reducible refine (M5.out _).mono ?_); rintro e w5 ⟨rfl, hb5⟩; have K2 := bel_alloc (Below.refl w5.heap.size w5) (.cells #[.int .i64 A, .int .i64 B] 25); have KZ := Lib.hid (bel_trans hb4 (bel_trans (bel_trans (bel_alloc (Below.refl w4.heap.size w4) (.cells #[.int .i64 oA, .int .i64 oB] 25)) hb5) K2)); have NX := Lib.hid (NV.out.keep KZ.out); have x0 : (w5.alloc (.cells #[.int .i64 A, .int .i64 B] 25)).cell? ⟨g0, 0, none⟩ = some (.int .i64 p0) := (B0.keep KZ.out).cell 0; have y1 : (w5.alloc (.cells #[.int .i64 A, .int .i64 B] 25)).cell? ⟨g1, 1, none⟩ = some (.int .i64 q1) := (B1.keep KZ.out).cell 1; have o0 : (w5.alloc (.cells #[.int .i64 A, .int .i64 B] 25)).cell? ⟨w4.heap.size, 0, none⟩ = some (.int .i64 oA) := ((Blk.new w4 25 #[.int .i64 oA, .int .i64 oB]).keep (bel_trans hb5 K2)).cell 0; have o1 : (w5.alloc (.cells #[.int .i64 A, .int .i64 B] 25)).cell? ⟨w4.heap.size, 1, none⟩ = some (.int .i64 oB) := ((Blk.new w4 25 #[.int .i64 oA, .int .i64 oB]).keep (bel_trans hb5 K2)).cell 1; have t0 : (w5.alloc (.cells #[.int .i64 A, .int .i64 B] 25)).cell? ⟨w5.heap.size, 0, none⟩ = some (.int .i64 A) := (Blk.new w5 25 #[.int .i64 A, .int .i64 B]).cell 0; have t1 : (w5.alloc (.cells #[.int .i64 A, .int .i64 B] 25)).cell? ⟨w5.heap.size, 1, none⟩ = some (.int .i64 B) := (Blk.new w5 25 #[.int .i64 A, .int .i64 B]).cell 1; have b0 : (w5.alloc (.cells #[.int .i64 A, .int .i64 B] 25)).cell? ⟨w.heap.size, 0, none⟩ = some (.int .i64 A) := NX.out.b.cell 0; have b1 : (w5.alloc (.cells #[.int .i64 A, .int .i64 B] 25)).cell? ⟨w.heap.size, 1, none⟩ = some (.int .i64 B) := NX.out.b.cell 1; have u0 : (w5.alloc (.cells #[.int .i64 A, .int .i64 B] 25)).cell? ⟨(w.heap.size + 1), 0, none⟩ = some (.int .i64 p0) := NX.out.a.cell 0; have u1 : (w5.alloc (.cells #[.int .i64 A, .int .i64 B] 25)).cell? ⟨(w.heap.size + 1), 1, none⟩ = some (.int .i64 q1) := NX.out.a.cell 1))
        | (go_at_call 8; refine (head_any _).mono ?_; rintro e w8 ⟨rfl, hb8⟩))
      go_ret
      exact ⟨rfl, bel_trans (bel_trans (bel_trans BW.out hB) KZ.out) hb8⟩
  · rintro c0 c1 c2 a0 a1 a2 s0 s1 s2 aq wq i hi hI
    rcases hi with ⟨rfl, rfl⟩ | ⟨rfl, rfl⟩ | ⟨rfl, rfl⟩ | ⟨rfl, rfl⟩ | ⟨rfl, rfl⟩ | ⟨rfl, rfl⟩ | ⟨rfl, rfl, rfl, rfl⟩ | ⟨rfl, rfl, rfl, rfl⟩ | ⟨rfl, rfl, rfl, rfl⟩
    · obtain ⟨v0, v1, v2, r0, r1, r2, g0, g1, g2, rfl, k0, k1, k2, C0, C1, C2, d0, d1, d2, n01, n02, n12, hB⟩ := open_ist hI
      have hS : Blk wq w.heap.size 25 #[.int .i64 A, .int .i64 B] := (NB.out.b).below hB lt0
      refine wpOp_step rfl (fun K' hK => ?_)
      rw [if_pos (by rfl)]
      try simp only [List.getElem_toArray, List.getElem_cons_zero, List.getElem_cons_succ, Fof, Act.put, List.setIfInBounds_toArray, List.set_cons_zero, List.set_cons_succ]
      go_simp
      refine (M1.out _).mono ?_
      rintro e wv ⟨rfl, hbv⟩
      refine hK _ _ ⟨hS.keep hbv, true, c1, c2, a0, a1, a2, s0, s1, s2, v0, v1, v2, boxV p0 q0, r1, r2, g0, g1, g2, rfl, ?_, (fun _ => rfl), k1, k2, (C0.keep hbv), (C1.keep hbv), (C2.keep hbv), d0, d1, d2, n01, n02, n12, bel_trans hB hbv⟩
      first | rfl | (simp only [Fof, Act.put, List.setIfInBounds_toArray, List.set_cons_zero, List.set_cons_succ]; done)
    · obtain ⟨v0, v1, v2, r0, r1, r2, g0, g1, g2, rfl, k0, k1, k2, C0, C1, C2, d0, d1, d2, n01, n02, n12, hB⟩ := open_ist hI
      have hS : Blk wq w.heap.size 25 #[.int .i64 A, .int .i64 B] := (NB.out.b).below hB lt0
      refine wpOp_step rfl (fun K' hK => ?_)
      rw [if_pos (by rfl)]
      try simp only [List.getElem_toArray, List.getElem_cons_zero, List.getElem_cons_succ, Fof, Act.put, List.setIfInBounds_toArray, List.set_cons_zero, List.set_cons_succ]
      go_simp
      refine (M2.out _).mono ?_
      rintro e wv ⟨rfl, hbv⟩
      refine hK _ _ ⟨hS.keep hbv, c0, true, c2, a0, a1, a2, s0, s1, s2, v0, v1, v2, r0, boxV p1 q1, r2, g0, g1, g2, rfl, ?_, k0, (fun _ => rfl), k2, (C0.keep hbv), (C1.keep hbv), (C2.keep hbv), d0, d1, d2, n01, n02, n12, bel_trans hB hbv⟩
      first | rfl | (simp only [Fof, Act.put, List.setIfInBounds_toArray, List.set_cons_zero, List.set_cons_succ]; done)
    · obtain ⟨v0, v1, v2, r0, r1, r2, g0, g1, g2, rfl, k0, k1, k2, C0, C1, C2, d0, d1, d2, n01, n02, n12, hB⟩ := open_ist hI
      have hS : Blk wq w.heap.size 25 #[.int .i64 A, .int .i64 B] := (NB.out.b).below hB lt0
      refine wpOp_step rfl (fun K' hK => ?_)
      rw [if_pos (by rfl)]
      try simp only [List.getElem_toArray, List.getElem_cons_zero, List.getElem_cons_succ, Fof, Act.put, List.setIfInBounds_toArray, List.set_cons_zero, List.set_cons_succ]
      go_simp
      refine (M3.out _).mono ?_
      rintro e wv ⟨rfl, hbv⟩
      refine hK _ _ ⟨hS.keep hbv, c0, c1, true, a0, a1, a2, s0, s1, s2, v0, v1, v2, r0, r1, boxV p2 q2, g0, g1, g2, rfl, ?_, k0, k1, (fun _ => rfl), (C0.keep hbv), (C1.keep hbv), (C2.keep hbv), d0, d1, d2, n01, n02, n12, bel_trans hB hbv⟩
      first | rfl | (simp only [Fof, Act.put, List.setIfInBounds_toArray, List.set_cons_zero, List.set_cons_succ]; done)
    · obtain ⟨v0, v1, v2, r0, r1, r2, g0, g1, g2, rfl, k0, k1, k2, C0, C1, C2, d0, d1, d2, n01, n02, n12, hB⟩ := open_ist hI
      have hS : Blk wq w.heap.size 25 #[.int .i64 A, .int .i64 B] := (NB.out.b).below hB lt0
      refine wpOp_step rfl (fun K' hK => ?_)
      rw [if_pos (by rfl)]
      try simp only [List.getElem_toArray, List.getElem_cons_zero, List.getElem_cons_succ, Fof, Act.put, List.setIfInBounds_toArray, List.set_cons_zero, List.set_cons_succ]
      go_simp
      refine hK _ _ ⟨hS.alloc _, c0, c1, c2, true, a1, a2, s0, s1, s2, ptr wq.heap.size, v1, v2, r0, r1, r2, wq.heap.size, g1, g2, rfl, ?_, k0, k1, k2, (made_of d0 hB.size), (C1.alloc _), (C2.alloc _), (fun _ => rfl), d1, d2, (fun _ hb e => by have := C1.lt hb; omega), (fun _ hb e => by have := C2.lt hb; omega), n12, hB.alloc hB.size _⟩
      first | rfl | (simp only [Fof, Act.put, List.setIfInBounds_toArray, List.set_cons_zero, List.set_cons_succ]; done)
    · obtain ⟨v0, v1, v2, r0, r1, r2, g0, g1, g2, rfl, k0, k1, k2, C0, C1, C2, d0, d1, d2, n01, n02, n12, hB⟩ := open_ist hI
      have hS : Blk wq w.heap.size 25 #[.int .i64 A, .int .i64 B] := (NB.out.b).below hB lt0
      refine wpOp_step rfl (fun K' hK => ?_)
      rw [if_pos (by rfl)]
      try simp only [List.getElem_toArray, List.getElem_cons_zero, List.getElem_cons_succ, Fof, Act.put, List.setIfInBounds_toArray, List.set_cons_zero, List.set_cons_succ]
      go_simp
      refine hK _ _ ⟨hS.alloc _, c0, c1, c2, a0, true, a2, s0, s1, s2, v0, ptr wq.heap.size, v2, r0, r1, r2, g0, wq.heap.size, g2, rfl, ?_, k0, k1, k2, (C0.alloc _), (made_of d1 hB.size), (C2.alloc _), d0, (fun _ => rfl), d2, (fun ha _ e => by have := C0.lt ha; omega), n02, (fun _ hb e => by have := C2.lt hb; omega), hB.alloc hB.size _⟩
      first | rfl | (simp only [Fof, Act.put, List.setIfInBounds_toArray, List.set_cons_zero, List.set_cons_succ]; done)
    · obtain ⟨v0, v1, v2, r0, r1, r2, g0, g1, g2, rfl, k0, k1, k2, C0, C1, C2, d0, d1, d2, n01, n02, n12, hB⟩ := open_ist hI
      have hS : Blk wq w.heap.size 25 #[.int .i64 A, .int .i64 B] := (NB.out.b).below hB lt0
      refine wpOp_step rfl (fun K' hK => ?_)
      rw [if_pos (by rfl)]
      try simp only [List.getElem_toArray, List.getElem_cons_zero, List.getElem_cons_succ, Fof, Act.put, List.setIfInBounds_toArray, List.set_cons_zero, List.set_cons_succ]
      go_simp
      refine hK _ _ ⟨hS.alloc _, c0, c1, c2, a0, a1, true, s0, s1, s2, v0, v1, ptr wq.heap.size, r0, r1, r2, g0, g1, wq.heap.size, rfl, ?_, k0, k1, k2, (C0.alloc _), (C1.alloc _), (made_of d2 hB.size), d0, d1, (fun _ => rfl), n01, (fun ha _ e => by have := C0.lt ha; omega), (fun ha _ e => by have := C1.lt ha; omega), hB.alloc hB.size _⟩
      first | rfl | (simp only [Fof, Act.put, List.setIfInBounds_toArray, List.set_cons_zero, List.set_cons_succ]; done)
    · obtain ⟨v0, v1, v2, r0, r1, r2, g0, g1, g2, rfl, k0, k1, k2, C0, C1, C2, d0, d1, d2, n01, n02, n12, hB⟩ := open_ist hI
      have hS : Blk wq w.heap.size 25 #[.int .i64 A, .int .i64 B] := (NB.out.b).below hB lt0
      obtain ⟨e1, e2, e3⟩ := C0 rfl
      subst e1
      have e4 := k0 rfl
      subst e4
      have hne : w.heap.size ≠ g0 := by omega
      refine wp_store2 _ rfl rfl rfl rfl (fof_eval _ _ _ _ _ _ _ (of_decide_eq_true (by kernel_rfl))).1 (fof_eval _ _ _ _ _ _ _ (of_decide_eq_true (by kernel_rfl))).2.2.2.1 e3 ?_
      refine ⟨(hS.far hne _).far hne _, true, c1, c2, true, a1, a2, true, s1, s2, ptr g0, v1, v2, boxV p0 q0, r1, r2, g0, g1, g2, rfl, ?_, k0, k1, k2, C0.stored, ((C1.far (fun h e => n01 rfl h e.symm) _ _).far (fun h e => n01 rfl h e.symm) _ _), ((C2.far (fun h e => n02 rfl h e.symm) _ _).far (fun h e => n02 rfl h e.symm) _ _), (fun _ => rfl), d1, d2, n01, n02, n12, (hB.setCell e2 _).setCell e2 _⟩
      first | rfl | (simp only [Fof, Act.put, List.setIfInBounds_toArray, List.set_cons_zero, List.set_cons_succ]; done)
    · obtain ⟨v0, v1, v2, r0, r1, r2, g0, g1, g2, rfl, k0, k1, k2, C0, C1, C2, d0, d1, d2, n01, n02, n12, hB⟩ := open_ist hI
      have hS : Blk wq w.heap.size 25 #[.int .i64 A, .int .i64 B] := (NB.out.b).below hB lt0
      obtain ⟨e1, e2, e3⟩ := C1 rfl
      subst e1
      have e4 := k1 rfl
      subst e4
      have hne : w.heap.size ≠ g1 := by omega
      refine wp_store2 _ rfl rfl rfl rfl (fof_eval _ _ _ _ _ _ _ (of_decide_eq_true (by kernel_rfl))).2.1 (fof_eval _ _ _ _ _ _ _ (of_decide_eq_true (by kernel_rfl))).2.2.2.2.1 e3 ?_
      refine ⟨(hS.far hne _).far hne _, c0, true, c2, a0, true, a2, s0, true, s2, v0, ptr g1, v2, r0, boxV p1 q1, r2, g0, g1, g2, rfl, ?_, k0, k1, k2, ((C0.far (fun h e => n01 h rfl e) _ _).far (fun h e => n01 h rfl e) _ _), C1.stored, ((C2.far (fun h e => n12 rfl h e.symm) _ _).far (fun h e => n12 rfl h e.symm) _ _), d0, (fun _ => rfl), d2, n01, n02, n12, (hB.setCell e2 _).setCell e2 _⟩
      first | rfl | (simp only [Fof, Act.put, List.setIfInBounds_toArray, List.set_cons_zero, List.set_cons_succ]; done)
    · obtain ⟨v0, v1, v2, r0, r1, r2, g0, g1, g2, rfl, k0, k1, k2, C0, C1, C2, d0, d1, d2, n01, n02, n12, hB⟩ := open_ist hI
      have hS : Blk wq w.heap.size 25 #[.int .i64 A, .int .i64 B] := (NB.out.b).below hB lt0
      obtain ⟨e1, e2, e3⟩ := C2 rfl
      subst e1
      have e4 := k2 rfl
      subst e4
      have hne : w.heap.size ≠ g2 := by omega
      refine wp_store2 _ rfl rfl rfl rfl (fof_eval _ _ _ _ _ _ _ (of_decide_eq_true (by kernel_rfl))).2.2.1 (fof_eval _ _ _ _ _ _ _ (of_decide_eq_true (by kernel_rfl))).2.2.2.2.2 e3 ?_
      refine ⟨(hS.far hne _).far hne _, c0, c1, true, a0, a1, true, s0, s1, true, v0, v1, ptr g2, r0, r1, boxV p2 q2, g0, g1, g2, rfl, ?_, k0, k1, k2, ((C0.far (fun h e => n02 h rfl e) _ _).far (fun h e => n02 h rfl e) _ _), ((C1.far (fun h e => n12 h rfl e) _ _).far (fun h e => n12 h rfl e) _ _), C2.stored, d0, d1, (fun _ => rfl), n01, n02, n12, (hB.setCell e2 _).setCell e2 _⟩
      first | rfl | (simp only [Fof, Act.put, List.setIfInBounds_toArray, List.set_cons_zero, List.set_cons_succ]; done)
end Go.Proofs.Ytdjbcbdgcejcmaa.Unit

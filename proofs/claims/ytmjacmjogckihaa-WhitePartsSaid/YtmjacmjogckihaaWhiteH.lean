/- Chapter 8: the program's Collapse, walked. No condition but bounds. -/
import Derived.Test.YtmjacmjogckihaaWhiteG
import Derived.Deep.RegionHeld
namespace Go.Proofs.Ytmjacmjogckihaa.White
open Go.RowKit
set_option linter.unusedVariables false
set_option linter.unusedSimpArgs false
theorem CellS.keep {w w' : World} {B : Nat} {a : Addr} {m : St} (h : CellS w a m) (hb : Below B w w') (ha : a.block < B) : CellS w' a m :=
  ⟨(hb.cell ha).trans h.c0, (hb.cell (p := ⟨a.block, a.off + 1, none⟩) ha).trans h.c1, (hb.cell (p := ⟨a.block, a.off + 2, none⟩) ha).trans h.c2, (hb.cell (p := ⟨a.block, a.off + 3, none⟩) ha).trans h.c3, (hb.cell (p := ⟨a.block, a.off + 4, none⟩) ha).trans h.c4,
    (hb.cell (p := ⟨a.block, a.off + 5, none⟩) ha).trans h.c5, (hb.cell (p := ⟨a.block, a.off + 6, none⟩) ha).trans h.c6, (hb.cell (p := ⟨a.block, a.off + 7, none⟩) ha).trans h.c7, (hb.cell (p := ⟨a.block, a.off + 8, none⟩) ha).trans h.c8⟩
theorem cell5_keep {w w' : World} {B : Nat} {a : Addr} {m : Cr} (h : Cell5 w a m) (hb : Below B w w') (ha : a.block < B) : Cell5 w' a m :=
  ⟨(hb.cell ha).trans h.c0, (hb.cell (p := ⟨a.block, a.off + 1, none⟩) ha).trans h.c1, (hb.cell (p := ⟨a.block, a.off + 2, none⟩) ha).trans h.c2, (hb.cell (p := ⟨a.block, a.off + 3, none⟩) ha).trans h.c3, (hb.cell (p := ⟨a.block, a.off + 4, none⟩) ha).trans h.c4⟩
/-- Behind k rounds of the first loop. -/
def Rel1 (ss : List St) (cs : List Cr) (W : World) (k : Nat) (wr : World) : Prop :=
  (∀ (j : Nat) (c : Cr), j < k → cs[j]? = some c → okC ss c = true) ∧ ∃ A0 c0, Blk wr W.heap.size 45 #[.slice A0 k c0] ∧ wr.ownsRow (W.heap.size + 1) 47 9 (.slice A0 k c0) k (mkL ((cs.take k).map (mkOf ss))) ∧ Below W.heap.size W wr
theorem rel1_step {ss : List St} {cs : List Cr} {W wr : World} {k c' : Nat} {A' : Option Addr} {c : Cr} {m : Mk} (hm : cs[k]? = some c) (hpre : ∀ (j : Nat) (c : Cr), j < k → cs[j]? = some c → okC ss c = true) (hok : okC ss c = true) (hmk : mkOf ss c = m)
    (hO : Blk wr W.heap.size 45 #[.slice A' (k + 1) c']) (ow : wr.ownsRow (W.heap.size + 1) 47 9 (.slice A' (k + 1) c') (k + 1) (mkL ((cs.take k).map (mkOf ss)) ++ mkC m)) (hB : Below W.heap.size W wr) : Rel1 ss cs W (k + 1) wr := by
  refine ⟨fun j cj hj hc => ?_, A', c', hO, ?_, hB⟩
  · rcases Nat.lt_succ_iff_lt_or_eq.1 hj with h | h
    · exact hpre j cj h hc
    · subst h
      rw [hm] at hc
      injection hc with hc
      rw [← hc]; exact hok
  · obtain ⟨hl, rfl⟩ := List.getElem?_eq_some_iff.1 hm
    rw [List.take_succ_eq_append_getElem hl, List.map_append, List.map_cons, List.map_nil, hmk, mkL_snoc]
    exact ow
theorem turned_grown {b i : Nat} {cur : Array Value} {m : Mk} {W w' : World} (h : Turned b i cur m W w') : W.grownBy w' (some b) := by
  obtain ⟨_, _, _, _, _, h⟩ := h.out
  exact h
theorem outF_shape (B k : Nat) (h : k < 5) : ∃ go cap, outF B k = .func (.func go) #[] cap := by
  match k, h with
  | 0, _ => exact ⟨_, _, rfl⟩
  | 1, _ => exact ⟨_, _, rfl⟩
  | 2, _ => exact ⟨_, _, rfl⟩
  | 3, _ => exact ⟨_, _, rfl⟩
  | 4, _ => exact ⟨_, _, rfl⟩
def Rel2 (W : World) (B : Nat) (ms : List Mk) (j : Nat) (V : World) : Prop :=
  ∃ v, Blk V W.heap.size 45 #[v] ∧ RowM V (W.heap.size + 1) v (stepsL j ms) ∧ SW B V ∧ Below W.heap.size W V
theorem SW.far3 {B : Nat} {V : World} (h : SW B V) {p : Addr} (hp : p.block < B) (u : Value) : SW B (V.setCell p u) := ⟨h.b1.far (by omega) u, h.b2.far (by omega) u, h.b3.far (by omega) u, h.b4.far (by omega) u⟩
theorem SW.drew2 {B : Nat} {V : World} (h : SW B V) : SW B V.drew := ⟨h.b1.drew, h.b2.drew, h.b3.drew, h.b4.drew⟩
theorem SW.grown {B g : Nat} {V V' : World} {cur : Array Value} (h : SW B V) (hG : Blk V g 47 cur) (hg : V.grownBy V' (some g)) : SW B V' :=
  ⟨h.b1.grown hg (fun e => Blk.ne_ hG h.b1 (by decide) (by injection e with e; exact e.symm)), h.b2.grown hg (fun e => Blk.ne_ hG h.b2 (by decide) (by injection e with e; exact e.symm)), h.b3.grown hg (fun e => Blk.ne_ hG h.b3 (by decide) (by injection e with e; exact e.symm)), h.b4.grown hg (fun e => Blk.ne_ hG h.b4 (by decide) (by injection e with e; exact e.symm))⟩
/-- Behind some turns. -/
def Rel3 (W : World) (B bx : Nat) (fv tv v : Value) (xs : List Mk) (V : World) : Prop :=
  Blk V W.heap.size 45 #[v] ∧ RowM V (W.heap.size + 1) v xs ∧ SW B V ∧ Blk V bx 53 #[fv, tv] ∧ Below W.heap.size W V
theorem rel3_step {W V w' : World} {B bx g q L c : Nat} {fv tv : Value} {F : List Mk} {t : Mk → Mk} {m : Mk} {cur : Array Value} (hm : F[q]? = some m) (hx : ((F.take q).map t ++ F.drop q)[q]? = some m) (hL : F.length = L) (hS : SW B V) (hB : Below W.heap.size W V) (hBg : W.heap.size + 1 ≤ g)
    (h9 : ∀ j m, ((F.take q).map t ++ F.drop q)[j]? = some m → At9 cur j m) (hG : Blk V g 47 cur) (hT : Turned g q cur (t m) V w')
    (h1 : Blk w' bx 53 #[fv, tv]) (h2 : Blk w' W.heap.size 45 #[.slice (some ⟨g, 0, none⟩) L c]) : Rel3 W B bx fv tv (.slice (some ⟨g, 0, none⟩) L c) ((F.take (q + 1)).map t ++ F.drop (q + 1)) w' := by
  have hg := turned_grown hT
  refine ⟨h2, ?_, hS.grown hG hg, h1, hB.grown hg hB.size (fun k e => by injection e with e; omega)⟩
  have hr := RowM.turned (c := c) hG hBg h9 hx hT
  have hq : q < F.length := (List.getElem?_eq_some_iff.1 hm).1
  have e : ((F.take q).map t ++ F.drop q).set q (t m) = (F.take (q + 1)).map t ++ F.drop (q + 1) := by
    obtain ⟨_, rfl⟩ := List.getElem?_eq_some_iff.1 hm
    rw [List.take_succ_eq_append_getElem hq, List.map_append, List.drop_eq_getElem_cons hq, List.set_append_right _ _ (by simp; omega)]
    simp [List.length_take, Nat.min_eq_left (Nat.le_of_lt hq)]
    rw [List.drop_eq_getElem_cons hq]
    rfl
  have l : ((F.take q).map t ++ F.drop q).length = L := by simp; omega
  rw [e, l] at hr
  exact hr
theorem reads_one5 (w : World) (t : TypeId) (m : Cr) (B : Nat) (hB : w.heap.size = B) : ∀ j v, (crC m)[j]? = some v → (w.alloc (.cells (crC m).toArray t)).cell? ((⟨B, 0, none⟩ : Addr).add j) = some v := by
  intro j v hv
  subst hB
  obtain ⟨ad, e, _, h⟩ := (reads_newK (k := 5) w t (crC m).toArray 1 (crC m) rfl rfl).2 (by omega)
  injection e with e
  subst e
  exact h j v hv
theorem infoCr : (Try.prog.info? 38).map (fun i => (i.zero, i.size, i.bytes)) = some (some (.agg #[.int .i32 0, .int .i64 0, .int .i64 0, .int .i64 0, .int .u8 0]), 5, 40) := by kernel_rfl
set_option maxHeartbeats 8000000 in
set_option maxRecDepth 40000 in
theorem Collapse_any (A : Option Addr) (n c : Nat) (cs : List Cr) (AS : Option Addr) (nS cS : Nat) (ss : List St) (hn : n ≤ 1000000000) (hnS : nS ≤ 1000000000) (W : World) (hR : Reads W W.heap.size 5 A n (crL cs)) (hRS : Reads W W.heap.size 9 AS nS (stL ss)) :
    Calls Try.prog 10 #[.slice A n c, .slice AS nS cS] W fun e w' => Below W.heap.size W w' ∧
      ((okAll ss cs = false ∧ e = .returned (.tuple #[.slice none 0 0, .int .i64 2])) ∨
       (okAll ss cs = true ∧ ∃ v, e = .returned (.tuple #[v, .int .i64 0]) ∧ w'.ownsRow W.heap.size 38 5 v (outL ss cs).length (crL (outL ss cs)))) := by
  have HL := Lib.hid (show cs.length = n by have := hR.1; rw [crL_len] at this; omega)
  have HLS := Lib.hid (len_st hRS)
  have HR := Lib.hid hR
  have HRS := Lib.hid hRS
  obtain ⟨i0, hi, hz0, hz1, hz2⟩ := info_parts A_infoMk
  have HLn := HL.out
  have nn : (n : Int) ≤ 1000000000 := by omega
  have nnS : (nS : Int) ≤ 1000000000 := by omega
  have hO0 := Blk.new W 45 #[.slice none 0 0]
  have HO0 := Lib.hid hO0
  have HB0 := Lib.hid (bel_alloc (Below.refl W.heap.size W) (.cells #[.slice none 0 0] 45))
  clear hR hRS hO0 HLn
  go_enter Try.func10, Try.ntmps10
  go_wp2_with (fail)
  go_loopw [8, 17] (fun b i wr => ∃ (k : Nat), i = .int .i64 k ∧ k ≤ n ∧ Hid (Rel1 ss cs W k wr)) (fun b i _ => n - (intOf i).toNat)
  case atStart => exact ⟨0, rfl, by omega, Lib.hid ⟨fun _ _ h => absurd h (by omega), none, 0, HO0.out, own_nil _ _ _ _, HB0.out⟩⟩
  case round =>
    obtain ⟨k, rfl, hk, HRel⟩ := hrel
    by_cases hlt : k < n
    · have q1 : decide ((k : Int) < (n : Int)) = true := decide_eq_true (by omega)
      have HRel := HRel.out
      obtain ⟨hOk, A0, c0, hO, ow, hB⟩ := HRel
      obtain ⟨ad, ch, rfl, hb, hm, cc⟩ := reads_cr HR.out hlt
      obtain ⟨e0, e1, e2, e3, e4⟩ := cell5_keep cc hB (by rw [block_of_add]; exact hb)
      have HM := Lib.hid hm
      have HOK := Lib.hid hOk
      have HBB := Lib.hid hB
      have HOO := Lib.hid hO
      have HOW := Lib.hid ow
      have hlb := hO.lt
      clear hm hOk hB hO ow cc
      obtain ⟨r0, node, p, n', kd⟩ := ch
      simp only at e0 e1 e2 e3 e4
      by_cases h0 : node < 0
      · have q0 : decide (node < 0) = true := decide_eq_true h0
        have HN := Lib.hid (okAll_no HM.out (show okC ss ⟨r0, node, p, n', kd⟩ = false by unfold okC; simp [show ¬ 0 ≤ node by omega]))
        have HBX := Lib.hid (bel_alloc HBB.out (.cells #[.int .i32 r0, .int .i64 node, .int .i64 p, .int .i64 n', .int .u8 kd] 38))
        clear h0
        go_wp2
        go_ret2
        exact ⟨HBX.out, .inl ⟨HN.out, rfl⟩⟩
      · have q0 : decide (node < 0) = false := decide_eq_false h0
        obtain ⟨nd, rfl⟩ : ∃ nd : Nat, node = nd := ⟨node.toNat, by omega⟩
        have HBX := Lib.hid (bel_alloc HBB.out (.cells #[.int .i32 r0, .int .i64 (nd : Int), .int .i64 p, .int .i64 n', .int .u8 kd] 38))
        by_cases h1 : nd < nS
        · obtain ⟨adS, s, rfl, hbS, hs, cS'⟩ := reads_st HRS.out h1
          have HcS := Lib.hid (fun (V : World) (hV : Below W.heap.size W V) => cS'.keep hV (by rw [block_of_add]; exact hbS))
          have h1' : (nd : Int) < (nS : Int) := by omega
          have q2 : decide (nS ≤ nd) = false := decide_eq_false (by omega)
          have HWh := Lib.hid (whOf_at hs)
          have HCo := Lib.hid (fun (V : World) => collapses_any s V)
          have HI := Lib.hid (show ¬ (0 : Int) ≤ (nd : Int) → False from fun h => h (by omega))
          have y0 := (HcS.out _ HBB.out).c0
          have y0' := (HcS.out _ HBX.out).c0
          clear cS' hs h0
          obtain ⟨s0, s1, s2, s3, s4, s5, s6, s7, s8⟩ := s
          simp only at y0 y0' HWh HCo
          have HND := Lib.hid (show (nd : Int) < (ss.length : Int) by have := HLS.out; omega)
          by_cases h5 : s0 ≤ 5
          · have q3 : decide (5 < s0) = false := decide_eq_false (by omega)
            by_cases hkd : kd = 0 ∨ kd = 6 ∨ kd = 5
            · have HEQ : Hid (mkOf ss ⟨r0, (nd : Int), p, n', kd⟩ = ⟨⟨r0, (nd : Int), p, n', kd⟩, s0, foldW s0, false, false⟩) := Lib.hid (by unfold mkOf; simp only; rw [HWh.out])
              have HOk : Hid (okC ss ⟨r0, (nd : Int), p, n', kd⟩ = true) := Lib.hid (by unfold okC; simp only; rw [HWh.out]; simp [h5, HND.out]; omega)
              obtain ⟨fo, hfo⟩ : ∃ fo, foldW s0 = fo := ⟨_, rfl⟩
              rw [hfo] at HEQ HCo
              clear hfo h5 HWh
              rcases (show (kd = 0) ∨ (¬ kd = 0 ∧ kd = 6) ∨ (¬ kd = 0 ∧ ¬ kd = 6 ∧ kd = 5) by omega) with hk0 | ⟨hk0, hk6⟩ | ⟨hk0, hk6, hk5⟩
              rotate_left
              · have g0 : (kd != 0) = true := by simpa using hk0
                have g1 : (kd != 6) = false := by simp [hk6]
                clear hkd hk0 hk6
                go_upto_region 7 with fail
                have hO := HOO.out.alloc (.cells #[.int .i32 r0, .int .i64 (nd : Int), .int .i64 p, .int .i64 n', .int .u8 kd] 38)
                have ow := HOW.out.alloc (.cells #[.int .i32 r0, .int .i64 (nd : Int), .int .i64 p, .int .i64 n', .int .u8 kd] 38)
                have hB := HBX.out
                refine wp_region_held_drew (S := fun V => Blk V wr.heap.size 38 #[.int .i32 r0, .int .i64 (nd : Int), .int .i64 p, .int .i64 n', .int .u8 kd] ∧ Below W.heap.size W V) (by kernel_rfl) ⟨(Blk.new wr _ _).drew, HBX.out.drew⟩ (fun hS => ?_)
                have hO := hO.drew
                have ow := own_drewN ow 1
                have hB := hB.drew
                refine wpAnyH_take (i := 1) (oi := _) (v := .agg #[.int .i32 r0, .int .i64 (nd : Int), .int .i64 p, .int .i64 n', .int .u8 kd]) rfl (by kernel_rfl) (by kernel_rfl) (by kernel_rfl) (fun _ _ _ h => h) (Or.inl ⟨by rfl, ?_⟩) hS ?_
                · intro wz hz
                  obtain ⟨z1, z2⟩ := hz
                  have d0 : wz.cell? ⟨wr.heap.size, 0, none⟩ = some (.int .i32 r0) := z1.cell 0
                  have d1 : wz.cell? ⟨wr.heap.size, 1, none⟩ = some (.int .i64 (nd : Int)) := z1.cell 1
                  have d2 : wz.cell? ⟨wr.heap.size, 2, none⟩ = some (.int .i64 p) := z1.cell 2
                  have d3 : wz.cell? ⟨wr.heap.size, 3, none⟩ = some (.int .i64 n') := z1.cell 3
                  have d4 : wz.cell? ⟨wr.heap.size, 4, none⟩ = some (.int .u8 kd) := z1.cell 4
                  obtain ⟨y0, y1, y2, y3, y4, y5, y6, y7, y8⟩ := HcS.out _ z2
                  simp only at y0 y1 y2 y3 y4 y5 y6 y7 y8
                  clear z1 z2
                  go_simp
                try simp only [List.getElem_toArray, List.getElem_cons_zero, List.getElem_cons_succ, Act.put, List.setIfInBounds_toArray, List.set_cons_zero, List.set_cons_succ]
                refine wpAnyH_take (i := 2) (oi := _) (v := .slice (some adS) nS cS) rfl (by kernel_rfl) (by kernel_rfl) (by kernel_rfl) (fun _ _ _ h => h) (Or.inl ⟨by rfl, ?_⟩) hS ?_
                · intro wz hz
                  clear hz
                  go_simp
                try simp only [List.getElem_toArray, List.getElem_cons_zero, List.getElem_cons_succ, Act.put, List.setIfInBounds_toArray, List.set_cons_zero, List.set_cons_succ]
                refine wpAnyH_take (i := 3) (oi := _) (v := .pointer (some ⟨wr.heap.size, 1, none⟩)) rfl (by kernel_rfl) (by kernel_rfl) (by kernel_rfl) (fun _ _ _ h => h) (Or.inl ⟨by rfl, ?_⟩) hS ?_
                · intro wz hz
                  clear hz
                  go_simp
                try simp only [List.getElem_toArray, List.getElem_cons_zero, List.getElem_cons_succ, Act.put, List.setIfInBounds_toArray, List.set_cons_zero, List.set_cons_succ]
                refine wpAnyH_take (i := 4) (oi := _) (v := .int .i64 (nd : Int)) rfl (by kernel_rfl) (by kernel_rfl) (by kernel_rfl) (fun _ _ _ h => h) (Or.inl ⟨by rfl, ?_⟩) hS ?_
                · intro wz hz
                  obtain ⟨z1, z2⟩ := hz
                  have d0 : wz.cell? ⟨wr.heap.size, 0, none⟩ = some (.int .i32 r0) := z1.cell 0
                  have d1 : wz.cell? ⟨wr.heap.size, 1, none⟩ = some (.int .i64 (nd : Int)) := z1.cell 1
                  have d2 : wz.cell? ⟨wr.heap.size, 2, none⟩ = some (.int .i64 p) := z1.cell 2
                  have d3 : wz.cell? ⟨wr.heap.size, 3, none⟩ = some (.int .i64 n') := z1.cell 3
                  have d4 : wz.cell? ⟨wr.heap.size, 4, none⟩ = some (.int .u8 kd) := z1.cell 4
                  obtain ⟨y0, y1, y2, y3, y4, y5, y6, y7, y8⟩ := HcS.out _ z2
                  simp only at y0 y1 y2 y3 y4 y5 y6 y7 y8
                  clear z1 z2
                  go_simp
                try simp only [List.getElem_toArray, List.getElem_cons_zero, List.getElem_cons_succ, Act.put, List.setIfInBounds_toArray, List.set_cons_zero, List.set_cons_succ]
                refine wpAnyH_take (i := 5) (oi := _) (v := .pointer (some (adS.add (nd * 9)))) rfl (by kernel_rfl) (by kernel_rfl) (by kernel_rfl) (fun _ _ _ h => h) (Or.inl ⟨by rfl, ?_⟩) hS ?_
                · intro wz hz
                  clear hz
                  go_simp
                try simp only [List.getElem_toArray, List.getElem_cons_zero, List.getElem_cons_succ, Act.put, List.setIfInBounds_toArray, List.set_cons_zero, List.set_cons_succ]
                refine wpAnyH_take (i := 6) (oi := _) (v := .pointer (some (adS.add (nd * 9)))) rfl (by kernel_rfl) (by kernel_rfl) (by kernel_rfl) (fun _ _ _ h => h) (Or.inl ⟨by rfl, ?_⟩) hS ?_
                · intro wz hz
                  clear hz
                  go_simp
                try simp only [List.getElem_toArray, List.getElem_cons_zero, List.getElem_cons_succ, Act.put, List.setIfInBounds_toArray, List.set_cons_zero, List.set_cons_succ]
                refine wpAnyH_take (i := 7) (oi := _) (v := .int .u8 s0) rfl (by kernel_rfl) (by kernel_rfl) (by kernel_rfl) (fun _ _ _ h => h) (Or.inl ⟨by rfl, ?_⟩) hS ?_
                · intro wz hz
                  obtain ⟨z1, z2⟩ := hz
                  have d0 : wz.cell? ⟨wr.heap.size, 0, none⟩ = some (.int .i32 r0) := z1.cell 0
                  have d1 : wz.cell? ⟨wr.heap.size, 1, none⟩ = some (.int .i64 (nd : Int)) := z1.cell 1
                  have d2 : wz.cell? ⟨wr.heap.size, 2, none⟩ = some (.int .i64 p) := z1.cell 2
                  have d3 : wz.cell? ⟨wr.heap.size, 3, none⟩ = some (.int .i64 n') := z1.cell 3
                  have d4 : wz.cell? ⟨wr.heap.size, 4, none⟩ = some (.int .u8 kd) := z1.cell 4
                  obtain ⟨y0, y1, y2, y3, y4, y5, y6, y7, y8⟩ := HcS.out _ z2
                  simp only at y0 y1 y2 y3 y4 y5 y6 y7 y8
                  clear z1 z2
                  go_simp
                try simp only [List.getElem_toArray, List.getElem_cons_zero, List.getElem_cons_succ, Act.put, List.setIfInBounds_toArray, List.set_cons_zero, List.set_cons_succ]
                refine wpAnyH_take (i := 8) (oi := _) (v := .slice (some adS) nS cS) rfl (by kernel_rfl) (by kernel_rfl) (by kernel_rfl) (fun _ _ _ h => h) (Or.inl ⟨by rfl, ?_⟩) hS ?_
                · intro wz hz
                  clear hz
                  go_simp
                try simp only [List.getElem_toArray, List.getElem_cons_zero, List.getElem_cons_succ, Act.put, List.setIfInBounds_toArray, List.set_cons_zero, List.set_cons_succ]
                refine wpAnyH_take (i := 9) (oi := _) (v := .pointer (some ⟨wr.heap.size, 1, none⟩)) rfl (by kernel_rfl) (by kernel_rfl) (by kernel_rfl) (fun _ _ _ h => h) (Or.inl ⟨by rfl, ?_⟩) hS ?_
                · intro wz hz
                  clear hz
                  go_simp
                try simp only [List.getElem_toArray, List.getElem_cons_zero, List.getElem_cons_succ, Act.put, List.setIfInBounds_toArray, List.set_cons_zero, List.set_cons_succ]
                refine wpAnyH_take (i := 10) (oi := _) (v := .int .i64 (nd : Int)) rfl (by kernel_rfl) (by kernel_rfl) (by kernel_rfl) (fun _ _ _ h => h) (Or.inl ⟨by rfl, ?_⟩) hS ?_
                · intro wz hz
                  obtain ⟨z1, z2⟩ := hz
                  have d0 : wz.cell? ⟨wr.heap.size, 0, none⟩ = some (.int .i32 r0) := z1.cell 0
                  have d1 : wz.cell? ⟨wr.heap.size, 1, none⟩ = some (.int .i64 (nd : Int)) := z1.cell 1
                  have d2 : wz.cell? ⟨wr.heap.size, 2, none⟩ = some (.int .i64 p) := z1.cell 2
                  have d3 : wz.cell? ⟨wr.heap.size, 3, none⟩ = some (.int .i64 n') := z1.cell 3
                  have d4 : wz.cell? ⟨wr.heap.size, 4, none⟩ = some (.int .u8 kd) := z1.cell 4
                  obtain ⟨y0, y1, y2, y3, y4, y5, y6, y7, y8⟩ := HcS.out _ z2
                  simp only at y0 y1 y2 y3 y4 y5 y6 y7 y8
                  clear z1 z2
                  go_simp
                try simp only [List.getElem_toArray, List.getElem_cons_zero, List.getElem_cons_succ, Act.put, List.setIfInBounds_toArray, List.set_cons_zero, List.set_cons_succ]
                refine wpAnyH_take (i := 11) (oi := _) (v := .pointer (some (adS.add (nd * 9)))) rfl (by kernel_rfl) (by kernel_rfl) (by kernel_rfl) (fun _ _ _ h => h) (Or.inl ⟨by rfl, ?_⟩) hS ?_
                · intro wz hz
                  clear hz
                  go_simp
                try simp only [List.getElem_toArray, List.getElem_cons_zero, List.getElem_cons_succ, Act.put, List.setIfInBounds_toArray, List.set_cons_zero, List.set_cons_succ]
                refine wpAnyH_take (i := 12) (oi := _) (v := .agg #[.int .u8 s0, .int .u8 s1, .int .u8 s2, .int .u8 s3, .int .i64 s4, .int .i64 s5, .int .i64 s6, .int .u8 s7, .int .i64 s8]) rfl (by kernel_rfl) (by kernel_rfl) (by kernel_rfl) (fun _ _ _ h => h) (Or.inl ⟨by rfl, ?_⟩) hS ?_
                · intro wz hz
                  obtain ⟨z1, z2⟩ := hz
                  have d0 : wz.cell? ⟨wr.heap.size, 0, none⟩ = some (.int .i32 r0) := z1.cell 0
                  have d1 : wz.cell? ⟨wr.heap.size, 1, none⟩ = some (.int .i64 (nd : Int)) := z1.cell 1
                  have d2 : wz.cell? ⟨wr.heap.size, 2, none⟩ = some (.int .i64 p) := z1.cell 2
                  have d3 : wz.cell? ⟨wr.heap.size, 3, none⟩ = some (.int .i64 n') := z1.cell 3
                  have d4 : wz.cell? ⟨wr.heap.size, 4, none⟩ = some (.int .u8 kd) := z1.cell 4
                  obtain ⟨y0, y1, y2, y3, y4, y5, y6, y7, y8⟩ := HcS.out _ z2
                  simp only at y0 y1 y2 y3 y4 y5 y6 y7 y8
                  clear z1 z2
                  go_simp
                try simp only [List.getElem_toArray, List.getElem_cons_zero, List.getElem_cons_succ, Act.put, List.setIfInBounds_toArray, List.set_cons_zero, List.set_cons_succ]
                refine wpAnyH_ready (rs := [0, 13]) (by kernel_rfl) (by simp) ?_
                refine AllReadyH.cons rfl (fun K hK => ?_) ?_
                · skip
                  rw [if_pos (by rfl)]
                  have cO := hO.cell 0
                  go_simp
                  refine hK.out _ _ hS (fun hS => ?_)
                  clear hK K
                  try simp only [List.getElem_toArray, List.getElem_cons_zero, List.getElem_cons_succ, Act.put, List.setIfInBounds_toArray, List.set_cons_zero, List.set_cons_succ]
                  refine wpAnyH_ready (rs := [13]) (by kernel_rfl) (by simp) ?_
                  refine AllReadyH.cons rfl (fun K hK => ?_) ?_
                  · skip
                    rw [if_pos (by rfl)]
                    go_simp
                    (with_reducible refine (HCo.out _).mono ?_)
                    rintro e v ⟨rfl, hb⟩
                    have hO := hO.keep hb
                    have ow := own_below ow hb
                    have hB := bel_trans hB hb
                    refine hK.out _ _ ⟨hS.1.keep hb, bel_trans hS.2 hb⟩ (fun hS => ?_)
                    clear hK K
                    try simp only [List.getElem_toArray, List.getElem_cons_zero, List.getElem_cons_succ, Act.put, List.setIfInBounds_toArray, List.set_cons_zero, List.set_cons_succ]
                    refine wpAnyH_take (i := 14) (oi := _) (v := .agg #[.int .i32 r0, .int .i64 (nd : Int), .int .i64 p, .int .i64 n', .int .u8 kd, .int .u8 s0, .bool fo, .bool false, .bool false]) rfl (by kernel_rfl) (by kernel_rfl) (by kernel_rfl) (fun _ _ _ h => h) (Or.inl ⟨by rfl, ?_⟩) hS ?_
                    · intro wz hz
                      clear hz
                      go_simp
                    try simp only [List.getElem_toArray, List.getElem_cons_zero, List.getElem_cons_succ, Act.put, List.setIfInBounds_toArray, List.set_cons_zero, List.set_cons_succ]
                    refine wpAnyH_ready (rs := [15]) (by kernel_rfl) (by simp) ?_
                    refine AllReadyH.cons rfl (fun K hK => ?_) ?_
                    · skip
                      rw [if_pos (by rfl)]
                      go_simp
                      have hO := hO.alloc (.cells #[.int .i32 r0, .int .i64 (nd : Int), .int .i64 p, .int .i64 n', .int .u8 kd, .int .u8 s0, .bool fo, .bool false, .bool false] 47)
                      have ow := ow.alloc (.cells #[.int .i32 r0, .int .i64 (nd : Int), .int .i64 p, .int .i64 n', .int .u8 kd, .int .u8 s0, .bool fo, .bool false, .bool false] 47)
                      have hB := bel_alloc hB (.cells #[.int .i32 r0, .int .i64 (nd : Int), .int .i64 p, .int .i64 n', .int .u8 kd, .int .u8 s0, .bool fo, .bool false, .bool false] 47)
                      refine hK.out _ _ ⟨hS.1.alloc _, bel_alloc hS.2 _⟩ (fun hS => ?_)
                      clear hK K
                      try simp only [List.getElem_toArray, List.getElem_cons_zero, List.getElem_cons_succ, Act.put, List.setIfInBounds_toArray, List.set_cons_zero, List.set_cons_succ]
                      refine wpAnyH_ready (rs := [16]) (by kernel_rfl) (by simp) ?_
                      refine AllReadyH.cons rfl (fun K hK => ?_) ?_
                      · skip
                        refine step_append_any _ rfl (.tmp 55) (.tmp 70) 45 rfl (W.heap.size + 1) 47 i0 (.agg #[.int .i32 0, .int .i64 0, .int .i64 0, .int .i64 0, .int .u8 0, .int .u8 0, .bool false, .bool false, .bool false]) 9 48 Try.underlying45 hi hz0 hz1 hz2 rfl (by decide) (.slice A0 k c0) _ _ rfl ow _ _ 1 1 (mkC ⟨⟨r0, nd, p, n', kd⟩, s0, fo, false, false⟩) rfl (reads_newK _ _ _ 1 _ rfl rfl) (mkC_one _) (by unfold maxLen; omega) (by omega) (by have := hO.lt; omega) (fun v' w7 hown' hg _ => ?_)
                        obtain ⟨A', c', rfl⟩ := own_shape hown'
                        have hne := own_blk_ne ow hO (by decide)
                        have hnx := own_blk_ne ow hS.1 (by decide)
                        have hO := hO.grown hg (fun e => hne e.symm)
                        have hB := bel_grown hB (own_le ow (by omega)) hg
                        have ow := hown'
                        refine hK.out _ _ ⟨hS.1.grown hg (fun e => hnx e.symm), hB⟩ (fun hS => ?_)
                        clear hK K
                        try simp only [List.getElem_toArray, List.getElem_cons_zero, List.getElem_cons_succ, Act.put, List.setIfInBounds_toArray, List.set_cons_zero, List.set_cons_succ]
                        refine wpAnyH_ready (rs := [17]) (by kernel_rfl) (by simp) ?_
                        refine AllReadyH.cons rfl (fun K hK => ?_) ?_
                        · skip
                          rw [if_pos (by rfl)]
                          have cO := hO.cell 0
                          have fO := hO.frozen 0
                          go_simp
                          have hB := hB.setCell (p := ⟨W.heap.size, 0, none⟩) (by simp) (.slice A' (k + 1) c')
                          have hO : Blk (w7.setCell ⟨W.heap.size, 0, none⟩ (.slice A' (k + 1) c')) W.heap.size 45 #[.slice A' (k + 1) c'] := hO.set_ 0 _
                          have ow := ownsRow_setCell_below ow (a := ⟨W.heap.size, 0, none⟩) (by simp) (.slice A' (k + 1) c')
                          refine hK.out _ _ ⟨hS.1.far (by simp only; omega) _, hB⟩ (fun hS => ?_)
                          clear hK K
                          try simp only [List.getElem_toArray, List.getElem_cons_zero, List.getElem_cons_succ, Act.put, List.setIfInBounds_toArray, List.set_cons_zero, List.set_cons_succ]
                          refine wpAnyH_done (by kernel_rfl) ?_ _
                          go_wp2
                          go_roundw
                          case rel => exact ⟨k + 1, by go_num, by omega, Lib.hid (rel1_step HM.out HOK.out HOk.out HEQ.out hO ow hB)⟩
                          case measure => simp [intOf]; omega
                        exact AllReadyH.nil
                      exact AllReadyH.nil
                    exact AllReadyH.nil
                  exact AllReadyH.nil
                refine AllReadyH.cons rfl (fun K hK => ?_) ?_
                · skip
                  rw [if_pos (by rfl)]
                  go_simp
                  (with_reducible refine (HCo.out _).mono ?_)
                  rintro e v ⟨rfl, hb⟩
                  have hO := hO.keep hb
                  have ow := own_below ow hb
                  have hB := bel_trans hB hb
                  refine hK.out _ _ ⟨hS.1.keep hb, bel_trans hS.2 hb⟩ (fun hS => ?_)
                  clear hK K
                  try simp only [List.getElem_toArray, List.getElem_cons_zero, List.getElem_cons_succ, Act.put, List.setIfInBounds_toArray, List.set_cons_zero, List.set_cons_succ]
                  refine wpAnyH_take (i := 14) (oi := _) (v := .agg #[.int .i32 r0, .int .i64 (nd : Int), .int .i64 p, .int .i64 n', .int .u8 kd, .int .u8 s0, .bool fo, .bool false, .bool false]) rfl (by kernel_rfl) (by kernel_rfl) (by kernel_rfl) (fun _ _ _ h => h) (Or.inl ⟨by rfl, ?_⟩) hS ?_
                  · intro wz hz
                    clear hz
                    go_simp
                  try simp only [List.getElem_toArray, List.getElem_cons_zero, List.getElem_cons_succ, Act.put, List.setIfInBounds_toArray, List.set_cons_zero, List.set_cons_succ]
                  refine wpAnyH_ready (rs := [0, 15]) (by kernel_rfl) (by simp) ?_
                  refine AllReadyH.cons rfl (fun K hK => ?_) ?_
                  · skip
                    rw [if_pos (by rfl)]
                    have cO := hO.cell 0
                    go_simp
                    refine hK.out _ _ hS (fun hS => ?_)
                    clear hK K
                    try simp only [List.getElem_toArray, List.getElem_cons_zero, List.getElem_cons_succ, Act.put, List.setIfInBounds_toArray, List.set_cons_zero, List.set_cons_succ]
                    refine wpAnyH_ready (rs := [15]) (by kernel_rfl) (by simp) ?_
                    refine AllReadyH.cons rfl (fun K hK => ?_) ?_
                    · skip
                      rw [if_pos (by rfl)]
                      go_simp
                      have hO := hO.alloc (.cells #[.int .i32 r0, .int .i64 (nd : Int), .int .i64 p, .int .i64 n', .int .u8 kd, .int .u8 s0, .bool fo, .bool false, .bool false] 47)
                      have ow := ow.alloc (.cells #[.int .i32 r0, .int .i64 (nd : Int), .int .i64 p, .int .i64 n', .int .u8 kd, .int .u8 s0, .bool fo, .bool false, .bool false] 47)
                      have hB := bel_alloc hB (.cells #[.int .i32 r0, .int .i64 (nd : Int), .int .i64 p, .int .i64 n', .int .u8 kd, .int .u8 s0, .bool fo, .bool false, .bool false] 47)
                      refine hK.out _ _ ⟨hS.1.alloc _, bel_alloc hS.2 _⟩ (fun hS => ?_)
                      clear hK K
                      try simp only [List.getElem_toArray, List.getElem_cons_zero, List.getElem_cons_succ, Act.put, List.setIfInBounds_toArray, List.set_cons_zero, List.set_cons_succ]
                      refine wpAnyH_ready (rs := [16]) (by kernel_rfl) (by simp) ?_
                      refine AllReadyH.cons rfl (fun K hK => ?_) ?_
                      · skip
                        refine step_append_any _ rfl (.tmp 55) (.tmp 70) 45 rfl (W.heap.size + 1) 47 i0 (.agg #[.int .i32 0, .int .i64 0, .int .i64 0, .int .i64 0, .int .u8 0, .int .u8 0, .bool false, .bool false, .bool false]) 9 48 Try.underlying45 hi hz0 hz1 hz2 rfl (by decide) (.slice A0 k c0) _ _ rfl ow _ _ 1 1 (mkC ⟨⟨r0, nd, p, n', kd⟩, s0, fo, false, false⟩) rfl (reads_newK _ _ _ 1 _ rfl rfl) (mkC_one _) (by unfold maxLen; omega) (by omega) (by have := hO.lt; omega) (fun v' w7 hown' hg _ => ?_)
                        obtain ⟨A', c', rfl⟩ := own_shape hown'
                        have hne := own_blk_ne ow hO (by decide)
                        have hnx := own_blk_ne ow hS.1 (by decide)
                        have hO := hO.grown hg (fun e => hne e.symm)
                        have hB := bel_grown hB (own_le ow (by omega)) hg
                        have ow := hown'
                        refine hK.out _ _ ⟨hS.1.grown hg (fun e => hnx e.symm), hB⟩ (fun hS => ?_)
                        clear hK K
                        try simp only [List.getElem_toArray, List.getElem_cons_zero, List.getElem_cons_succ, Act.put, List.setIfInBounds_toArray, List.set_cons_zero, List.set_cons_succ]
                        refine wpAnyH_ready (rs := [17]) (by kernel_rfl) (by simp) ?_
                        refine AllReadyH.cons rfl (fun K hK => ?_) ?_
                        · skip
                          rw [if_pos (by rfl)]
                          have cO := hO.cell 0
                          have fO := hO.frozen 0
                          go_simp
                          have hB := hB.setCell (p := ⟨W.heap.size, 0, none⟩) (by simp) (.slice A' (k + 1) c')
                          have hO : Blk (w7.setCell ⟨W.heap.size, 0, none⟩ (.slice A' (k + 1) c')) W.heap.size 45 #[.slice A' (k + 1) c'] := hO.set_ 0 _
                          have ow := ownsRow_setCell_below ow (a := ⟨W.heap.size, 0, none⟩) (by simp) (.slice A' (k + 1) c')
                          refine hK.out _ _ ⟨hS.1.far (by simp only; omega) _, hB⟩ (fun hS => ?_)
                          clear hK K
                          try simp only [List.getElem_toArray, List.getElem_cons_zero, List.getElem_cons_succ, Act.put, List.setIfInBounds_toArray, List.set_cons_zero, List.set_cons_succ]
                          refine wpAnyH_done (by kernel_rfl) ?_ _
                          go_wp2
                          go_roundw
                          case rel => exact ⟨k + 1, by go_num, by omega, Lib.hid (rel1_step HM.out HOK.out HOk.out HEQ.out hO ow hB)⟩
                          case measure => simp [intOf]; omega
                        exact AllReadyH.nil
                      exact AllReadyH.nil
                    exact AllReadyH.nil
                  refine AllReadyH.cons rfl (fun K hK => ?_) ?_
                  · skip
                    rw [if_pos (by rfl)]
                    go_simp
                    have hO := hO.alloc (.cells #[.int .i32 r0, .int .i64 (nd : Int), .int .i64 p, .int .i64 n', .int .u8 kd, .int .u8 s0, .bool fo, .bool false, .bool false] 47)
                    have ow := ow.alloc (.cells #[.int .i32 r0, .int .i64 (nd : Int), .int .i64 p, .int .i64 n', .int .u8 kd, .int .u8 s0, .bool fo, .bool false, .bool false] 47)
                    have hB := bel_alloc hB (.cells #[.int .i32 r0, .int .i64 (nd : Int), .int .i64 p, .int .i64 n', .int .u8 kd, .int .u8 s0, .bool fo, .bool false, .bool false] 47)
                    refine hK.out _ _ ⟨hS.1.alloc _, bel_alloc hS.2 _⟩ (fun hS => ?_)
                    clear hK K
                    try simp only [List.getElem_toArray, List.getElem_cons_zero, List.getElem_cons_succ, Act.put, List.setIfInBounds_toArray, List.set_cons_zero, List.set_cons_succ]
                    refine wpAnyH_ready (rs := [0]) (by kernel_rfl) (by simp) ?_
                    refine AllReadyH.cons rfl (fun K hK => ?_) ?_
                    · skip
                      rw [if_pos (by rfl)]
                      have cO := hO.cell 0
                      go_simp
                      refine hK.out _ _ hS (fun hS => ?_)
                      clear hK K
                      try simp only [List.getElem_toArray, List.getElem_cons_zero, List.getElem_cons_succ, Act.put, List.setIfInBounds_toArray, List.set_cons_zero, List.set_cons_succ]
                      refine wpAnyH_ready (rs := [16]) (by kernel_rfl) (by simp) ?_
                      refine AllReadyH.cons rfl (fun K hK => ?_) ?_
                      · skip
                        refine step_append_any _ rfl (.tmp 55) (.tmp 70) 45 rfl (W.heap.size + 1) 47 i0 (.agg #[.int .i32 0, .int .i64 0, .int .i64 0, .int .i64 0, .int .u8 0, .int .u8 0, .bool false, .bool false, .bool false]) 9 48 Try.underlying45 hi hz0 hz1 hz2 rfl (by decide) (.slice A0 k c0) _ _ rfl ow _ _ 1 1 (mkC ⟨⟨r0, nd, p, n', kd⟩, s0, fo, false, false⟩) rfl (reads_newK _ _ _ 1 _ rfl rfl) (mkC_one _) (by unfold maxLen; omega) (by omega) (by have := hO.lt; omega) (fun v' w7 hown' hg _ => ?_)
                        obtain ⟨A', c', rfl⟩ := own_shape hown'
                        have hne := own_blk_ne ow hO (by decide)
                        have hnx := own_blk_ne ow hS.1 (by decide)
                        have hO := hO.grown hg (fun e => hne e.symm)
                        have hB := bel_grown hB (own_le ow (by omega)) hg
                        have ow := hown'
                        refine hK.out _ _ ⟨hS.1.grown hg (fun e => hnx e.symm), hB⟩ (fun hS => ?_)
                        clear hK K
                        try simp only [List.getElem_toArray, List.getElem_cons_zero, List.getElem_cons_succ, Act.put, List.setIfInBounds_toArray, List.set_cons_zero, List.set_cons_succ]
                        refine wpAnyH_ready (rs := [17]) (by kernel_rfl) (by simp) ?_
                        refine AllReadyH.cons rfl (fun K hK => ?_) ?_
                        · skip
                          rw [if_pos (by rfl)]
                          have cO := hO.cell 0
                          have fO := hO.frozen 0
                          go_simp
                          have hB := hB.setCell (p := ⟨W.heap.size, 0, none⟩) (by simp) (.slice A' (k + 1) c')
                          have hO : Blk (w7.setCell ⟨W.heap.size, 0, none⟩ (.slice A' (k + 1) c')) W.heap.size 45 #[.slice A' (k + 1) c'] := hO.set_ 0 _
                          have ow := ownsRow_setCell_below ow (a := ⟨W.heap.size, 0, none⟩) (by simp) (.slice A' (k + 1) c')
                          refine hK.out _ _ ⟨hS.1.far (by simp only; omega) _, hB⟩ (fun hS => ?_)
                          clear hK K
                          try simp only [List.getElem_toArray, List.getElem_cons_zero, List.getElem_cons_succ, Act.put, List.setIfInBounds_toArray, List.set_cons_zero, List.set_cons_succ]
                          refine wpAnyH_done (by kernel_rfl) ?_ _
                          go_wp2
                          go_roundw
                          case rel => exact ⟨k + 1, by go_num, by omega, Lib.hid (rel1_step HM.out HOK.out HOk.out HEQ.out hO ow hB)⟩
                          case measure => simp [intOf]; omega
                        exact AllReadyH.nil
                      exact AllReadyH.nil
                    exact AllReadyH.nil
                  exact AllReadyH.nil
                exact AllReadyH.nil
              · have g0 : (kd != 0) = true := by simpa using hk0
                have g1 : (kd != 6) = true := by simpa using hk6
                have g2 : (kd != 5) = false := by simp [hk5]
                clear hkd hk0 hk6 hk5
                go_upto_region 7 with fail
                have hO := HOO.out.alloc (.cells #[.int .i32 r0, .int .i64 (nd : Int), .int .i64 p, .int .i64 n', .int .u8 kd] 38)
                have ow := HOW.out.alloc (.cells #[.int .i32 r0, .int .i64 (nd : Int), .int .i64 p, .int .i64 n', .int .u8 kd] 38)
                have hB := HBX.out
                refine wp_region_held_drew (S := fun V => Blk V wr.heap.size 38 #[.int .i32 r0, .int .i64 (nd : Int), .int .i64 p, .int .i64 n', .int .u8 kd] ∧ Below W.heap.size W V) (by kernel_rfl) ⟨(Blk.new wr _ _).drew, HBX.out.drew⟩ (fun hS => ?_)
                have hO := hO.drew
                have ow := own_drewN ow 1
                have hB := hB.drew
                refine wpAnyH_take (i := 1) (oi := _) (v := .agg #[.int .i32 r0, .int .i64 (nd : Int), .int .i64 p, .int .i64 n', .int .u8 kd]) rfl (by kernel_rfl) (by kernel_rfl) (by kernel_rfl) (fun _ _ _ h => h) (Or.inl ⟨by rfl, ?_⟩) hS ?_
                · intro wz hz
                  obtain ⟨z1, z2⟩ := hz
                  have d0 : wz.cell? ⟨wr.heap.size, 0, none⟩ = some (.int .i32 r0) := z1.cell 0
                  have d1 : wz.cell? ⟨wr.heap.size, 1, none⟩ = some (.int .i64 (nd : Int)) := z1.cell 1
                  have d2 : wz.cell? ⟨wr.heap.size, 2, none⟩ = some (.int .i64 p) := z1.cell 2
                  have d3 : wz.cell? ⟨wr.heap.size, 3, none⟩ = some (.int .i64 n') := z1.cell 3
                  have d4 : wz.cell? ⟨wr.heap.size, 4, none⟩ = some (.int .u8 kd) := z1.cell 4
                  obtain ⟨y0, y1, y2, y3, y4, y5, y6, y7, y8⟩ := HcS.out _ z2
                  simp only at y0 y1 y2 y3 y4 y5 y6 y7 y8
                  clear z1 z2
                  go_simp
                try simp only [List.getElem_toArray, List.getElem_cons_zero, List.getElem_cons_succ, Act.put, List.setIfInBounds_toArray, List.set_cons_zero, List.set_cons_succ]
                refine wpAnyH_take (i := 2) (oi := _) (v := .slice (some adS) nS cS) rfl (by kernel_rfl) (by kernel_rfl) (by kernel_rfl) (fun _ _ _ h => h) (Or.inl ⟨by rfl, ?_⟩) hS ?_
                · intro wz hz
                  clear hz
                  go_simp
                try simp only [List.getElem_toArray, List.getElem_cons_zero, List.getElem_cons_succ, Act.put, List.setIfInBounds_toArray, List.set_cons_zero, List.set_cons_succ]
                refine wpAnyH_take (i := 3) (oi := _) (v := .pointer (some ⟨wr.heap.size, 1, none⟩)) rfl (by kernel_rfl) (by kernel_rfl) (by kernel_rfl) (fun _ _ _ h => h) (Or.inl ⟨by rfl, ?_⟩) hS ?_
                · intro wz hz
                  clear hz
                  go_simp
                try simp only [List.getElem_toArray, List.getElem_cons_zero, List.getElem_cons_succ, Act.put, List.setIfInBounds_toArray, List.set_cons_zero, List.set_cons_succ]
                refine wpAnyH_take (i := 4) (oi := _) (v := .int .i64 (nd : Int)) rfl (by kernel_rfl) (by kernel_rfl) (by kernel_rfl) (fun _ _ _ h => h) (Or.inl ⟨by rfl, ?_⟩) hS ?_
                · intro wz hz
                  obtain ⟨z1, z2⟩ := hz
                  have d0 : wz.cell? ⟨wr.heap.size, 0, none⟩ = some (.int .i32 r0) := z1.cell 0
                  have d1 : wz.cell? ⟨wr.heap.size, 1, none⟩ = some (.int .i64 (nd : Int)) := z1.cell 1
                  have d2 : wz.cell? ⟨wr.heap.size, 2, none⟩ = some (.int .i64 p) := z1.cell 2
                  have d3 : wz.cell? ⟨wr.heap.size, 3, none⟩ = some (.int .i64 n') := z1.cell 3
                  have d4 : wz.cell? ⟨wr.heap.size, 4, none⟩ = some (.int .u8 kd) := z1.cell 4
                  obtain ⟨y0, y1, y2, y3, y4, y5, y6, y7, y8⟩ := HcS.out _ z2
                  simp only at y0 y1 y2 y3 y4 y5 y6 y7 y8
                  clear z1 z2
                  go_simp
                try simp only [List.getElem_toArray, List.getElem_cons_zero, List.getElem_cons_succ, Act.put, List.setIfInBounds_toArray, List.set_cons_zero, List.set_cons_succ]
                refine wpAnyH_take (i := 5) (oi := _) (v := .pointer (some (adS.add (nd * 9)))) rfl (by kernel_rfl) (by kernel_rfl) (by kernel_rfl) (fun _ _ _ h => h) (Or.inl ⟨by rfl, ?_⟩) hS ?_
                · intro wz hz
                  clear hz
                  go_simp
                try simp only [List.getElem_toArray, List.getElem_cons_zero, List.getElem_cons_succ, Act.put, List.setIfInBounds_toArray, List.set_cons_zero, List.set_cons_succ]
                refine wpAnyH_take (i := 6) (oi := _) (v := .pointer (some (adS.add (nd * 9)))) rfl (by kernel_rfl) (by kernel_rfl) (by kernel_rfl) (fun _ _ _ h => h) (Or.inl ⟨by rfl, ?_⟩) hS ?_
                · intro wz hz
                  clear hz
                  go_simp
                try simp only [List.getElem_toArray, List.getElem_cons_zero, List.getElem_cons_succ, Act.put, List.setIfInBounds_toArray, List.set_cons_zero, List.set_cons_succ]
                refine wpAnyH_take (i := 7) (oi := _) (v := .int .u8 s0) rfl (by kernel_rfl) (by kernel_rfl) (by kernel_rfl) (fun _ _ _ h => h) (Or.inl ⟨by rfl, ?_⟩) hS ?_
                · intro wz hz
                  obtain ⟨z1, z2⟩ := hz
                  have d0 : wz.cell? ⟨wr.heap.size, 0, none⟩ = some (.int .i32 r0) := z1.cell 0
                  have d1 : wz.cell? ⟨wr.heap.size, 1, none⟩ = some (.int .i64 (nd : Int)) := z1.cell 1
                  have d2 : wz.cell? ⟨wr.heap.size, 2, none⟩ = some (.int .i64 p) := z1.cell 2
                  have d3 : wz.cell? ⟨wr.heap.size, 3, none⟩ = some (.int .i64 n') := z1.cell 3
                  have d4 : wz.cell? ⟨wr.heap.size, 4, none⟩ = some (.int .u8 kd) := z1.cell 4
                  obtain ⟨y0, y1, y2, y3, y4, y5, y6, y7, y8⟩ := HcS.out _ z2
                  simp only at y0 y1 y2 y3 y4 y5 y6 y7 y8
                  clear z1 z2
                  go_simp
                try simp only [List.getElem_toArray, List.getElem_cons_zero, List.getElem_cons_succ, Act.put, List.setIfInBounds_toArray, List.set_cons_zero, List.set_cons_succ]
                refine wpAnyH_take (i := 8) (oi := _) (v := .slice (some adS) nS cS) rfl (by kernel_rfl) (by kernel_rfl) (by kernel_rfl) (fun _ _ _ h => h) (Or.inl ⟨by rfl, ?_⟩) hS ?_
                · intro wz hz
                  clear hz
                  go_simp
                try simp only [List.getElem_toArray, List.getElem_cons_zero, List.getElem_cons_succ, Act.put, List.setIfInBounds_toArray, List.set_cons_zero, List.set_cons_succ]
                refine wpAnyH_take (i := 9) (oi := _) (v := .pointer (some ⟨wr.heap.size, 1, none⟩)) rfl (by kernel_rfl) (by kernel_rfl) (by kernel_rfl) (fun _ _ _ h => h) (Or.inl ⟨by rfl, ?_⟩) hS ?_
                · intro wz hz
                  clear hz
                  go_simp
                try simp only [List.getElem_toArray, List.getElem_cons_zero, List.getElem_cons_succ, Act.put, List.setIfInBounds_toArray, List.set_cons_zero, List.set_cons_succ]
                refine wpAnyH_take (i := 10) (oi := _) (v := .int .i64 (nd : Int)) rfl (by kernel_rfl) (by kernel_rfl) (by kernel_rfl) (fun _ _ _ h => h) (Or.inl ⟨by rfl, ?_⟩) hS ?_
                · intro wz hz
                  obtain ⟨z1, z2⟩ := hz
                  have d0 : wz.cell? ⟨wr.heap.size, 0, none⟩ = some (.int .i32 r0) := z1.cell 0
                  have d1 : wz.cell? ⟨wr.heap.size, 1, none⟩ = some (.int .i64 (nd : Int)) := z1.cell 1
                  have d2 : wz.cell? ⟨wr.heap.size, 2, none⟩ = some (.int .i64 p) := z1.cell 2
                  have d3 : wz.cell? ⟨wr.heap.size, 3, none⟩ = some (.int .i64 n') := z1.cell 3
                  have d4 : wz.cell? ⟨wr.heap.size, 4, none⟩ = some (.int .u8 kd) := z1.cell 4
                  obtain ⟨y0, y1, y2, y3, y4, y5, y6, y7, y8⟩ := HcS.out _ z2
                  simp only at y0 y1 y2 y3 y4 y5 y6 y7 y8
                  clear z1 z2
                  go_simp
                try simp only [List.getElem_toArray, List.getElem_cons_zero, List.getElem_cons_succ, Act.put, List.setIfInBounds_toArray, List.set_cons_zero, List.set_cons_succ]
                refine wpAnyH_take (i := 11) (oi := _) (v := .pointer (some (adS.add (nd * 9)))) rfl (by kernel_rfl) (by kernel_rfl) (by kernel_rfl) (fun _ _ _ h => h) (Or.inl ⟨by rfl, ?_⟩) hS ?_
                · intro wz hz
                  clear hz
                  go_simp
                try simp only [List.getElem_toArray, List.getElem_cons_zero, List.getElem_cons_succ, Act.put, List.setIfInBounds_toArray, List.set_cons_zero, List.set_cons_succ]
                refine wpAnyH_take (i := 12) (oi := _) (v := .agg #[.int .u8 s0, .int .u8 s1, .int .u8 s2, .int .u8 s3, .int .i64 s4, .int .i64 s5, .int .i64 s6, .int .u8 s7, .int .i64 s8]) rfl (by kernel_rfl) (by kernel_rfl) (by kernel_rfl) (fun _ _ _ h => h) (Or.inl ⟨by rfl, ?_⟩) hS ?_
                · intro wz hz
                  obtain ⟨z1, z2⟩ := hz
                  have d0 : wz.cell? ⟨wr.heap.size, 0, none⟩ = some (.int .i32 r0) := z1.cell 0
                  have d1 : wz.cell? ⟨wr.heap.size, 1, none⟩ = some (.int .i64 (nd : Int)) := z1.cell 1
                  have d2 : wz.cell? ⟨wr.heap.size, 2, none⟩ = some (.int .i64 p) := z1.cell 2
                  have d3 : wz.cell? ⟨wr.heap.size, 3, none⟩ = some (.int .i64 n') := z1.cell 3
                  have d4 : wz.cell? ⟨wr.heap.size, 4, none⟩ = some (.int .u8 kd) := z1.cell 4
                  obtain ⟨y0, y1, y2, y3, y4, y5, y6, y7, y8⟩ := HcS.out _ z2
                  simp only at y0 y1 y2 y3 y4 y5 y6 y7 y8
                  clear z1 z2
                  go_simp
                try simp only [List.getElem_toArray, List.getElem_cons_zero, List.getElem_cons_succ, Act.put, List.setIfInBounds_toArray, List.set_cons_zero, List.set_cons_succ]
                refine wpAnyH_ready (rs := [0, 13]) (by kernel_rfl) (by simp) ?_
                refine AllReadyH.cons rfl (fun K hK => ?_) ?_
                · skip
                  rw [if_pos (by rfl)]
                  have cO := hO.cell 0
                  go_simp
                  refine hK.out _ _ hS (fun hS => ?_)
                  clear hK K
                  try simp only [List.getElem_toArray, List.getElem_cons_zero, List.getElem_cons_succ, Act.put, List.setIfInBounds_toArray, List.set_cons_zero, List.set_cons_succ]
                  refine wpAnyH_ready (rs := [13]) (by kernel_rfl) (by simp) ?_
                  refine AllReadyH.cons rfl (fun K hK => ?_) ?_
                  · skip
                    rw [if_pos (by rfl)]
                    go_simp
                    (with_reducible refine (HCo.out _).mono ?_)
                    rintro e v ⟨rfl, hb⟩
                    have hO := hO.keep hb
                    have ow := own_below ow hb
                    have hB := bel_trans hB hb
                    refine hK.out _ _ ⟨hS.1.keep hb, bel_trans hS.2 hb⟩ (fun hS => ?_)
                    clear hK K
                    try simp only [List.getElem_toArray, List.getElem_cons_zero, List.getElem_cons_succ, Act.put, List.setIfInBounds_toArray, List.set_cons_zero, List.set_cons_succ]
                    refine wpAnyH_take (i := 14) (oi := _) (v := .agg #[.int .i32 r0, .int .i64 (nd : Int), .int .i64 p, .int .i64 n', .int .u8 kd, .int .u8 s0, .bool fo, .bool false, .bool false]) rfl (by kernel_rfl) (by kernel_rfl) (by kernel_rfl) (fun _ _ _ h => h) (Or.inl ⟨by rfl, ?_⟩) hS ?_
                    · intro wz hz
                      clear hz
                      go_simp
                    try simp only [List.getElem_toArray, List.getElem_cons_zero, List.getElem_cons_succ, Act.put, List.setIfInBounds_toArray, List.set_cons_zero, List.set_cons_succ]
                    refine wpAnyH_ready (rs := [15]) (by kernel_rfl) (by simp) ?_
                    refine AllReadyH.cons rfl (fun K hK => ?_) ?_
                    · skip
                      rw [if_pos (by rfl)]
                      go_simp
                      have hO := hO.alloc (.cells #[.int .i32 r0, .int .i64 (nd : Int), .int .i64 p, .int .i64 n', .int .u8 kd, .int .u8 s0, .bool fo, .bool false, .bool false] 47)
                      have ow := ow.alloc (.cells #[.int .i32 r0, .int .i64 (nd : Int), .int .i64 p, .int .i64 n', .int .u8 kd, .int .u8 s0, .bool fo, .bool false, .bool false] 47)
                      have hB := bel_alloc hB (.cells #[.int .i32 r0, .int .i64 (nd : Int), .int .i64 p, .int .i64 n', .int .u8 kd, .int .u8 s0, .bool fo, .bool false, .bool false] 47)
                      refine hK.out _ _ ⟨hS.1.alloc _, bel_alloc hS.2 _⟩ (fun hS => ?_)
                      clear hK K
                      try simp only [List.getElem_toArray, List.getElem_cons_zero, List.getElem_cons_succ, Act.put, List.setIfInBounds_toArray, List.set_cons_zero, List.set_cons_succ]
                      refine wpAnyH_ready (rs := [16]) (by kernel_rfl) (by simp) ?_
                      refine AllReadyH.cons rfl (fun K hK => ?_) ?_
                      · skip
                        refine step_append_any _ rfl (.tmp 55) (.tmp 70) 45 rfl (W.heap.size + 1) 47 i0 (.agg #[.int .i32 0, .int .i64 0, .int .i64 0, .int .i64 0, .int .u8 0, .int .u8 0, .bool false, .bool false, .bool false]) 9 48 Try.underlying45 hi hz0 hz1 hz2 rfl (by decide) (.slice A0 k c0) _ _ rfl ow _ _ 1 1 (mkC ⟨⟨r0, nd, p, n', kd⟩, s0, fo, false, false⟩) rfl (reads_newK _ _ _ 1 _ rfl rfl) (mkC_one _) (by unfold maxLen; omega) (by omega) (by have := hO.lt; omega) (fun v' w7 hown' hg _ => ?_)
                        obtain ⟨A', c', rfl⟩ := own_shape hown'
                        have hne := own_blk_ne ow hO (by decide)
                        have hnx := own_blk_ne ow hS.1 (by decide)
                        have hO := hO.grown hg (fun e => hne e.symm)
                        have hB := bel_grown hB (own_le ow (by omega)) hg
                        have ow := hown'
                        refine hK.out _ _ ⟨hS.1.grown hg (fun e => hnx e.symm), hB⟩ (fun hS => ?_)
                        clear hK K
                        try simp only [List.getElem_toArray, List.getElem_cons_zero, List.getElem_cons_succ, Act.put, List.setIfInBounds_toArray, List.set_cons_zero, List.set_cons_succ]
                        refine wpAnyH_ready (rs := [17]) (by kernel_rfl) (by simp) ?_
                        refine AllReadyH.cons rfl (fun K hK => ?_) ?_
                        · skip
                          rw [if_pos (by rfl)]
                          have cO := hO.cell 0
                          have fO := hO.frozen 0
                          go_simp
                          have hB := hB.setCell (p := ⟨W.heap.size, 0, none⟩) (by simp) (.slice A' (k + 1) c')
                          have hO : Blk (w7.setCell ⟨W.heap.size, 0, none⟩ (.slice A' (k + 1) c')) W.heap.size 45 #[.slice A' (k + 1) c'] := hO.set_ 0 _
                          have ow := ownsRow_setCell_below ow (a := ⟨W.heap.size, 0, none⟩) (by simp) (.slice A' (k + 1) c')
                          refine hK.out _ _ ⟨hS.1.far (by simp only; omega) _, hB⟩ (fun hS => ?_)
                          clear hK K
                          try simp only [List.getElem_toArray, List.getElem_cons_zero, List.getElem_cons_succ, Act.put, List.setIfInBounds_toArray, List.set_cons_zero, List.set_cons_succ]
                          refine wpAnyH_done (by kernel_rfl) ?_ _
                          go_wp2
                          go_roundw
                          case rel => exact ⟨k + 1, by go_num, by omega, Lib.hid (rel1_step HM.out HOK.out HOk.out HEQ.out hO ow hB)⟩
                          case measure => simp [intOf]; omega
                        exact AllReadyH.nil
                      exact AllReadyH.nil
                    exact AllReadyH.nil
                  exact AllReadyH.nil
                refine AllReadyH.cons rfl (fun K hK => ?_) ?_
                · skip
                  rw [if_pos (by rfl)]
                  go_simp
                  (with_reducible refine (HCo.out _).mono ?_)
                  rintro e v ⟨rfl, hb⟩
                  have hO := hO.keep hb
                  have ow := own_below ow hb
                  have hB := bel_trans hB hb
                  refine hK.out _ _ ⟨hS.1.keep hb, bel_trans hS.2 hb⟩ (fun hS => ?_)
                  clear hK K
                  try simp only [List.getElem_toArray, List.getElem_cons_zero, List.getElem_cons_succ, Act.put, List.setIfInBounds_toArray, List.set_cons_zero, List.set_cons_succ]
                  refine wpAnyH_take (i := 14) (oi := _) (v := .agg #[.int .i32 r0, .int .i64 (nd : Int), .int .i64 p, .int .i64 n', .int .u8 kd, .int .u8 s0, .bool fo, .bool false, .bool false]) rfl (by kernel_rfl) (by kernel_rfl) (by kernel_rfl) (fun _ _ _ h => h) (Or.inl ⟨by rfl, ?_⟩) hS ?_
                  · intro wz hz
                    clear hz
                    go_simp
                  try simp only [List.getElem_toArray, List.getElem_cons_zero, List.getElem_cons_succ, Act.put, List.setIfInBounds_toArray, List.set_cons_zero, List.set_cons_succ]
                  refine wpAnyH_ready (rs := [0, 15]) (by kernel_rfl) (by simp) ?_
                  refine AllReadyH.cons rfl (fun K hK => ?_) ?_
                  · skip
                    rw [if_pos (by rfl)]
                    have cO := hO.cell 0
                    go_simp
                    refine hK.out _ _ hS (fun hS => ?_)
                    clear hK K
                    try simp only [List.getElem_toArray, List.getElem_cons_zero, List.getElem_cons_succ, Act.put, List.setIfInBounds_toArray, List.set_cons_zero, List.set_cons_succ]
                    refine wpAnyH_ready (rs := [15]) (by kernel_rfl) (by simp) ?_
                    refine AllReadyH.cons rfl (fun K hK => ?_) ?_
                    · skip
                      rw [if_pos (by rfl)]
                      go_simp
                      have hO := hO.alloc (.cells #[.int .i32 r0, .int .i64 (nd : Int), .int .i64 p, .int .i64 n', .int .u8 kd, .int .u8 s0, .bool fo, .bool false, .bool false] 47)
                      have ow := ow.alloc (.cells #[.int .i32 r0, .int .i64 (nd : Int), .int .i64 p, .int .i64 n', .int .u8 kd, .int .u8 s0, .bool fo, .bool false, .bool false] 47)
                      have hB := bel_alloc hB (.cells #[.int .i32 r0, .int .i64 (nd : Int), .int .i64 p, .int .i64 n', .int .u8 kd, .int .u8 s0, .bool fo, .bool false, .bool false] 47)
                      refine hK.out _ _ ⟨hS.1.alloc _, bel_alloc hS.2 _⟩ (fun hS => ?_)
                      clear hK K
                      try simp only [List.getElem_toArray, List.getElem_cons_zero, List.getElem_cons_succ, Act.put, List.setIfInBounds_toArray, List.set_cons_zero, List.set_cons_succ]
                      refine wpAnyH_ready (rs := [16]) (by kernel_rfl) (by simp) ?_
                      refine AllReadyH.cons rfl (fun K hK => ?_) ?_
                      · skip
                        refine step_append_any _ rfl (.tmp 55) (.tmp 70) 45 rfl (W.heap.size + 1) 47 i0 (.agg #[.int .i32 0, .int .i64 0, .int .i64 0, .int .i64 0, .int .u8 0, .int .u8 0, .bool false, .bool false, .bool false]) 9 48 Try.underlying45 hi hz0 hz1 hz2 rfl (by decide) (.slice A0 k c0) _ _ rfl ow _ _ 1 1 (mkC ⟨⟨r0, nd, p, n', kd⟩, s0, fo, false, false⟩) rfl (reads_newK _ _ _ 1 _ rfl rfl) (mkC_one _) (by unfold maxLen; omega) (by omega) (by have := hO.lt; omega) (fun v' w7 hown' hg _ => ?_)
                        obtain ⟨A', c', rfl⟩ := own_shape hown'
                        have hne := own_blk_ne ow hO (by decide)
                        have hnx := own_blk_ne ow hS.1 (by decide)
                        have hO := hO.grown hg (fun e => hne e.symm)
                        have hB := bel_grown hB (own_le ow (by omega)) hg
                        have ow := hown'
                        refine hK.out _ _ ⟨hS.1.grown hg (fun e => hnx e.symm), hB⟩ (fun hS => ?_)
                        clear hK K
                        try simp only [List.getElem_toArray, List.getElem_cons_zero, List.getElem_cons_succ, Act.put, List.setIfInBounds_toArray, List.set_cons_zero, List.set_cons_succ]
                        refine wpAnyH_ready (rs := [17]) (by kernel_rfl) (by simp) ?_
                        refine AllReadyH.cons rfl (fun K hK => ?_) ?_
                        · skip
                          rw [if_pos (by rfl)]
                          have cO := hO.cell 0
                          have fO := hO.frozen 0
                          go_simp
                          have hB := hB.setCell (p := ⟨W.heap.size, 0, none⟩) (by simp) (.slice A' (k + 1) c')
                          have hO : Blk (w7.setCell ⟨W.heap.size, 0, none⟩ (.slice A' (k + 1) c')) W.heap.size 45 #[.slice A' (k + 1) c'] := hO.set_ 0 _
                          have ow := ownsRow_setCell_below ow (a := ⟨W.heap.size, 0, none⟩) (by simp) (.slice A' (k + 1) c')
                          refine hK.out _ _ ⟨hS.1.far (by simp only; omega) _, hB⟩ (fun hS => ?_)
                          clear hK K
                          try simp only [List.getElem_toArray, List.getElem_cons_zero, List.getElem_cons_succ, Act.put, List.setIfInBounds_toArray, List.set_cons_zero, List.set_cons_succ]
                          refine wpAnyH_done (by kernel_rfl) ?_ _
                          go_wp2
                          go_roundw
                          case rel => exact ⟨k + 1, by go_num, by omega, Lib.hid (rel1_step HM.out HOK.out HOk.out HEQ.out hO ow hB)⟩
                          case measure => simp [intOf]; omega
                        exact AllReadyH.nil
                      exact AllReadyH.nil
                    exact AllReadyH.nil
                  refine AllReadyH.cons rfl (fun K hK => ?_) ?_
                  · skip
                    rw [if_pos (by rfl)]
                    go_simp
                    have hO := hO.alloc (.cells #[.int .i32 r0, .int .i64 (nd : Int), .int .i64 p, .int .i64 n', .int .u8 kd, .int .u8 s0, .bool fo, .bool false, .bool false] 47)
                    have ow := ow.alloc (.cells #[.int .i32 r0, .int .i64 (nd : Int), .int .i64 p, .int .i64 n', .int .u8 kd, .int .u8 s0, .bool fo, .bool false, .bool false] 47)
                    have hB := bel_alloc hB (.cells #[.int .i32 r0, .int .i64 (nd : Int), .int .i64 p, .int .i64 n', .int .u8 kd, .int .u8 s0, .bool fo, .bool false, .bool false] 47)
                    refine hK.out _ _ ⟨hS.1.alloc _, bel_alloc hS.2 _⟩ (fun hS => ?_)
                    clear hK K
                    try simp only [List.getElem_toArray, List.getElem_cons_zero, List.getElem_cons_succ, Act.put, List.setIfInBounds_toArray, List.set_cons_zero, List.set_cons_succ]
                    refine wpAnyH_ready (rs := [0]) (by kernel_rfl) (by simp) ?_
                    refine AllReadyH.cons rfl (fun K hK => ?_) ?_
                    · skip
                      rw [if_pos (by rfl)]
                      have cO := hO.cell 0
                      go_simp
                      refine hK.out _ _ hS (fun hS => ?_)
                      clear hK K
                      try simp only [List.getElem_toArray, List.getElem_cons_zero, List.getElem_cons_succ, Act.put, List.setIfInBounds_toArray, List.set_cons_zero, List.set_cons_succ]
                      refine wpAnyH_ready (rs := [16]) (by kernel_rfl) (by simp) ?_
                      refine AllReadyH.cons rfl (fun K hK => ?_) ?_
                      · skip
                        refine step_append_any _ rfl (.tmp 55) (.tmp 70) 45 rfl (W.heap.size + 1) 47 i0 (.agg #[.int .i32 0, .int .i64 0, .int .i64 0, .int .i64 0, .int .u8 0, .int .u8 0, .bool false, .bool false, .bool false]) 9 48 Try.underlying45 hi hz0 hz1 hz2 rfl (by decide) (.slice A0 k c0) _ _ rfl ow _ _ 1 1 (mkC ⟨⟨r0, nd, p, n', kd⟩, s0, fo, false, false⟩) rfl (reads_newK _ _ _ 1 _ rfl rfl) (mkC_one _) (by unfold maxLen; omega) (by omega) (by have := hO.lt; omega) (fun v' w7 hown' hg _ => ?_)
                        obtain ⟨A', c', rfl⟩ := own_shape hown'
                        have hne := own_blk_ne ow hO (by decide)
                        have hnx := own_blk_ne ow hS.1 (by decide)
                        have hO := hO.grown hg (fun e => hne e.symm)
                        have hB := bel_grown hB (own_le ow (by omega)) hg
                        have ow := hown'
                        refine hK.out _ _ ⟨hS.1.grown hg (fun e => hnx e.symm), hB⟩ (fun hS => ?_)
                        clear hK K
                        try simp only [List.getElem_toArray, List.getElem_cons_zero, List.getElem_cons_succ, Act.put, List.setIfInBounds_toArray, List.set_cons_zero, List.set_cons_succ]
                        refine wpAnyH_ready (rs := [17]) (by kernel_rfl) (by simp) ?_
                        refine AllReadyH.cons rfl (fun K hK => ?_) ?_
                        · skip
                          rw [if_pos (by rfl)]
                          have cO := hO.cell 0
                          have fO := hO.frozen 0
                          go_simp
                          have hB := hB.setCell (p := ⟨W.heap.size, 0, none⟩) (by simp) (.slice A' (k + 1) c')
                          have hO : Blk (w7.setCell ⟨W.heap.size, 0, none⟩ (.slice A' (k + 1) c')) W.heap.size 45 #[.slice A' (k + 1) c'] := hO.set_ 0 _
                          have ow := ownsRow_setCell_below ow (a := ⟨W.heap.size, 0, none⟩) (by simp) (.slice A' (k + 1) c')
                          refine hK.out _ _ ⟨hS.1.far (by simp only; omega) _, hB⟩ (fun hS => ?_)
                          clear hK K
                          try simp only [List.getElem_toArray, List.getElem_cons_zero, List.getElem_cons_succ, Act.put, List.setIfInBounds_toArray, List.set_cons_zero, List.set_cons_succ]
                          refine wpAnyH_done (by kernel_rfl) ?_ _
                          go_wp2
                          go_roundw
                          case rel => exact ⟨k + 1, by go_num, by omega, Lib.hid (rel1_step HM.out HOK.out HOk.out HEQ.out hO ow hB)⟩
                          case measure => simp [intOf]; omega
                        exact AllReadyH.nil
                      exact AllReadyH.nil
                    exact AllReadyH.nil
                  exact AllReadyH.nil
                exact AllReadyH.nil
              · have g0 : (kd != 0) = false := by simp [hk0]
                clear hkd hk0
                go_upto_region 7 with fail
                have hO := HOO.out.alloc (.cells #[.int .i32 r0, .int .i64 (nd : Int), .int .i64 p, .int .i64 n', .int .u8 kd] 38)
                have ow := HOW.out.alloc (.cells #[.int .i32 r0, .int .i64 (nd : Int), .int .i64 p, .int .i64 n', .int .u8 kd] 38)
                have hB := HBX.out
                refine wp_region_held_drew (S := fun V => Blk V wr.heap.size 38 #[.int .i32 r0, .int .i64 (nd : Int), .int .i64 p, .int .i64 n', .int .u8 kd] ∧ Below W.heap.size W V) (by kernel_rfl) ⟨(Blk.new wr _ _).drew, HBX.out.drew⟩ (fun hS => ?_)
                have hO := hO.drew
                have ow := own_drewN ow 1
                have hB := hB.drew
                refine wpAnyH_take (i := 1) (oi := _) (v := .agg #[.int .i32 r0, .int .i64 (nd : Int), .int .i64 p, .int .i64 n', .int .u8 kd]) rfl (by kernel_rfl) (by kernel_rfl) (by kernel_rfl) (fun _ _ _ h => h) (Or.inl ⟨by rfl, ?_⟩) hS ?_
                · intro wz hz
                  obtain ⟨z1, z2⟩ := hz
                  have d0 : wz.cell? ⟨wr.heap.size, 0, none⟩ = some (.int .i32 r0) := z1.cell 0
                  have d1 : wz.cell? ⟨wr.heap.size, 1, none⟩ = some (.int .i64 (nd : Int)) := z1.cell 1
                  have d2 : wz.cell? ⟨wr.heap.size, 2, none⟩ = some (.int .i64 p) := z1.cell 2
                  have d3 : wz.cell? ⟨wr.heap.size, 3, none⟩ = some (.int .i64 n') := z1.cell 3
                  have d4 : wz.cell? ⟨wr.heap.size, 4, none⟩ = some (.int .u8 kd) := z1.cell 4
                  obtain ⟨y0, y1, y2, y3, y4, y5, y6, y7, y8⟩ := HcS.out _ z2
                  simp only at y0 y1 y2 y3 y4 y5 y6 y7 y8
                  clear z1 z2
                  go_simp
                try simp only [List.getElem_toArray, List.getElem_cons_zero, List.getElem_cons_succ, Act.put, List.setIfInBounds_toArray, List.set_cons_zero, List.set_cons_succ]
                refine wpAnyH_take (i := 2) (oi := _) (v := .slice (some adS) nS cS) rfl (by kernel_rfl) (by kernel_rfl) (by kernel_rfl) (fun _ _ _ h => h) (Or.inl ⟨by rfl, ?_⟩) hS ?_
                · intro wz hz
                  clear hz
                  go_simp
                try simp only [List.getElem_toArray, List.getElem_cons_zero, List.getElem_cons_succ, Act.put, List.setIfInBounds_toArray, List.set_cons_zero, List.set_cons_succ]
                refine wpAnyH_take (i := 3) (oi := _) (v := .pointer (some ⟨wr.heap.size, 1, none⟩)) rfl (by kernel_rfl) (by kernel_rfl) (by kernel_rfl) (fun _ _ _ h => h) (Or.inl ⟨by rfl, ?_⟩) hS ?_
                · intro wz hz
                  clear hz
                  go_simp
                try simp only [List.getElem_toArray, List.getElem_cons_zero, List.getElem_cons_succ, Act.put, List.setIfInBounds_toArray, List.set_cons_zero, List.set_cons_succ]
                refine wpAnyH_take (i := 4) (oi := _) (v := .int .i64 (nd : Int)) rfl (by kernel_rfl) (by kernel_rfl) (by kernel_rfl) (fun _ _ _ h => h) (Or.inl ⟨by rfl, ?_⟩) hS ?_
                · intro wz hz
                  obtain ⟨z1, z2⟩ := hz
                  have d0 : wz.cell? ⟨wr.heap.size, 0, none⟩ = some (.int .i32 r0) := z1.cell 0
                  have d1 : wz.cell? ⟨wr.heap.size, 1, none⟩ = some (.int .i64 (nd : Int)) := z1.cell 1
                  have d2 : wz.cell? ⟨wr.heap.size, 2, none⟩ = some (.int .i64 p) := z1.cell 2
                  have d3 : wz.cell? ⟨wr.heap.size, 3, none⟩ = some (.int .i64 n') := z1.cell 3
                  have d4 : wz.cell? ⟨wr.heap.size, 4, none⟩ = some (.int .u8 kd) := z1.cell 4
                  obtain ⟨y0, y1, y2, y3, y4, y5, y6, y7, y8⟩ := HcS.out _ z2
                  simp only at y0 y1 y2 y3 y4 y5 y6 y7 y8
                  clear z1 z2
                  go_simp
                try simp only [List.getElem_toArray, List.getElem_cons_zero, List.getElem_cons_succ, Act.put, List.setIfInBounds_toArray, List.set_cons_zero, List.set_cons_succ]
                refine wpAnyH_take (i := 5) (oi := _) (v := .pointer (some (adS.add (nd * 9)))) rfl (by kernel_rfl) (by kernel_rfl) (by kernel_rfl) (fun _ _ _ h => h) (Or.inl ⟨by rfl, ?_⟩) hS ?_
                · intro wz hz
                  clear hz
                  go_simp
                try simp only [List.getElem_toArray, List.getElem_cons_zero, List.getElem_cons_succ, Act.put, List.setIfInBounds_toArray, List.set_cons_zero, List.set_cons_succ]
                refine wpAnyH_take (i := 6) (oi := _) (v := .pointer (some (adS.add (nd * 9)))) rfl (by kernel_rfl) (by kernel_rfl) (by kernel_rfl) (fun _ _ _ h => h) (Or.inl ⟨by rfl, ?_⟩) hS ?_
                · intro wz hz
                  clear hz
                  go_simp
                try simp only [List.getElem_toArray, List.getElem_cons_zero, List.getElem_cons_succ, Act.put, List.setIfInBounds_toArray, List.set_cons_zero, List.set_cons_succ]
                refine wpAnyH_take (i := 7) (oi := _) (v := .int .u8 s0) rfl (by kernel_rfl) (by kernel_rfl) (by kernel_rfl) (fun _ _ _ h => h) (Or.inl ⟨by rfl, ?_⟩) hS ?_
                · intro wz hz
                  obtain ⟨z1, z2⟩ := hz
                  have d0 : wz.cell? ⟨wr.heap.size, 0, none⟩ = some (.int .i32 r0) := z1.cell 0
                  have d1 : wz.cell? ⟨wr.heap.size, 1, none⟩ = some (.int .i64 (nd : Int)) := z1.cell 1
                  have d2 : wz.cell? ⟨wr.heap.size, 2, none⟩ = some (.int .i64 p) := z1.cell 2
                  have d3 : wz.cell? ⟨wr.heap.size, 3, none⟩ = some (.int .i64 n') := z1.cell 3
                  have d4 : wz.cell? ⟨wr.heap.size, 4, none⟩ = some (.int .u8 kd) := z1.cell 4
                  obtain ⟨y0, y1, y2, y3, y4, y5, y6, y7, y8⟩ := HcS.out _ z2
                  simp only at y0 y1 y2 y3 y4 y5 y6 y7 y8
                  clear z1 z2
                  go_simp
                try simp only [List.getElem_toArray, List.getElem_cons_zero, List.getElem_cons_succ, Act.put, List.setIfInBounds_toArray, List.set_cons_zero, List.set_cons_succ]
                refine wpAnyH_take (i := 8) (oi := _) (v := .slice (some adS) nS cS) rfl (by kernel_rfl) (by kernel_rfl) (by kernel_rfl) (fun _ _ _ h => h) (Or.inl ⟨by rfl, ?_⟩) hS ?_
                · intro wz hz
                  clear hz
                  go_simp
                try simp only [List.getElem_toArray, List.getElem_cons_zero, List.getElem_cons_succ, Act.put, List.setIfInBounds_toArray, List.set_cons_zero, List.set_cons_succ]
                refine wpAnyH_take (i := 9) (oi := _) (v := .pointer (some ⟨wr.heap.size, 1, none⟩)) rfl (by kernel_rfl) (by kernel_rfl) (by kernel_rfl) (fun _ _ _ h => h) (Or.inl ⟨by rfl, ?_⟩) hS ?_
                · intro wz hz
                  clear hz
                  go_simp
                try simp only [List.getElem_toArray, List.getElem_cons_zero, List.getElem_cons_succ, Act.put, List.setIfInBounds_toArray, List.set_cons_zero, List.set_cons_succ]
                refine wpAnyH_take (i := 10) (oi := _) (v := .int .i64 (nd : Int)) rfl (by kernel_rfl) (by kernel_rfl) (by kernel_rfl) (fun _ _ _ h => h) (Or.inl ⟨by rfl, ?_⟩) hS ?_
                · intro wz hz
                  obtain ⟨z1, z2⟩ := hz
                  have d0 : wz.cell? ⟨wr.heap.size, 0, none⟩ = some (.int .i32 r0) := z1.cell 0
                  have d1 : wz.cell? ⟨wr.heap.size, 1, none⟩ = some (.int .i64 (nd : Int)) := z1.cell 1
                  have d2 : wz.cell? ⟨wr.heap.size, 2, none⟩ = some (.int .i64 p) := z1.cell 2
                  have d3 : wz.cell? ⟨wr.heap.size, 3, none⟩ = some (.int .i64 n') := z1.cell 3
                  have d4 : wz.cell? ⟨wr.heap.size, 4, none⟩ = some (.int .u8 kd) := z1.cell 4
                  obtain ⟨y0, y1, y2, y3, y4, y5, y6, y7, y8⟩ := HcS.out _ z2
                  simp only at y0 y1 y2 y3 y4 y5 y6 y7 y8
                  clear z1 z2
                  go_simp
                try simp only [List.getElem_toArray, List.getElem_cons_zero, List.getElem_cons_succ, Act.put, List.setIfInBounds_toArray, List.set_cons_zero, List.set_cons_succ]
                refine wpAnyH_take (i := 11) (oi := _) (v := .pointer (some (adS.add (nd * 9)))) rfl (by kernel_rfl) (by kernel_rfl) (by kernel_rfl) (fun _ _ _ h => h) (Or.inl ⟨by rfl, ?_⟩) hS ?_
                · intro wz hz
                  clear hz
                  go_simp
                try simp only [List.getElem_toArray, List.getElem_cons_zero, List.getElem_cons_succ, Act.put, List.setIfInBounds_toArray, List.set_cons_zero, List.set_cons_succ]
                refine wpAnyH_take (i := 12) (oi := _) (v := .agg #[.int .u8 s0, .int .u8 s1, .int .u8 s2, .int .u8 s3, .int .i64 s4, .int .i64 s5, .int .i64 s6, .int .u8 s7, .int .i64 s8]) rfl (by kernel_rfl) (by kernel_rfl) (by kernel_rfl) (fun _ _ _ h => h) (Or.inl ⟨by rfl, ?_⟩) hS ?_
                · intro wz hz
                  obtain ⟨z1, z2⟩ := hz
                  have d0 : wz.cell? ⟨wr.heap.size, 0, none⟩ = some (.int .i32 r0) := z1.cell 0
                  have d1 : wz.cell? ⟨wr.heap.size, 1, none⟩ = some (.int .i64 (nd : Int)) := z1.cell 1
                  have d2 : wz.cell? ⟨wr.heap.size, 2, none⟩ = some (.int .i64 p) := z1.cell 2
                  have d3 : wz.cell? ⟨wr.heap.size, 3, none⟩ = some (.int .i64 n') := z1.cell 3
                  have d4 : wz.cell? ⟨wr.heap.size, 4, none⟩ = some (.int .u8 kd) := z1.cell 4
                  obtain ⟨y0, y1, y2, y3, y4, y5, y6, y7, y8⟩ := HcS.out _ z2
                  simp only at y0 y1 y2 y3 y4 y5 y6 y7 y8
                  clear z1 z2
                  go_simp
                try simp only [List.getElem_toArray, List.getElem_cons_zero, List.getElem_cons_succ, Act.put, List.setIfInBounds_toArray, List.set_cons_zero, List.set_cons_succ]
                refine wpAnyH_ready (rs := [0, 13]) (by kernel_rfl) (by simp) ?_
                refine AllReadyH.cons rfl (fun K hK => ?_) ?_
                · skip
                  rw [if_pos (by rfl)]
                  have cO := hO.cell 0
                  go_simp
                  refine hK.out _ _ hS (fun hS => ?_)
                  clear hK K
                  try simp only [List.getElem_toArray, List.getElem_cons_zero, List.getElem_cons_succ, Act.put, List.setIfInBounds_toArray, List.set_cons_zero, List.set_cons_succ]
                  refine wpAnyH_ready (rs := [13]) (by kernel_rfl) (by simp) ?_
                  refine AllReadyH.cons rfl (fun K hK => ?_) ?_
                  · skip
                    rw [if_pos (by rfl)]
                    go_simp
                    (with_reducible refine (HCo.out _).mono ?_)
                    rintro e v ⟨rfl, hb⟩
                    have hO := hO.keep hb
                    have ow := own_below ow hb
                    have hB := bel_trans hB hb
                    refine hK.out _ _ ⟨hS.1.keep hb, bel_trans hS.2 hb⟩ (fun hS => ?_)
                    clear hK K
                    try simp only [List.getElem_toArray, List.getElem_cons_zero, List.getElem_cons_succ, Act.put, List.setIfInBounds_toArray, List.set_cons_zero, List.set_cons_succ]
                    refine wpAnyH_take (i := 14) (oi := _) (v := .agg #[.int .i32 r0, .int .i64 (nd : Int), .int .i64 p, .int .i64 n', .int .u8 kd, .int .u8 s0, .bool fo, .bool false, .bool false]) rfl (by kernel_rfl) (by kernel_rfl) (by kernel_rfl) (fun _ _ _ h => h) (Or.inl ⟨by rfl, ?_⟩) hS ?_
                    · intro wz hz
                      clear hz
                      go_simp
                    try simp only [List.getElem_toArray, List.getElem_cons_zero, List.getElem_cons_succ, Act.put, List.setIfInBounds_toArray, List.set_cons_zero, List.set_cons_succ]
                    refine wpAnyH_ready (rs := [15]) (by kernel_rfl) (by simp) ?_
                    refine AllReadyH.cons rfl (fun K hK => ?_) ?_
                    · skip
                      rw [if_pos (by rfl)]
                      go_simp
                      have hO := hO.alloc (.cells #[.int .i32 r0, .int .i64 (nd : Int), .int .i64 p, .int .i64 n', .int .u8 kd, .int .u8 s0, .bool fo, .bool false, .bool false] 47)
                      have ow := ow.alloc (.cells #[.int .i32 r0, .int .i64 (nd : Int), .int .i64 p, .int .i64 n', .int .u8 kd, .int .u8 s0, .bool fo, .bool false, .bool false] 47)
                      have hB := bel_alloc hB (.cells #[.int .i32 r0, .int .i64 (nd : Int), .int .i64 p, .int .i64 n', .int .u8 kd, .int .u8 s0, .bool fo, .bool false, .bool false] 47)
                      refine hK.out _ _ ⟨hS.1.alloc _, bel_alloc hS.2 _⟩ (fun hS => ?_)
                      clear hK K
                      try simp only [List.getElem_toArray, List.getElem_cons_zero, List.getElem_cons_succ, Act.put, List.setIfInBounds_toArray, List.set_cons_zero, List.set_cons_succ]
                      refine wpAnyH_ready (rs := [16]) (by kernel_rfl) (by simp) ?_
                      refine AllReadyH.cons rfl (fun K hK => ?_) ?_
                      · skip
                        refine step_append_any _ rfl (.tmp 55) (.tmp 70) 45 rfl (W.heap.size + 1) 47 i0 (.agg #[.int .i32 0, .int .i64 0, .int .i64 0, .int .i64 0, .int .u8 0, .int .u8 0, .bool false, .bool false, .bool false]) 9 48 Try.underlying45 hi hz0 hz1 hz2 rfl (by decide) (.slice A0 k c0) _ _ rfl ow _ _ 1 1 (mkC ⟨⟨r0, nd, p, n', kd⟩, s0, fo, false, false⟩) rfl (reads_newK _ _ _ 1 _ rfl rfl) (mkC_one _) (by unfold maxLen; omega) (by omega) (by have := hO.lt; omega) (fun v' w7 hown' hg _ => ?_)
                        obtain ⟨A', c', rfl⟩ := own_shape hown'
                        have hne := own_blk_ne ow hO (by decide)
                        have hnx := own_blk_ne ow hS.1 (by decide)
                        have hO := hO.grown hg (fun e => hne e.symm)
                        have hB := bel_grown hB (own_le ow (by omega)) hg
                        have ow := hown'
                        refine hK.out _ _ ⟨hS.1.grown hg (fun e => hnx e.symm), hB⟩ (fun hS => ?_)
                        clear hK K
                        try simp only [List.getElem_toArray, List.getElem_cons_zero, List.getElem_cons_succ, Act.put, List.setIfInBounds_toArray, List.set_cons_zero, List.set_cons_succ]
                        refine wpAnyH_ready (rs := [17]) (by kernel_rfl) (by simp) ?_
                        refine AllReadyH.cons rfl (fun K hK => ?_) ?_
                        · skip
                          rw [if_pos (by rfl)]
                          have cO := hO.cell 0
                          have fO := hO.frozen 0
                          go_simp
                          have hB := hB.setCell (p := ⟨W.heap.size, 0, none⟩) (by simp) (.slice A' (k + 1) c')
                          have hO : Blk (w7.setCell ⟨W.heap.size, 0, none⟩ (.slice A' (k + 1) c')) W.heap.size 45 #[.slice A' (k + 1) c'] := hO.set_ 0 _
                          have ow := ownsRow_setCell_below ow (a := ⟨W.heap.size, 0, none⟩) (by simp) (.slice A' (k + 1) c')
                          refine hK.out _ _ ⟨hS.1.far (by simp only; omega) _, hB⟩ (fun hS => ?_)
                          clear hK K
                          try simp only [List.getElem_toArray, List.getElem_cons_zero, List.getElem_cons_succ, Act.put, List.setIfInBounds_toArray, List.set_cons_zero, List.set_cons_succ]
                          refine wpAnyH_done (by kernel_rfl) ?_ _
                          go_wp2
                          go_roundw
                          case rel => exact ⟨k + 1, by go_num, by omega, Lib.hid (rel1_step HM.out HOK.out HOk.out HEQ.out hO ow hB)⟩
                          case measure => simp [intOf]; omega
                        exact AllReadyH.nil
                      exact AllReadyH.nil
                    exact AllReadyH.nil
                  exact AllReadyH.nil
                refine AllReadyH.cons rfl (fun K hK => ?_) ?_
                · skip
                  rw [if_pos (by rfl)]
                  go_simp
                  (with_reducible refine (HCo.out _).mono ?_)
                  rintro e v ⟨rfl, hb⟩
                  have hO := hO.keep hb
                  have ow := own_below ow hb
                  have hB := bel_trans hB hb
                  refine hK.out _ _ ⟨hS.1.keep hb, bel_trans hS.2 hb⟩ (fun hS => ?_)
                  clear hK K
                  try simp only [List.getElem_toArray, List.getElem_cons_zero, List.getElem_cons_succ, Act.put, List.setIfInBounds_toArray, List.set_cons_zero, List.set_cons_succ]
                  refine wpAnyH_take (i := 14) (oi := _) (v := .agg #[.int .i32 r0, .int .i64 (nd : Int), .int .i64 p, .int .i64 n', .int .u8 kd, .int .u8 s0, .bool fo, .bool false, .bool false]) rfl (by kernel_rfl) (by kernel_rfl) (by kernel_rfl) (fun _ _ _ h => h) (Or.inl ⟨by rfl, ?_⟩) hS ?_
                  · intro wz hz
                    clear hz
                    go_simp
                  try simp only [List.getElem_toArray, List.getElem_cons_zero, List.getElem_cons_succ, Act.put, List.setIfInBounds_toArray, List.set_cons_zero, List.set_cons_succ]
                  refine wpAnyH_ready (rs := [0, 15]) (by kernel_rfl) (by simp) ?_
                  refine AllReadyH.cons rfl (fun K hK => ?_) ?_
                  · skip
                    rw [if_pos (by rfl)]
                    have cO := hO.cell 0
                    go_simp
                    refine hK.out _ _ hS (fun hS => ?_)
                    clear hK K
                    try simp only [List.getElem_toArray, List.getElem_cons_zero, List.getElem_cons_succ, Act.put, List.setIfInBounds_toArray, List.set_cons_zero, List.set_cons_succ]
                    refine wpAnyH_ready (rs := [15]) (by kernel_rfl) (by simp) ?_
                    refine AllReadyH.cons rfl (fun K hK => ?_) ?_
                    · skip
                      rw [if_pos (by rfl)]
                      go_simp
                      have hO := hO.alloc (.cells #[.int .i32 r0, .int .i64 (nd : Int), .int .i64 p, .int .i64 n', .int .u8 kd, .int .u8 s0, .bool fo, .bool false, .bool false] 47)
                      have ow := ow.alloc (.cells #[.int .i32 r0, .int .i64 (nd : Int), .int .i64 p, .int .i64 n', .int .u8 kd, .int .u8 s0, .bool fo, .bool false, .bool false] 47)
                      have hB := bel_alloc hB (.cells #[.int .i32 r0, .int .i64 (nd : Int), .int .i64 p, .int .i64 n', .int .u8 kd, .int .u8 s0, .bool fo, .bool false, .bool false] 47)
                      refine hK.out _ _ ⟨hS.1.alloc _, bel_alloc hS.2 _⟩ (fun hS => ?_)
                      clear hK K
                      try simp only [List.getElem_toArray, List.getElem_cons_zero, List.getElem_cons_succ, Act.put, List.setIfInBounds_toArray, List.set_cons_zero, List.set_cons_succ]
                      refine wpAnyH_ready (rs := [16]) (by kernel_rfl) (by simp) ?_
                      refine AllReadyH.cons rfl (fun K hK => ?_) ?_
                      · skip
                        refine step_append_any _ rfl (.tmp 55) (.tmp 70) 45 rfl (W.heap.size + 1) 47 i0 (.agg #[.int .i32 0, .int .i64 0, .int .i64 0, .int .i64 0, .int .u8 0, .int .u8 0, .bool false, .bool false, .bool false]) 9 48 Try.underlying45 hi hz0 hz1 hz2 rfl (by decide) (.slice A0 k c0) _ _ rfl ow _ _ 1 1 (mkC ⟨⟨r0, nd, p, n', kd⟩, s0, fo, false, false⟩) rfl (reads_newK _ _ _ 1 _ rfl rfl) (mkC_one _) (by unfold maxLen; omega) (by omega) (by have := hO.lt; omega) (fun v' w7 hown' hg _ => ?_)
                        obtain ⟨A', c', rfl⟩ := own_shape hown'
                        have hne := own_blk_ne ow hO (by decide)
                        have hnx := own_blk_ne ow hS.1 (by decide)
                        have hO := hO.grown hg (fun e => hne e.symm)
                        have hB := bel_grown hB (own_le ow (by omega)) hg
                        have ow := hown'
                        refine hK.out _ _ ⟨hS.1.grown hg (fun e => hnx e.symm), hB⟩ (fun hS => ?_)
                        clear hK K
                        try simp only [List.getElem_toArray, List.getElem_cons_zero, List.getElem_cons_succ, Act.put, List.setIfInBounds_toArray, List.set_cons_zero, List.set_cons_succ]
                        refine wpAnyH_ready (rs := [17]) (by kernel_rfl) (by simp) ?_
                        refine AllReadyH.cons rfl (fun K hK => ?_) ?_
                        · skip
                          rw [if_pos (by rfl)]
                          have cO := hO.cell 0
                          have fO := hO.frozen 0
                          go_simp
                          have hB := hB.setCell (p := ⟨W.heap.size, 0, none⟩) (by simp) (.slice A' (k + 1) c')
                          have hO : Blk (w7.setCell ⟨W.heap.size, 0, none⟩ (.slice A' (k + 1) c')) W.heap.size 45 #[.slice A' (k + 1) c'] := hO.set_ 0 _
                          have ow := ownsRow_setCell_below ow (a := ⟨W.heap.size, 0, none⟩) (by simp) (.slice A' (k + 1) c')
                          refine hK.out _ _ ⟨hS.1.far (by simp only; omega) _, hB⟩ (fun hS => ?_)
                          clear hK K
                          try simp only [List.getElem_toArray, List.getElem_cons_zero, List.getElem_cons_succ, Act.put, List.setIfInBounds_toArray, List.set_cons_zero, List.set_cons_succ]
                          refine wpAnyH_done (by kernel_rfl) ?_ _
                          go_wp2
                          go_roundw
                          case rel => exact ⟨k + 1, by go_num, by omega, Lib.hid (rel1_step HM.out HOK.out HOk.out HEQ.out hO ow hB)⟩
                          case measure => simp [intOf]; omega
                        exact AllReadyH.nil
                      exact AllReadyH.nil
                    exact AllReadyH.nil
                  refine AllReadyH.cons rfl (fun K hK => ?_) ?_
                  · skip
                    rw [if_pos (by rfl)]
                    go_simp
                    have hO := hO.alloc (.cells #[.int .i32 r0, .int .i64 (nd : Int), .int .i64 p, .int .i64 n', .int .u8 kd, .int .u8 s0, .bool fo, .bool false, .bool false] 47)
                    have ow := ow.alloc (.cells #[.int .i32 r0, .int .i64 (nd : Int), .int .i64 p, .int .i64 n', .int .u8 kd, .int .u8 s0, .bool fo, .bool false, .bool false] 47)
                    have hB := bel_alloc hB (.cells #[.int .i32 r0, .int .i64 (nd : Int), .int .i64 p, .int .i64 n', .int .u8 kd, .int .u8 s0, .bool fo, .bool false, .bool false] 47)
                    refine hK.out _ _ ⟨hS.1.alloc _, bel_alloc hS.2 _⟩ (fun hS => ?_)
                    clear hK K
                    try simp only [List.getElem_toArray, List.getElem_cons_zero, List.getElem_cons_succ, Act.put, List.setIfInBounds_toArray, List.set_cons_zero, List.set_cons_succ]
                    refine wpAnyH_ready (rs := [0]) (by kernel_rfl) (by simp) ?_
                    refine AllReadyH.cons rfl (fun K hK => ?_) ?_
                    · skip
                      rw [if_pos (by rfl)]
                      have cO := hO.cell 0
                      go_simp
                      refine hK.out _ _ hS (fun hS => ?_)
                      clear hK K
                      try simp only [List.getElem_toArray, List.getElem_cons_zero, List.getElem_cons_succ, Act.put, List.setIfInBounds_toArray, List.set_cons_zero, List.set_cons_succ]
                      refine wpAnyH_ready (rs := [16]) (by kernel_rfl) (by simp) ?_
                      refine AllReadyH.cons rfl (fun K hK => ?_) ?_
                      · skip
                        refine step_append_any _ rfl (.tmp 55) (.tmp 70) 45 rfl (W.heap.size + 1) 47 i0 (.agg #[.int .i32 0, .int .i64 0, .int .i64 0, .int .i64 0, .int .u8 0, .int .u8 0, .bool false, .bool false, .bool false]) 9 48 Try.underlying45 hi hz0 hz1 hz2 rfl (by decide) (.slice A0 k c0) _ _ rfl ow _ _ 1 1 (mkC ⟨⟨r0, nd, p, n', kd⟩, s0, fo, false, false⟩) rfl (reads_newK _ _ _ 1 _ rfl rfl) (mkC_one _) (by unfold maxLen; omega) (by omega) (by have := hO.lt; omega) (fun v' w7 hown' hg _ => ?_)
                        obtain ⟨A', c', rfl⟩ := own_shape hown'
                        have hne := own_blk_ne ow hO (by decide)
                        have hnx := own_blk_ne ow hS.1 (by decide)
                        have hO := hO.grown hg (fun e => hne e.symm)
                        have hB := bel_grown hB (own_le ow (by omega)) hg
                        have ow := hown'
                        refine hK.out _ _ ⟨hS.1.grown hg (fun e => hnx e.symm), hB⟩ (fun hS => ?_)
                        clear hK K
                        try simp only [List.getElem_toArray, List.getElem_cons_zero, List.getElem_cons_succ, Act.put, List.setIfInBounds_toArray, List.set_cons_zero, List.set_cons_succ]
                        refine wpAnyH_ready (rs := [17]) (by kernel_rfl) (by simp) ?_
                        refine AllReadyH.cons rfl (fun K hK => ?_) ?_
                        · skip
                          rw [if_pos (by rfl)]
                          have cO := hO.cell 0
                          have fO := hO.frozen 0
                          go_simp
                          have hB := hB.setCell (p := ⟨W.heap.size, 0, none⟩) (by simp) (.slice A' (k + 1) c')
                          have hO : Blk (w7.setCell ⟨W.heap.size, 0, none⟩ (.slice A' (k + 1) c')) W.heap.size 45 #[.slice A' (k + 1) c'] := hO.set_ 0 _
                          have ow := ownsRow_setCell_below ow (a := ⟨W.heap.size, 0, none⟩) (by simp) (.slice A' (k + 1) c')
                          refine hK.out _ _ ⟨hS.1.far (by simp only; omega) _, hB⟩ (fun hS => ?_)
                          clear hK K
                          try simp only [List.getElem_toArray, List.getElem_cons_zero, List.getElem_cons_succ, Act.put, List.setIfInBounds_toArray, List.set_cons_zero, List.set_cons_succ]
                          refine wpAnyH_done (by kernel_rfl) ?_ _
                          go_wp2
                          go_roundw
                          case rel => exact ⟨k + 1, by go_num, by omega, Lib.hid (rel1_step HM.out HOK.out HOk.out HEQ.out hO ow hB)⟩
                          case measure => simp [intOf]; omega
                        exact AllReadyH.nil
                      exact AllReadyH.nil
                    exact AllReadyH.nil
                  exact AllReadyH.nil
                exact AllReadyH.nil
            · have g0 : (kd != 0) = true := by simp; omega
              have g1 : (kd != 6) = true := by simp; omega
              have g2 : (kd != 5) = true := by simp; omega
              have HN := Lib.hid (okAll_no HM.out (show okC ss ⟨r0, (nd : Int), p, n', kd⟩ = false by unfold okC; simp; intro _ _; omega))
              clear hkd h5 HWh
              go_wp2
              go_ret2
              exact ⟨HBX.out, .inl ⟨HN.out, rfl⟩⟩
          · have q3 : decide (5 < s0) = true := decide_eq_true (by omega)
            have HN := Lib.hid (okAll_no HM.out (show okC ss ⟨r0, (nd : Int), p, n', kd⟩ = false by unfold okC; simp only; rw [HWh.out]; simp; intro _ h; exact absurd h h5))
            clear h5 HWh
            go_wp2
            go_ret2
            exact ⟨HBX.out, .inl ⟨HN.out, rfl⟩⟩
        · have q2 : decide (nS ≤ nd) = true := decide_eq_true (by omega)
          have HN := Lib.hid (okAll_no HM.out (show okC ss ⟨r0, (nd : Int), p, n', kd⟩ = false by unfold okC; have := HLS.out; simp; intro h; omega))
          clear h0 h1
          go_wp2
          go_ret2
          exact ⟨HBX.out, .inl ⟨HN.out, rfl⟩⟩
    · obtain rfl : k = n := by omega
      have q1 : decide ((k : Int) < (k : Int)) = false := decide_eq_false (by omega)
      obtain ⟨hOk, A0, c0, hO, ow, hB⟩ := HRel.out
      have HALL := Lib.hid (okAll_yes (fun j c h => hOk j c (by have := (List.getElem?_eq_some_iff.1 h).1; have := HL.out; omega) h))
      rw [List.take_of_length_le (by have := HL.out; omega)] at ow
      have hRow := RowM.of_own (V := wr) (base := W.heap.size + 1) (v := .slice A0 k c0) (xs := cs.map (mkOf ss)) (by rw [List.length_map, HL.out]; exact ow)
      have HLM := Lib.hid (show (cs.map (mkOf ss)).length = k by rw [List.length_map, HL.out])
      have HOUT := Lib.hid (show outL ss cs = (stepsL 5 (cs.map (mkOf ss))).map Mk.c from rfl)
      generalize cs.map (mkOf ss) = ms at hRow HLM HOUT
      have HSL := Lib.hid (fun j => stepsL_len ms j)
      obtain ⟨B, hBe⟩ : ∃ B, wr.heap.size = B := ⟨_, rfl⟩
      have HBe := Lib.hid hBe
      have lB := hO.lt
      have HST := Lib.hid (steps_any wr)
      have HRow := Lib.hid hRow
      have HO := Lib.hid hO
      have HB := Lib.hid hB
      rw [hBe] at HST lB
      clear hOk hO ow hB hRow hBe
      go_wp2_with (go_at_call 22; (with_reducible refine HST.out.mono ?_); rintro e w1 ⟨rfl, hsw, hb1⟩; have HSW1 := Lib.hid hsw; have HB1 := Lib.hid (show Below wr.heap.size wr w1 by rw [HBe.out]; exact hb1); clear hsw hb1)
      go_loopw [10, 11, 75] (fun b x i wr => ∃ j : Nat, i = .int .i64 j ∧ j ≤ 5 ∧ Hid (Rel2 W B ms j wr)) (fun b x i _ => 5 - (intOf i).toNat)
      case atStart => exact ⟨0, rfl, by omega, Lib.hid ⟨_, HO.out.keep HB1.out, HRow.out.keep HB1.out, HSW1.out, bel_trans HB.out HB1.out⟩⟩
      case round =>
        obtain ⟨j, rfl, hj, HRel2⟩ := hrel
        by_cases hlt5 : j < 5
        · have q5 : decide ((j : Int) < 5) = true := decide_eq_true (by omega)
          have j5 : (j : Int) < 5 := by omega
          obtain ⟨vj, hOj, hRj, hSj, hBj⟩ := HRel2.out
          obtain ⟨Aj, cj, rfl, hRj'⟩ := id hRj
          obtain ⟨eL, hRd⟩ := hRj.reads
          obtain ⟨st1, st2⟩ := stepRow_at B j hlt5
          have c1 : wr.cell? ⟨B + 3, j * 2, none⟩ = some (outF B j) := (hSj.b4.cell _).trans st1
          have c2 : wr.cell? ⟨B + 3, j * 2 + 1, none⟩ = some (turnF j) := (hSj.b4.cell _).trans st2
          obtain ⟨go, cap, hgo⟩ : ∃ go cap, outF B j = .func (.func go) #[] cap := outF_shape B j hlt5
          have hgt : turnF j = .func (.func (turnG j)) #[] #[] := rfl
          have nL : (stepsL j ms).length ≤ 1000000000 := by have := HSL.out j; have := HLM.out; omega
          obtain ⟨L0, hL0⟩ : ∃ L0, (stepsL j ms).length = L0 := ⟨_, rfl⟩
          rw [hgo] at c1
          rw [hgt] at c2
          have HLeft := Lib.hid (fun (bx : Nat) (V : World) (hV : Below wr.heap.size wr V) (hx : Blk V bx 53 #[.func (.func go) #[] cap, .func (.func (turnG j)) #[] #[]]) => left_any j hlt5 Aj (stepsL j ms).length cj (stepsL j ms) nL B bx W.heap.size V ((hRd.below hV).more hV.size) (hSj.keep hV) (by rw [hgo, hgt]; exact hx) (hOj.keep hV))
          have HTu := Lib.hid (turn_any j hlt5)
          have eg := turn_enter j hlt5
          have HK := Lib.hid (show stepsL (j + 1) ms = (filterZ (stepP j) [] (stepsL j ms)).map (stepT j) from rfl)
          have HFl := Lib.hid (filterZ_len (stepP j) [] (stepsL j ms))
          rw [hL0] at HLeft HFl nL
          have kO : wr.cell? ⟨W.heap.size, 0, none⟩ = some (.slice Aj (stepsL j ms).length cj) := hOj.cell 0
          rw [hL0] at kO
          generalize turnG j = gt at *
          generalize filterZ (stepP j) [] (stepsL j ms) = F at HLeft HK HFl
          have HSW2 := Lib.hid hSj
          have HBj := Lib.hid hBj
          have HOj := Lib.hid hOj
          have lj := hOj.lt
          have HX0 := Lib.hid (Blk.new wr 53 #[.func (.func go) #[] cap, .func (.func gt) #[] #[]])
          have HXB := Lib.hid (bel_alloc (Below.refl wr.heap.size wr) (.cells #[.func (.func go) #[] cap, .func (.func gt) #[] #[]] 53))
          have HXB2 := Lib.hid (bel_alloc HBj.out (.cells #[.func (.func go) #[] cap, .func (.func gt) #[] #[]] 53))
          have kO2 := (HOj.out.keep HXB.out).cell 0
          have fO2 := (HOj.out.keep HXB.out).frozen 0
          rw [hL0] at kO2
          simp only [List.getElem?_toArray, List.getElem?_cons_zero] at kO2
          obtain ⟨bx, hbx⟩ : ∃ bx, wr.heap.size = bx := ⟨_, rfl⟩
          have Hbx := Lib.hid hbx
          rw [hbx] at HX0
          clear hOj hRj hRj' hSj hBj hRd st1 st2 hgo hgt HRel2 eL hL0
          go_upto_region 13 with (go_at_call 23; (with_reducible refine (HLeft.out bx _ HXB.out HX0.out).mono ?_); rintro e w2 ⟨v2, rfl, own2, b2⟩; obtain ⟨A2, cL, rfl⟩ := own_shape own2; have HV2 := Lib.hid own2; have HB2 := Lib.hid (show Below wr.heap.size wr w2 from HXB.out.trans (b2.mono HXB.out.size)); have HX2 := Lib.hid (HX0.out.keep b2); have kO3 := (HOj.out.keep HB2.out).cell 0; have fO3 := (HOj.out.keep HB2.out).frozen 0; clear own2 b2)
          have hO3 := (HOj.out.keep HB2.out).set_ 0 (.slice A2 F.length cL)
          have hX3 := HX2.out.far (p := ⟨W.heap.size, 0, none⟩) (by simp only; have := Hbx.out; omega) (.slice A2 F.length cL)
          have hS3 := (HSW2.out.keep HB2.out).far3 (p := ⟨W.heap.size, 0, none⟩) (by simp only; have := HBe.out; omega) (.slice A2 F.length cL)
          have hB3 := (bel_trans HBj.out HB2.out).setCell (p := ⟨W.heap.size, 0, none⟩) (by simp) (.slice A2 F.length cL)
          have hR3 := ((RowM.of_own HV2.out).more (base' := W.heap.size + 1) (by rw [World.size_alloc]; omega)).far ⟨W.heap.size, 0, none⟩ (.slice A2 F.length cL) (by simp)
          have hO3 : Blk (w2.setCell ⟨W.heap.size, 0, none⟩ (.slice A2 F.length cL)) W.heap.size 45 #[.slice A2 F.length cL] := hO3
          generalize w2.setCell ⟨W.heap.size, 0, none⟩ (.slice A2 F.length cL) = V3 at hO3 hX3 hS3 hB3 hR3 ⊢
          have kV := hO3.cell 0
          simp only [List.getElem?_toArray, List.getElem?_cons_zero] at kV
          obtain ⟨L, hL⟩ : ∃ L, F.length = L := ⟨_, rfl⟩
          have HLF := Lib.hid hL
          rw [hL] at hO3 kV
          have HR3 := Lib.hid hR3
          have HS3 := Lib.hid hS3
          have HO3 := Lib.hid hO3
          have HX3 := Lib.hid hX3
          have HB3 := Lib.hid hB3
          have lL : (L : Int) ≤ 1000000000 := by have := HFl.out; omega
          clear c1 c2 kO kO2 fO2 kO3 fO3 hL hR3 hS3 hO3 hX3 hB3
          go_wp2_with (fail)
          go_loopw [11, 84] (fun x i wr => ∃ q : Nat, i = .int .i64 q ∧ q ≤ L ∧ Hid (Rel3 W B bx (.func (.func go) #[] cap) (.func (.func gt) #[] #[]) (.slice A2 L cL) ((F.take q).map (stepT j) ++ F.drop q) wr)) (fun x i _ => L - (intOf i).toNat)
          case atStart => exact ⟨0, rfl, by omega, Lib.hid ⟨HO3.out, by rw [← HLF.out]; simpa using HR3.out, HS3.out, HX3.out, HB3.out⟩⟩
          case round =>
            obtain ⟨q, rfl, hq, HRel3⟩ := hrel
            by_cases hltq : q < L
            · have q6 : decide ((q : Int) < (L : Int)) = true := decide_eq_true (by omega)
              have i0 : (0 : Int) ≤ (q : Int) := by omega
              have i1 : (q : Int) < (L : Int) := by omega
              obtain ⟨hO, hRow, hSW, hX, hBl⟩ := HRel3.out
              obtain ⟨m, hm⟩ : ∃ m, F[q]? = some m := ⟨_, List.getElem?_eq_getElem (by rw [HLF.out]; exact hltq)⟩
              have hxm : ((F.take q).map (stepT j) ++ F.drop q)[q]? = some m := by rw [List.getElem?_append_right (by simp; omega)]; simp [hm, List.length_take, Nat.min_eq_left (show q ≤ F.length by rw [HLF.out]; omega)]
              obtain ⟨A', cL', hv, hrow⟩ := hRow
              injection hv with hv1 hv2 hv3
              subst hv1 hv3
              rcases hrow with hnil | ⟨g, cur, rfl, hBg, hG, h9⟩
              · rw [hnil] at hxm; simp at hxm
              have HT := Lib.hid (fun (V : World) (hV : Blk V g 47 cur) => HTu.out g q cur m V hV (h9 q m hxm))
              have HM := Lib.hid hm
              have HXM := Lib.hid hxm
              have H9 := Lib.hid h9
              have HSWq := Lib.hid hSW
              have HBl := Lib.hid hBl
              have HV2' := Lib.hid hv2
              clear hm hxm h9 hv2 hSW hBl
              go_upto_region 16 with fail
              refine wp_region_held_drew (S := fun V => Blk V bx 53 #[.func (.func go) #[] cap, .func (.func gt) #[] #[]] ∧ Blk V W.heap.size 45 #[.slice (some ⟨g, 0, none⟩) L cL]) (by kernel_rfl) ⟨hX.drew, hO.drew⟩ (fun hS => ?_)
              have hG := hG.drew
              refine wpAnyH_take (i := 0) (oi := _) (v := .pointer (some ⟨bx, 1, none⟩)) rfl (by kernel_rfl) (by kernel_rfl) (by kernel_rfl) (fun _ _ _ h => h) (Or.inl ⟨by rfl, ?_⟩) hS ?_
              · intro wz hz
                clear hz
                go_simp
              try simp only [List.getElem_toArray, List.getElem_cons_zero, List.getElem_cons_succ, Act.put, List.setIfInBounds_toArray, List.set_cons_zero, List.set_cons_succ]
              refine wpAnyH_take (i := 1) (oi := _) (v := .func (.func gt) #[] #[]) rfl (by kernel_rfl) (by kernel_rfl) (by kernel_rfl) (fun _ _ _ h => h) (Or.inl ⟨by rfl, ?_⟩) hS ?_
              · intro wz hz
                obtain ⟨z1, z2⟩ := hz
                have d0 : wz.cell? ⟨bx, 0, none⟩ = some (.func (.func go) #[] cap) := z1.cell 0
                have d1 : wz.cell? ⟨bx, 1, none⟩ = some (.func (.func gt) #[] #[]) := z1.cell 1
                have d2 : wz.cell? ⟨W.heap.size, 0, none⟩ = some (.slice (some ⟨g, 0, none⟩) L cL) := z2.cell 0
                clear z1 z2
                go_simp
              try simp only [List.getElem_toArray, List.getElem_cons_zero, List.getElem_cons_succ, Act.put, List.setIfInBounds_toArray, List.set_cons_zero, List.set_cons_succ]
              refine wpAnyH_take (i := 2) (oi := _) (v := .slice (some ⟨g, 0, none⟩) L cL) rfl (by kernel_rfl) (by kernel_rfl) (by kernel_rfl) (fun _ _ _ h => h) (Or.inl ⟨by rfl, ?_⟩) hS ?_
              · intro wz hz
                obtain ⟨z1, z2⟩ := hz
                have d0 : wz.cell? ⟨bx, 0, none⟩ = some (.func (.func go) #[] cap) := z1.cell 0
                have d1 : wz.cell? ⟨bx, 1, none⟩ = some (.func (.func gt) #[] #[]) := z1.cell 1
                have d2 : wz.cell? ⟨W.heap.size, 0, none⟩ = some (.slice (some ⟨g, 0, none⟩) L cL) := z2.cell 0
                clear z1 z2
                go_simp
              try simp only [List.getElem_toArray, List.getElem_cons_zero, List.getElem_cons_succ, Act.put, List.setIfInBounds_toArray, List.set_cons_zero, List.set_cons_succ]
              refine wpAnyH_take (i := 3) (oi := _) (v := .int .i64 (q : Int)) rfl (by kernel_rfl) (by kernel_rfl) (by kernel_rfl) (fun _ _ _ h => h) (Or.inl ⟨by rfl, ?_⟩) hS ?_
              · intro wz hz
                clear hz
                go_simp
              try simp only [List.getElem_toArray, List.getElem_cons_zero, List.getElem_cons_succ, Act.put, List.setIfInBounds_toArray, List.set_cons_zero, List.set_cons_succ]
              refine wpAnyH_take (i := 4) (oi := _) (v := .pointer (some ⟨g, q * 9, none⟩)) rfl (by kernel_rfl) (by kernel_rfl) (by kernel_rfl) (fun _ _ _ h => h) (Or.inl ⟨by rfl, ?_⟩) hS ?_
              · intro wz hz
                clear hz
                go_simp
              try simp only [List.getElem_toArray, List.getElem_cons_zero, List.getElem_cons_succ, Act.put, List.setIfInBounds_toArray, List.set_cons_zero, List.set_cons_succ]
              refine wpAnyH_ready (rs := [5]) (by kernel_rfl) (by simp) ?_
              refine AllReadyH.cons rfl (fun K hK => ?_) ?_
              · skip
                rw [if_pos (by rfl)]
                go_simp
                (with_reducible refine (HT.out _ hG).mono ?_)
                rintro e v ⟨rfl, hTd⟩
                have hgr := turned_grown hTd
                refine hK.out _ _ ⟨hS.1.grown hgr (fun e => Blk.ne_ hG hS.1 (by decide) (by injection e with e; exact e.symm)), hS.2.grown hgr (fun e => Blk.ne_ hG hS.2 (by decide) (by injection e with e; exact e.symm))⟩ (fun hS => ?_)
                clear hK K
                try simp only [List.getElem_toArray, List.getElem_cons_zero, List.getElem_cons_succ, Act.put, List.setIfInBounds_toArray, List.set_cons_zero, List.set_cons_succ]
                refine wpAnyH_done (by kernel_rfl) ?_ _
                go_wp2
                go_roundw
                case rel => exact ⟨q + 1, by go_num, by omega, Lib.hid (rel3_step HM.out HXM.out HLF.out HSWq.out.drew2 HBl.out.drew hBg H9.out hG hTd hS.1 hS.2)⟩
                case measure => simp [intOf]; omega
              exact AllReadyH.nil
            · obtain rfl : q = L := by omega
              have q6 : decide ((q : Int) < (q : Int)) = false := decide_eq_false (by omega)
              go_wp2
              go_roundw
              case rel =>
                obtain ⟨hO, hRow, hSW, hX, hBl⟩ := HRel3.out
                exact ⟨j + 1, by go_num, by omega, Lib.hid ⟨_, hO, by rw [HK.out]; rw [List.take_of_length_le (by rw [HLF.out]; omega), List.drop_of_length_le (by rw [HLF.out]; omega), List.append_nil] at hRow; exact hRow, hSW, hBl⟩⟩
              case measure => simp [intOf]; omega
        · obtain rfl : j = 5 := by omega
          have q5 : decide ((5 : Int) < 5) = false := by decide
          obtain ⟨v5, hO5, hR5, hS5, hB5⟩ := HRel2.out
          obtain ⟨A5, c5, rfl, _⟩ := id hR5
          obtain ⟨_, hRd⟩ := hR5.reads
          have n5 : ((stepsL 5 ms).length : Int) ≤ 1000000000 := by have := HSL.out 5; have := HLM.out; omega
          have kO := hO5.cell 0
          simp only [List.getElem?_toArray, List.getElem?_cons_zero] at kO
          have HZ := Lib.hid (show outL ss cs = (stepsL 5 ms).map Mk.c from HOUT.out)
          generalize stepsL 5 ms = zs at hRd kO HZ n5
          obtain ⟨N, hN⟩ : ∃ N, zs.length = N := ⟨_, rfl⟩
          rw [hN] at hRd kO n5
          have HN := Lib.hid hN
          have HRd := Lib.hid hRd
          have HB5 := Lib.hid hB5
          obtain ⟨j0, hj, hy0, hy1, hy2⟩ := info_parts infoCr
          obtain ⟨Wq, hWq⟩ : ∃ Wq, Wq = wr := ⟨_, rfl⟩
          subst hWq
          clear hO5 hR5 hS5 hB5 hRd hN HRel2
          go_wp2_with (fail)
          go_loopw [12, 14, 97] (fun o b i wr => ∃ (q : Nat) (A4 : Option Addr) (c4 : Nat), i = .int .i64 q ∧ o = .slice A4 q c4 ∧ q ≤ N ∧ Hid (wr.ownsRow Wq.heap.size 38 5 (.slice A4 q c4) q (crL ((zs.take q).map Mk.c))) ∧ Hid (Below Wq.heap.size Wq wr)) (fun o b i _ => N - (intOf i).toNat)
          case atStart => exact ⟨0, none, 0, rfl, rfl, by omega, Lib.hid (own_nil _ _ _ _), Lib.hid (Below.refl _ _)⟩
          case round =>
            obtain ⟨q, A4, c4, rfl, rfl, hq, HO, HB⟩ := hrel
            by_cases hltq : q < N
            · have q6 : decide ((q : Int) < (N : Int)) = true := decide_eq_true (by omega)
              obtain ⟨ad5, m, rfl, hb, hm, cc⟩ := reads_mk HRd.out hltq
              obtain ⟨e0, e1, e2, e3, e4, e5, e6, e7, e8⟩ := cc.keep HB.out (by rw [block_of_add]; exact hb)
              have HM := Lib.hid hm
              clear hm cc
              obtain ⟨⟨r0, nd, p, n', kd⟩, st, fo, en, so⟩ := m
              simp only at e0 e1 e2 e3 e4 e5 e6 e7 e8
              have HO1 := Lib.hid (HO.out.alloc (.cells #[.int .i32 r0, .int .i64 nd, .int .i64 p, .int .i64 n', .int .u8 kd, .int .u8 st, .bool fo, .bool en, .bool so] 47))
              have HB1' := Lib.hid (bel_alloc HB.out (.cells #[.int .i32 r0, .int .i64 nd, .int .i64 p, .int .i64 n', .int .u8 kd, .int .u8 st, .bool fo, .bool en, .bool so] 47))
              go_wp2_with (at_builtin; refine wpList_append_own _ rfl (.tmp 101) (.tmp 104) 22 rfl Wq.heap.size 38 j0 (.agg #[.int .i32 0, .int .i64 0, .int .i64 0, .int .i64 0, .int .u8 0]) 5 40 Try.underlying22 hj hy0 hy1 hy2 rfl (by decide) (.slice A4 q c4) _ _ rfl (HO1.out.alloc _) ⟨wr.heap.size + 1, 0, none⟩ 1 1 (crC ⟨r0, nd, p, n', kd⟩) rfl rfl (reads_one5 _ _ ⟨r0, nd, p, n', kd⟩ (wr.heap.size + 1) (World.size_alloc _ _)) (by simp [crC, Value.oneCell']) ?d4 ?d5 ?d6 ?_)
              case d4 => unfold maxLen; omega
              case d5 => omega
              case d6 => have := HB1'.out.size; simp only [World.size_alloc] at this ⊢; omega
              intro v' w7 hown' hg _
              have hb7 := Lib.hid (bel_grown (bel_alloc HB1'.out _) (HO1.out.alloc _) hg)
              obtain ⟨A', c', rfl⟩ := own_shape hown'
              have HO7 := Lib.hid hown'
              clear hown' hg
              go_wp2
              go_roundw
              case rel => exact ⟨q + 1, A', c', by go_num, rfl, by omega, Lib.hid (by obtain ⟨hl, hh⟩ := List.getElem?_eq_some_iff.1 HM.out; rw [List.take_succ_eq_append_getElem hl, List.map_append, crL_app, hh, List.map_take, List.map_cons, List.map_nil, crL_cons, show crL [] = [] from rfl, List.append_nil]; exact HO7.out), hb7⟩
              case measure => simp [intOf]; omega
            · obtain rfl : q = N := by omega
              have q6 : decide ((q : Int) < (q : Int)) = false := decide_eq_false (by omega)
              go_wp2
              go_ret2
              refine ⟨(HB5.out.trans (HB.out.mono HB5.out.size)), .inr ⟨HALL.out, _, rfl, ?_⟩⟩
              have h := own_le HO.out HB5.out.size
              rw [List.take_of_length_le (by rw [HN.out]; omega)] at h
              rw [HZ.out, List.length_map, HN.out]
              exact h
end Go.Proofs.Ytmjacmjogckihaa.White

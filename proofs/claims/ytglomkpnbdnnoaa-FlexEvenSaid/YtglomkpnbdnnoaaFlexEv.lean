/- Chapter 23: the law FlexEven, walked. No condition but that numbers may come in. -/
import Derived.Test.YtglomkpnbdnnoaaFlexRo
import Derived.OwnWalk
namespace Go.Proofs.Ytglomkpnbdnnoaa.Flex
open Go.RowKit Go.Proofs.Ytglomkpnbdnnoaa.Unit Go.Proofs.Ytglomkpnbdnnoaa.Div
set_option linter.unusedVariables false
set_option linter.unusedSimpArgs false
attribute [local go_sem] max2_V max_two
theorem info_it : (Try.prog.info? 36).map (fun i => (i.zero, i.size, i.bytes)) = some (some (.agg #[.int .i64 0, .int .i64 0, .int .i64 0, .int .i64 0]), 4, 32) := by kernel_rfl
theorem own_kept_ {W W' : World} {b e s n : Nat} {v v2 : Value} {xs : List Value} (h : W.ownsRow b e s v n xs) (hg : W.grownBy W' v2.ownBlock) (hd : ∀ r, v.ownBlock = some r → v2.ownBlock ≠ some r) : W'.ownsRow b e s v n xs :=
  h.kept hg (by cases hv : v.ownBlock with
    | none => exact .inl rfl
    | some r => exact .inr (fun e => hd r hv e.symm))
theorem apart_more_ {W : World} {b e s n : Nat} {v v2 v3 : Value} {xs : List Value} (h : W.ownsRow b e s v3 n xs) (hb : v2.ownBlock = v.ownBlock ∨ v2.ownBlock = some W.heap.size) (hd : ∀ r, v.ownBlock = some r → v3.ownBlock ≠ some r) :
    ∀ r, v2.ownBlock = some r → v3.ownBlock ≠ some r := fun r hr e => by
  rcases hb with h2 | h2
  · exact hd r (h2 ▸ hr) e
  · rw [h2] at hr
    injection hr with hr
    subst hr
    exact Nat.lt_irrefl _ (h.lt _ e).2
theorem apart_symm {v v2 : Value} (h : ∀ r, v.ownBlock = some r → v2.ownBlock ≠ some r) : ∀ r, v2.ownBlock = some r → v.ownBlock ≠ some r := fun r hr e => h r e hr
/-- The items that do not shrink. -/
def firmI (x : It) (i : Nat) : It := if i % 2 = 0 then ⟨x.base, x.least, x.grow, 0⟩ else ⟨x.base, mxV x.least x.base, x.grow, x.shrink⟩
def firmL (x : It) (k : Nat) : List It := (List.range k).map (firmI x)
theorem firmL_len (x : It) (k : Nat) : (firmL x k).length = k := by unfold firmL; simp
theorem firmL_at {x : It} {k i : Nat} (h : i < k) : (firmL x k)[i]? = some (firmI x i) := by unfold firmL; simp [h]
theorem firmL_succ (x : It) (k : Nat) : itL (firmL x (k + 1)) = itL (firmL x k) ++ itC (firmI x k) := by
  unfold firmL itL
  rw [List.range_succ, List.map_append, List.flatMap_append]
  simp
theorem rep_succ (x : It) (k : Nat) : itL (List.replicate (k + 1) x) = itL (List.replicate k x) ++ itC x := by
  unfold itL
  rw [List.replicate_succ', List.flatMap_append]
  simp
structure EvenF (x : It) (k : Nat) (room : Int) (an : List Int) (er : Int) (bn : List Int) (fr : Int) (m1 m2 : Nat) : Prop where
  fa : (er = 2 ∧ m1 = 0) ∨ (er = 0 ∧ m1 = k)
  fb : (fr = 2 ∧ m2 = 0) ∨ (fr = 0 ∧ m2 = k)
  la : an.length = m1
  lb : bn.length = m2
  a_ : ∀ (i : Nat) a b, an[i]? = some a → an[0]? = some b → 0 ≤ a ∧ a ≤ 1073741824 ∧ 0 ≤ b ∧ b ≤ 1073741824 ∧ a - b ≤ 1 ∧ b - a ≤ 1
  b_ : ∀ (i : Nat) b, bn[i]? = some b → mxV x.base x.least ≤ b
theorem evenF (x : It) (k : Nat) (hk : k ≤ 60) (room : Int) :
    EvenF x k room (ansS (List.replicate k (evI x)) room) (errS (List.replicate k (evI x)) room) (ansS (firmL x k) room) (errS (firmL x k) room) (ansS (List.replicate k (evI x)) room).length (ansS (firmL x k) room).length := by
  have g : ∀ (xs : List It) (m : Nat), xs.length = m → (errS xs room = 2 ∧ (ansS xs room).length = 0) ∨ (errS xs room = 0 ∧ (ansS xs room).length = m) := fun xs m hm => by
    unfold errS ansS
    split
    · exact .inr ⟨rfl, by rw [sizesL_len, hm]⟩
    · exact .inl ⟨rfl, rfl⟩
  refine ⟨g _ k (by rw [List.length_replicate]), g _ k (firmL_len x k), rfl, rfl, fun i a b ha hb => ?_, fun i b hb => ?_⟩
  · unfold ansS at ha hb
    split at ha
    · rename_i h
      rw [if_pos h] at hb
      have ho := okS_parts h
      have R := roomF (n := k) (by rw [List.length_replicate]) hk h
      have h1 := R.le a (List.mem_of_getElem? ha)
      have h2 := R.le b (List.mem_of_getElem? hb)
      exact ⟨h1.1, h1.2, h2.1, h2.2, even_law x k room ho.2.2 i 0 a b ho.1 ha hb, even_law x k room ho.2.2 0 i b a ho.1 hb ha⟩
    · simp at ha
  · unfold ansS at hb
    split at hb
    · rename_i h
      have ho := okS_parts h
      have hi : i < k := by have := (List.getElem?_eq_some_iff.1 hb).1; rwa [sizesL_len, firmL_len] at this
      have hx := firmL_at (x := x) hi
      obtain ⟨k1, k2, k3⟩ := sizes_at ho.2.2 hx hb
      have hf : mxV x.base x.least ≤ fiI (firmI x i) := by
        unfold fiI firmI mxV
        by_cases he : i % 2 = 0
        · rw [if_pos he]; simp only; omega
        · rw [if_neg he]; simp only; (repeat' split) <;> omega
      by_cases hc : fsum (firmL x k) ≤ room
      · exact Int.le_trans hf (k2 hc)
      · by_cases he : i % 2 = 0
        · have e := firm_at ho.2.2 (by omega) hx (by unfold firmI; rw [if_pos he]) hb
          rw [e]; exact hf
        · have : (firmI x i).least = mxV x.least x.base := by unfold firmI; rw [if_neg he]
          rw [this] at k1
          have : mxV x.base x.least ≤ mxV x.least x.base := by unfold mxV; split <;> split <;> omega
          omega
    · simp at hb
set_option maxHeartbeats 16000000 in
set_option maxRecDepth 100000 in
theorem FlexEven_any (x : It) (mn : Nat) (hmn : mn < 256) (room : Int) (w : World) :
    Calls Try.prog 7 #[itV x, .int .u8 (mn : Int), .int .i64 room] w fun e w' => e = .returned (.bool true) ∧ Below w.heap.size w w' := by
  have HH := Lib.hid (fun V => head_any V)
  obtain ⟨k, hk⟩ : ∃ k, mn % 60 = k := ⟨_, rfl⟩
  have k60 : k < 60 := by omega
  have kk : (k : Int) < 60 := by omega
  have e1 : (mn : Int).tmod 60 = (k : Int) := by rw [Int.tmod_eq_emod_of_nonneg (by omega)]; omega
  have e2 : IntKind.u8.wrap (k : Int) = (k : Int) := by rw [IntKind.wrap_u8]; omega
  have e3 : IntKind.i64.wrap (k : Int) = (k : Int) := IntWalk.i64_in _ ⟨by omega, by omega⟩
  have EF := Lib.hid (evenF x k (by omega) room)
  have KX := Lib.hid (Blk.new w 36 #[.int .i64 x.base, .int .i64 x.least, .int .i64 x.grow, .int .i64 x.shrink])
  have B01 := Lib.hid (bel_alloc (Below.refl w.heap.size w) (.cells #[.int .i64 x.base, .int .i64 x.least, .int .i64 x.grow, .int .i64 x.shrink] 36))
  obtain ⟨i0, hi, hz0, hz1, hz2⟩ := info_parts info_it
  have HI := Lib.hid hi
  have HZ0 := Lib.hid hz0
  have HZ1 := Lib.hid hz1
  have HZ2 := Lib.hid hz2
  clear hi hz0 hz1 hz2 hk
  go_enter Try.func7, Try.ntmps7
  go_upto_region 1 with fail
  generalize w.alloc (.cells #[.int .i64 x.base, .int .i64 x.least, .int .i64 x.grow, .int .i64 x.shrink] 36) = W1 at KX B01 ⊢
  obtain ⟨gx, hgx⟩ : ∃ gx, w.heap.size = gx := ⟨_, rfl⟩
  rw [hgx] at KX ⊢
  go_wp2
  go_loopw [7, 8, 9, 10] (fun l f i y wr => ∃ (j : Nat) (A1 : Option Addr) (c1 : Nat) (A2 : Option Addr) (c2 : Nat), i = .int .i64 j ∧ j ≤ k ∧ l = .slice A1 j c1 ∧ f = .slice A2 j c2 ∧ Hid (wr.ownsRow W1.heap.size 36 4 (.slice A1 j c1) j (itL (List.replicate j (evI x)))) ∧ Hid (wr.ownsRow W1.heap.size 36 4 (.slice A2 j c2) j (itL (firmL x j))) ∧ Hid (∀ r, (Value.slice A1 j c1).ownBlock = some r → (Value.slice A2 j c2).ownBlock ≠ some r) ∧ Hid (Below W1.heap.size W1 wr)) (fun _ _ i _ _ => k - (intOf i).toNat)
  case atStart => exact ⟨0, none, 0, none, 0, rfl, by omega, rfl, rfl, Lib.hid (own_nil _ _ _ _), Lib.hid (own_nil _ _ _ _), Lib.hid (fun r h => by simp [Value.ownBlock] at h), Lib.hid (Below.refl _ _)⟩
  case round =>
    obtain ⟨j, A1, c1, A2, c2, rfl, hj, rfl, rfl, HO, HP, HA, HD⟩ := hrel
    by_cases hlt : j < k
    · have q1 : decide ((j : Int) < (k : Int)) = true := decide_eq_true (by omega)
      have KW := Lib.hid (KX.out.keep HD.out)
      have x0 := KW.out.cell 0
      have x1 := KW.out.cell 1
      have x2 := KW.out.cell 2
      have x3 := KW.out.cell 3
      have HR1 := Lib.hid (rep_succ (evI x) j)
      have HR2 := Lib.hid (firmL_succ x j)
      go_upto_region 5 with fail
      go_upto_region 6 with (at_builtin; refine wpList_append_any _ rfl (.tmp 24) (.tmp 32) 22 rfl W1.heap.size 36 i0 (.agg #[.int .i64 0, .int .i64 0, .int .i64 0, .int .i64 0]) 4 32 Try.underlying22 HI.out HZ0.out HZ1.out HZ2.out rfl (by decide) _ _ _ rfl (HO.out.alloc _) _ _ 1 1 (itC (evI x)) rfl (reads_newK _ _ _ 1 _ rfl rfl) (by simp [itC, Value.oneCell']) (by unfold maxLen; omega) (by omega) (by have := HD.out.size; simp; omega) ?_; intro v1 w3 hown3 hg3 hb3; obtain ⟨A3, c3, rfl⟩ := own_shape hown3; have O3 := Lib.hid hown3; have P3 := Lib.hid (own_kept_ (HP.out.alloc _) hg3 (apart_symm HA.out)); have HA3 := Lib.hid (apart_more_ (HP.out.alloc _) hb3 HA.out); have B3 := Lib.hid (bel_grown (bel_alloc HD.out _) (HO.out.alloc _) hg3); clear hown3 hg3 hb3)
      clear x0 x1 x2 x3 KW
      have KW := Lib.hid (KX.out.keep B3.out)
      have x0 : w3.cell? ⟨gx, 0, none⟩ = some (.int .i64 x.base) := KW.out.cell 0
      have x1 : w3.cell? ⟨gx, 1, none⟩ = some (.int .i64 x.least) := KW.out.cell 1
      have x2 : w3.cell? ⟨gx, 2, none⟩ = some (.int .i64 x.grow) := KW.out.cell 2
      have x3 : w3.cell? ⟨gx, 3, none⟩ = some (.int .i64 x.shrink) := KW.out.cell 3
      have B13 := Lib.hid (bel_alloc (Below.refl w3.heap.size w3) (.cells #[.int .i64 x.base, .int .i64 x.least, .int .i64 x.grow, .int .i64 x.shrink] 36))
      have KY := Lib.hid (Blk.new w3 36 #[.int .i64 x.base, .int .i64 x.least, .int .i64 x.grow, .int .i64 x.shrink])
      go_upto_region 7 with fail
      obtain ⟨gy, hgy⟩ : ∃ gy, w3.heap.size = gy := ⟨_, rfl⟩
      generalize w3.alloc (.cells #[.int .i64 x.base, .int .i64 x.least, .int .i64 x.grow, .int .i64 x.shrink] 36) = W4 at B13 KY ⊢
      rw [hgy] at KY ⊢
      clear x0 x1 x2 x3 KW HO HP HA HD
      have y0 : W4.cell? ⟨gy, 0, none⟩ = some (.int .i64 x.base) := KY.out.cell 0
      have y1 : W4.cell? ⟨gy, 1, none⟩ = some (.int .i64 x.least) := KY.out.cell 1
      have y3 : W4.cell? ⟨gy, 3, none⟩ = some (.int .i64 x.shrink) := KY.out.cell 3
      have f1 := KY.out.frozen 1
      have f3 := KY.out.frozen 3
      by_cases he : j % 2 = 0
      · have t0 : (j : Int).tmod 2 = 0 := by rw [Int.tmod_eq_emod_of_nonneg (by omega)]; omega
        have HFi := Lib.hid (show firmI x j = ⟨x.base, x.least, x.grow, 0⟩ by unfold firmI; rw [if_pos he])
        clear he
        go_upto_region 10 with fail
        have K5 := Lib.hid (show Blk (W4.setCell ⟨gy, 3, none⟩ (.int .i64 0)) gy 36 #[.int .i64 x.base, .int .i64 x.least, .int .i64 x.grow, .int .i64 0] by simpa using KY.out.set_ 3 (.int .i64 0))
        have B5 := Lib.hid (B13.out.setCell (p := ⟨gy, 3, none⟩) (by simp only; omega) (.int .i64 0))
        generalize W4.setCell ⟨gy, 3, none⟩ (.int .i64 0) = W5 at K5 B5 ⊢
        clear y0 y1 y3 f1 f3 KY B13 t0
        have y0 : W5.cell? ⟨gy, 0, none⟩ = some (.int .i64 x.base) := K5.out.cell 0
        have y1 : W5.cell? ⟨gy, 1, none⟩ = some (.int .i64 x.least) := K5.out.cell 1
        have y2 : W5.cell? ⟨gy, 2, none⟩ = some (.int .i64 x.grow) := K5.out.cell 2
        have y3 : W5.cell? ⟨gy, 3, none⟩ = some (.int .i64 0) := K5.out.cell 3
        have O5 := Lib.hid (own_below O3.out B5.out)
        have P5 := Lib.hid (own_below P3.out B5.out)
        have D5 := Lib.hid (bel_trans B3.out B5.out)
        rw [HFi.out] at HR2
        clear K5 B5 O3 P3 B3
        go_wp2_with (at_builtin; refine wpList_append_any _ rfl (.tmp 45) (.tmp 47) 22 rfl W1.heap.size 36 i0 (.agg #[.int .i64 0, .int .i64 0, .int .i64 0, .int .i64 0]) 4 32 Try.underlying22 HI.out HZ0.out HZ1.out HZ2.out rfl (by decide) _ _ _ rfl (P5.out.alloc _) _ _ 1 1 (itC ⟨x.base, x.least, x.grow, 0⟩) rfl (reads_newK _ _ _ 1 _ rfl rfl) (by simp [itC, Value.oneCell']) (by unfold maxLen; omega) (by omega) (by have := D5.out.size; simp; omega) ?_; intro v1 w6 hown6 hg6 hb6; obtain ⟨A6, c6, rfl⟩ := own_shape hown6; have P6 := Lib.hid hown6; have O6 := Lib.hid (own_kept_ (O5.out.alloc _) hg6 HA3.out); have HA6 := Lib.hid (apart_symm (apart_more_ (O5.out.alloc _) hb6 (apart_symm HA3.out))); have D6 := Lib.hid (bel_grown (bel_alloc D5.out _) (P5.out.alloc _) hg6); clear hown6 hg6 hb6)
        go_roundw
        case rel => exact ⟨j + 1, A3, c3, A6, c6, by go_num, by omega, rfl, rfl, by rw [HR1.out]; exact O6, by rw [HR2.out]; exact P6, HA6, D6⟩
        case measure => simp [intOf]; omega
      · have t0 : (j : Int).tmod 2 = 1 := by rw [Int.tmod_eq_emod_of_nonneg (by omega)]; omega
        have HFi := Lib.hid (show firmI x j = ⟨x.base, (mxV x.least x.base), x.grow, x.shrink⟩ by unfold firmI; rw [if_neg he])
        clear he
        go_upto_region 10 with fail
        have K5 := Lib.hid (show Blk (W4.setCell ⟨gy, 1, none⟩ (.int .i64 (mxV x.least x.base))) gy 36 #[.int .i64 x.base, .int .i64 (mxV x.least x.base), .int .i64 x.grow, .int .i64 x.shrink] by simpa using KY.out.set_ 1 (.int .i64 (mxV x.least x.base)))
        have B5 := Lib.hid (B13.out.setCell (p := ⟨gy, 1, none⟩) (by simp only; omega) (.int .i64 (mxV x.least x.base)))
        generalize W4.setCell ⟨gy, 1, none⟩ (.int .i64 (mxV x.least x.base)) = W5 at K5 B5 ⊢
        clear y0 y1 y3 f1 f3 KY B13 t0
        have y0 : W5.cell? ⟨gy, 0, none⟩ = some (.int .i64 x.base) := K5.out.cell 0
        have y1 : W5.cell? ⟨gy, 1, none⟩ = some (.int .i64 (mxV x.least x.base)) := K5.out.cell 1
        have y2 : W5.cell? ⟨gy, 2, none⟩ = some (.int .i64 x.grow) := K5.out.cell 2
        have y3 : W5.cell? ⟨gy, 3, none⟩ = some (.int .i64 x.shrink) := K5.out.cell 3
        have O5 := Lib.hid (own_below O3.out B5.out)
        have P5 := Lib.hid (own_below P3.out B5.out)
        have D5 := Lib.hid (bel_trans B3.out B5.out)
        rw [HFi.out] at HR2
        clear K5 B5 O3 P3 B3
        go_wp2_with (at_builtin; refine wpList_append_any _ rfl (.tmp 45) (.tmp 47) 22 rfl W1.heap.size 36 i0 (.agg #[.int .i64 0, .int .i64 0, .int .i64 0, .int .i64 0]) 4 32 Try.underlying22 HI.out HZ0.out HZ1.out HZ2.out rfl (by decide) _ _ _ rfl (P5.out.alloc _) _ _ 1 1 (itC ⟨x.base, (mxV x.least x.base), x.grow, x.shrink⟩) rfl (reads_newK _ _ _ 1 _ rfl rfl) (by simp [itC, Value.oneCell']) (by unfold maxLen; omega) (by omega) (by have := D5.out.size; simp; omega) ?_; intro v1 w6 hown6 hg6 hb6; obtain ⟨A6, c6, rfl⟩ := own_shape hown6; have P6 := Lib.hid hown6; have O6 := Lib.hid (own_kept_ (O5.out.alloc _) hg6 HA3.out); have HA6 := Lib.hid (apart_symm (apart_more_ (O5.out.alloc _) hb6 (apart_symm HA3.out))); have D6 := Lib.hid (bel_grown (bel_alloc D5.out _) (P5.out.alloc _) hg6); clear hown6 hg6 hb6)
        go_roundw
        case rel => exact ⟨j + 1, A3, c3, A6, c6, by go_num, by omega, rfl, rfl, by rw [HR1.out]; exact O6, by rw [HR2.out]; exact P6, HA6, D6⟩
        case measure => simp [intOf]; omega
    · obtain rfl : k = j := by omega
      have q1 : decide ((k : Int) < (k : Int)) = false := decide_eq_false (by omega)
      obtain ⟨W0, hW0⟩ : ∃ W0, W0 = wr := ⟨_, rfl⟩
      subst hW0
      have HS1 := Lib.hid (Sizes_any A1 k c1 (List.replicate k (evI x)) (by omega) room W0 (own_reads HO.out))
      have HS2 := Lib.hid (fun (V : World) (h : Below W0.heap.size W0 V) => Sizes_any A2 k c2 (firmL x k) (by omega) room V (own_reads (own_below HP.out h)))
      unfold PS at HS1 HS2
      generalize ansS (List.replicate k (evI x)) room = an at EF HS1
      generalize errS (List.replicate k (evI x)) room = er at EF HS1
      generalize ansS (firmL x k) room = bn at EF HS2
      generalize errS (firmL x k) room = fr at EF HS2
      obtain ⟨m1, hm1⟩ : ∃ m1, an.length = m1 := ⟨_, rfl⟩
      obtain ⟨m2, hm2⟩ : ∃ m2, bn.length = m2 := ⟨_, rfl⟩
      rw [hm1, hm2] at EF
      rw [hm1] at HS1
      rw [hm2] at HS2
      have h1k : m1 < 60 := by have := EF.out.fa; omega
      have h2k : m2 < 60 := by have := EF.out.fb; omega
      have hqa : (er == 0) = false ∨ ((er == 0) = true ∧ ((m1 : Int) != (k : Int)) = false) := by
        rcases EF.out.fa with ⟨h, _⟩ | ⟨h, h'⟩
        · exact .inl (by rw [h]; rfl)
        · exact .inr ⟨by rw [h]; rfl, by rw [h']; simp⟩
      have hqb : (fr == 0) = false ∨ ((fr == 0) = true ∧ ((m2 : Int) != (k : Int)) = false) := by
        rcases EF.out.fb with ⟨h, _⟩ | ⟨h, h'⟩
        · exact .inl (by rw [h]; rfl)
        · exact .inr ⟨by rw [h]; rfl, by rw [h']; simp⟩
      have KW := Lib.hid (KX.out.keep HD.out)
      have BW := Lib.hid (bel_trans B01.out HD.out)
      clear HO HP HA hm1 hm2 HD KX B01
      go_upto_region 13 with (first
        | (go_at_call 10; (with_reducible refine HS1.out.mono ?_); rintro e w3 ⟨⟨A3, c3, rfl, r⟩, b⟩; have R3 := Lib.hid r; have B3 := Lib.hid b; clear r b)
        | (go_at_call 10; (with_reducible refine (HS2.out w3 B3.out).mono ?_); rintro e w5 ⟨⟨A5, c5, rfl, r⟩, b⟩; have R5 := Lib.hid r; have R3' := Lib.hid ((R3.out.below b).more b.size); have B5 := Lib.hid (bel_trans B3.out b); clear r b))
      clear HS1 HS2 R3 B3
      have K5 := Lib.hid (KW.out.keep B5.out)
      have B6 := Lib.hid (bel_trans BW.out B5.out)
      clear KW BW B5
      rcases hqa with t1 | ⟨t1, t2⟩ <;> rcases hqb with t3 | ⟨t3, t4⟩
      all_goals
        go_wp2
        go_loopw [15] (fun i wr => ∃ j : Nat, i = .int .i64 j ∧ j ≤ m1 ∧ Hid (Below w5.heap.size w5 wr)) (fun i _ => m1 - (intOf i).toNat)
        case atStart => exact ⟨0, rfl, by omega, Lib.hid (Below.refl _ _)⟩
        case round =>
          obtain ⟨j, rfl, hj, HE⟩ := hrel
          by_cases hlt : j < m1
          · have q2 : decide ((j : Int) < (m1 : Int)) = true := decide_eq_true (by omega)
            have i0 : (0 : Int) ≤ (j : Int) := by omega
            have i1 : (j : Int) < (m1 : Int) := by omega
            have i2 : (0 : Int) < (m1 : Int) := by omega
            have i3 : 0 < m1 := by omega
            obtain ⟨ad1, a, rfl, _, ha, ca⟩ := reads_int (R3'.out.below HE.out) hlt
            obtain ⟨_, b, e, _, hb, cb⟩ := reads_int (R3'.out.below HE.out) i3
            injection e with e
            subst e
            rw [add_zero_] at cb
            have az : ad1.add 0 = ad1 := add_zero_ ad1
            obtain ⟨u1, u2, u3, u4, u5, u6⟩ := EF.out.a_ j a b ha hb
            have w1' : IntKind.i64.wrap (a - b) = a - b := IntWalk.i64_in _ ⟨by omega, by omega⟩
            have w2' : IntKind.i64.wrap (b - a) = b - a := IntWalk.i64_in _ ⟨by omega, by omega⟩
            have q3 : decide (1 < a - b) = false := decide_eq_false (by omega)
            have q4 : decide (1 < b - a) = false := decide_eq_false (by omega)
            clear u1 u2 u3 u4 u5 u6 ha hb R3' R5 EF K5 B6
            go_upto_region 18 with fail
            go_quiet (fail)
            have HQ := Lib.hid (bel_drewN HE.out nq)
            generalize wr.drewN nq = W7 at HQ ⊢
            clear ca cb HE
            go_wp2
            go_roundw
            case rel => exact ⟨j + 1, by go_num, by omega, HQ⟩
            case measure => simp [intOf]; omega
          · obtain rfl : m1 = j := by omega
            have q2 : decide ((m1 : Int) < (m1 : Int)) = false := decide_eq_false (by omega)
            obtain ⟨W8, hW8⟩ : ∃ W8, W8 = wr := ⟨_, rfl⟩
            subst hW8
            clear R3'
            go_wp2
            go_loopw [16] (fun i wr => ∃ j : Nat, i = .int .i64 j ∧ j ≤ m2 ∧ Hid (Below w5.heap.size w5 wr)) (fun i _ => m2 - (intOf i).toNat)
            case atStart => exact ⟨0, rfl, by omega, HE⟩
            case round =>
              clear HE
              obtain ⟨j, rfl, hj, HE⟩ := hrel
              by_cases hlt : j < m2
              · have q3 : decide ((j : Int) < (m2 : Int)) = true := decide_eq_true (by omega)
                have i0 : (0 : Int) ≤ (j : Int) := by omega
                have i1 : (j : Int) < (m2 : Int) := by omega
                obtain ⟨ad2, b, rfl, _, hb, cb⟩ := reads_int (R5.out.below HE.out) hlt
                have h := EF.out.b_ j b hb
                have q4 : decide (b < mxV x.base x.least) = false := decide_eq_false (by omega)
                have K7 := Lib.hid (K5.out.keep HE.out)
                have x0 : wr.cell? ⟨gx, 0, none⟩ = some (.int .i64 x.base) := K7.out.cell 0
                have x1 : wr.cell? ⟨gx, 1, none⟩ = some (.int .i64 x.least) := K7.out.cell 1
                clear h hb EF R5 K5 K7 B6
                go_upto_region 23 with fail
                go_region
                go_wp2
                go_roundw
                case rel => exact ⟨j + 1, by go_num, by omega, Lib.hid HE.out.drew⟩
                case measure => simp [intOf]; omega
              · obtain rfl : m2 = j := by omega
                have q3 : decide ((m2 : Int) < (m2 : Int)) = false := decide_eq_false (by omega)
                have BE := Lib.hid (bel_trans B6.out HE.out)
                clear R5 EF K5 B6
                go_wp2_with (go_at_call 9; (with_reducible refine (HH.out _).mono ?_); rintro e w9 ⟨rfl, b⟩; have T6 := Lib.hid (bel_trans BE.out b); clear b)
                go_ret
                exact ⟨rfl, T6.out⟩
end Go.Proofs.Ytglomkpnbdnnoaa.Flex

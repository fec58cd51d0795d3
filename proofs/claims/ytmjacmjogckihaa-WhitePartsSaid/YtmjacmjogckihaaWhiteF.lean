/- Chapter 8: what a step leaves, walked. No condition but bounds. -/
import Derived.Test.YtmjacmjogckihaaWhiteE
import Derived.Deep.WholeRow
namespace Go.Proofs.Ytmjacmjogckihaa.White
open Go.RowKit
set_option linter.unusedVariables false
set_option linter.unusedSimpArgs false
theorem A_infoMk : (Try.prog.info? 47).map (fun i => (i.zero, i.size, i.bytes)) = some (some (.agg #[.int .i32 0, .int .i64 0, .int .i64 0, .int .i64 0, .int .u8 0, .int .u8 0, .bool false, .bool false, .bool false]), 9, 48) := by kernel_rfl
theorem reads_newK {k : Nat} (w : World) (t : TypeId) (cs : Array Value) (n : Nat) (xs : List Value) (h : cs.toList = xs) (hn : xs.length = n * k) :
    Reads (w.alloc (.cells cs t)) (w.alloc (.cells cs t)).heap.size k (some ⟨w.heap.size, 0, none⟩) n xs := by
  refine ⟨by omega, fun _ => ⟨_, rfl, by simp, fun j u hu => ?_⟩⟩
  have hb := Blk.new w t cs
  have ha : (⟨w.heap.size, 0, none⟩ : Addr).add j = ⟨w.heap.size, j, none⟩ := by
    unfold Addr.add
    split
    · subst_vars; rfl
    · simp
  rw [ha, hb.cell j, ← Array.getElem?_toList, h]
  exact hu
theorem reads_one9 (w : World) (t : TypeId) (m : Mk) (u : Nat → Option Value) : ∀ j v, (mkC m)[j]? = some v → (w.alloc (.cells (mkC m).toArray t)).cell? ((⟨w.heap.size, 0, none⟩ : Addr).add j) = some v := by
  intro j v hv
  obtain ⟨ad, e, _, h⟩ := (reads_newK (k := 9) w t (mkC m).toArray 1 (mkC m) rfl rfl).2 (by omega)
  injection e with e
  subst e
  exact h j v hv
theorem mkC_one (m : Mk) : ∀ u ∈ mkC m, u.oneCell' = true := by simp [mkC, Value.oneCell']
theorem mkL_snoc (pre : List Mk) (m : Mk) : mkL (pre ++ [m]) = mkL pre ++ mkC m := by simp [mkL]
set_option maxHeartbeats 4000000 in
theorem left_any (kk : Nat) (hk5 : kk < 5) (A : Option Addr) (n c : Nat) (ms : List Mk) (hn : n ≤ 1000000000) (B bx ba : Nat) (W : World) (hR : Reads W W.heap.size 9 A n (mkL ms)) (hs : SW B W) (hx : Blk W bx 53 #[outF B kk, turnF kk]) (ha : Blk W ba 45 #[.slice A n c]) :
    Calls Try.prog 23 #[.slice A n c, .func (.func 24) #[] #[.pointer (some ⟨bx, 0, none⟩), .pointer (some ⟨ba, 0, none⟩)]] W fun e w' => ∃ v, e = .returned v ∧ w'.ownsRow W.heap.size 47 9 v (filterZ (stepP kk) [] ms).length (mkL (filterZ (stepP kk) [] ms)) ∧ Below W.heap.size W w' := by
  have HL := len_mk hR
  have HC := Lib.hid (fun (V : World) (j : Nat) (hj : j < n) (hb : Below W.heap.size W V) => coll_any kk A n c ms j hj hn B bx ba V hk5 ((hR.below hb).more hb.size) (hs.keep hb) (hx.keep hb) (ha.keep hb))
  have HR := Lib.hid hR
  obtain ⟨i0, hi, hz0, hz1, hz2⟩ := info_parts A_infoMk
  have nn : (n : Int) ≤ 1000000000 := by omega
  clear hs hx ha hR
  go_enter Try.func23, Try.ntmps23
  go_wp2_with (fail)
  go_loopw [5, 6, 7, 10] (fun o a b i wr => ∃ (k : Nat) (pre : List Mk) (A0 : Option Addr) (c0 : Nat), i = .int .i64 k ∧ o = .slice A0 pre.length c0 ∧ k ≤ n ∧ pre.length ≤ k ∧ Hid (filterZ (stepP kk) [] ms = pre ++ filterZ (stepP kk) (ms.take k).reverse (ms.drop k)) ∧ Hid (wr.ownsRow W.heap.size 47 9 (.slice A0 pre.length c0) pre.length (mkL pre)) ∧ Hid (Below W.heap.size W wr)) (fun _ _ _ i _ => n - (intOf i).toNat)
  case atStart => exact ⟨0, [], none, 0, rfl, rfl, by omega, Nat.le_refl _, Lib.hid (by rw [List.drop_zero]; rfl), Lib.hid (own_nil _ _ _ _), Lib.hid (Below.refl _ _)⟩
  case round =>
    obtain ⟨k, pre, A0, c0, rfl, rfl, hk, hpk, HP, HO, HB⟩ := hrel
    by_cases hlt : k < n
    · have q1 : decide ((k : Int) < (n : Int)) = true := decide_eq_true (by omega)
      obtain ⟨ad, m, rfl, hb, hm, cc⟩ := reads_mk HR.out hlt
      have cc := cc.keep HB.out (by rw [block_of_add]; exact hb)
      have HF := HP.out
      rw [filterZ_step _ ms k m hm] at HF
      have hout := outAt_some (p := stepP kk) hm
      have HCk := Lib.hid (fun (V : World) (hb : Below W.heap.size W V) => HC.out V k hlt hb)
      rw [hout] at HCk
      clear hout
      generalize stepP kk (ms.take k).reverse m (ms.drop (k + 1)) = r at HF HCk
      obtain ⟨c0', c1, c2, c3, c4, c5, c6, c7, c8⟩ := cc
      have HM := Lib.hid hm
      clear hm
      obtain ⟨⟨r0, nd, p, n', kd⟩, st, fo, en, so⟩ := m
      simp only at c0' c1 c2 c3 c4 c5 c6 c7 c8
      have HB2 := Lib.hid (bel_alloc HB.out (.cells #[.int .i32 r0, .int .i64 nd, .int .i64 p, .int .i64 n', .int .u8 kd, .int .u8 st, .bool fo, .bool en, .bool so] 47))
      have KX := Lib.hid (Blk.new wr 47 #[.int .i32 r0, .int .i64 nd, .int .i64 p, .int .i64 n', .int .u8 kd, .int .u8 st, .bool fo, .bool en, .bool so])
      have lp : (pre.length : Int) ≤ 1000000000 := by omega
      cases r
      · have HF := Lib.hid HF
        go_wp2_with (first
          | (go_at_call 24; (with_reducible refine (HCk.out _ HB2.out).mono ?_); rintro e w1 ⟨rfl, b1⟩; have K1 := KX.out.keep b1; have d0 := K1.cell 0; have d1 := K1.cell 1; have d2 := K1.cell 2; have d3 := K1.cell 3; have d4 := K1.cell 4; have d5 := K1.cell 5; have d6 := K1.cell 6; have d7 := K1.cell 7; have d8 := K1.cell 8; have HO1 := Lib.hid (own_below (HO.out.alloc (.cells #[.int .i32 r0, .int .i64 nd, .int .i64 p, .int .i64 n', .int .u8 kd, .int .u8 st, .bool fo, .bool en, .bool so] 47)) b1); have HB3 := Lib.hid (bel_trans HB2.out b1); clear b1 K1)
          | (at_builtin; refine wpList_append_own _ rfl (.tmp 19) (.tmp 21) 45 rfl W.heap.size 47 i0 (.agg #[.int .i32 0, .int .i64 0, .int .i64 0, .int .i64 0, .int .u8 0, .int .u8 0, .bool false, .bool false, .bool false]) 9 48 Try.underlying45 hi hz0 hz1 hz2 rfl (by decide) (.slice A0 pre.length c0) _ _ rfl (HO1.out.alloc _) ⟨_, 0, none⟩ 1 1 (mkC ⟨⟨r0, nd, p, n', kd⟩, st, fo, en, so⟩) rfl rfl (reads_one9 _ _ ⟨⟨r0, nd, p, n', kd⟩, st, fo, en, so⟩ (fun _ => none)) (mkC_one _) ?c4 ?c5 ?c6 ?_))
        case c4 => unfold maxLen; omega
        case c5 => omega
        case c6 => have := HB3.out.size; simp only [World.size_alloc]; omega
        intro v' w7 hown' hg _
        have hb7 := Lib.hid (bel_grown (bel_alloc HB3.out _) (HO1.out.alloc _) hg)
        obtain ⟨A', c', rfl⟩ := own_shape hown'
        have HO7 := Lib.hid hown'
        clear hown' hg
        go_wp2
        go_roundw
        case rel => exact ⟨k + 1, pre ++ [⟨⟨r0, nd, p, n', kd⟩, st, fo, en, so⟩], A', c', by go_num, by rw [List.length_append]; rfl, by omega, by rw [List.length_append]; simp; omega, Lib.hid (by rw [HF.out]; simp), Lib.hid (by rw [mkL_snoc, List.length_append]; exact HO7.out), hb7⟩
        case measure => simp [intOf]; omega
      · have HF := Lib.hid HF
        go_wp2_with (go_at_call 24; (with_reducible refine (HCk.out _ HB2.out).mono ?_); rintro e w1 ⟨rfl, b1⟩; have HO1 := Lib.hid (own_below (HO.out.alloc (.cells #[.int .i32 r0, .int .i64 nd, .int .i64 p, .int .i64 n', .int .u8 kd, .int .u8 st, .bool fo, .bool en, .bool so] 47)) b1); have HB3 := Lib.hid (bel_trans HB2.out b1); clear b1)
        go_roundw
        case rel => exact ⟨k + 1, pre, A0, c0, by go_num, rfl, by omega, by omega, Lib.hid (by rw [HF.out]; simp), HO1, HB3⟩
        case measure => simp [intOf]; omega
    · obtain rfl : k = n := by omega
      have q1 : decide ((k : Int) < (k : Int)) = false := decide_eq_false (by omega)
      go_wp2
      go_ret
      refine ⟨_, rfl, ?_, HB.out⟩
      have e : filterZ (stepP kk) [] ms = pre := by rw [HP.out, List.drop_of_length_le (by omega)]; simp [filterZ]
      rw [e]
      exact HO.out
end Go.Proofs.Ytmjacmjogckihaa.White

/- Chapter 2: the iterator over a text's characters, walked. No condition but bounds. -/
import Derived.Test.YtbafdijklcoeoaaDoorUtfU
import Derived.Test.YtbafdijklcoeoaaDoorRange
namespace Go.Proofs.YtbafdijklcoeoaaDoor.Utf
open Go.RowKit
set_option linter.unusedVariables false
set_option linter.unusedSimpArgs false
attribute [local go_sem] Oper.semAt_some

theorem str_drop (b : List UInt8) (m : Nat) : (⟨b.toArray⟩ : ByteArray).extract m b.length = ⟨(b.drop m).toArray⟩ := by
  apply ByteArray.ext
  simp
  exact List.take_of_length_le (by simp)
/-- A character as the program holds it. -/
abbrev chV (c : Ch) : Value := .agg #[.int .i32 c.r, .int .i64 0, .int .i64 c.p, .int .i64 c.n, .int .u8 0]
abbrev encC (c : Ch) : Array Value := #[chV c, .bool c.ok]
/-- What must lie between two rounds: the tables, the box of the text. -/
def SQ (bx : Nat) (b : Nat) : Prop := b < 3 ∨ b = bx
theorem Tabs.lies {bx : Nat} {W W' : World} (h : Tabs W) (hk : Lies (SQ bx) W W') : Tabs W' := by
  have lt : ∀ {a : Addr} {v : Value}, W.cell? a = some v → a.block < W.heap.size := fun {a v} hc => by
    rcases Nat.lt_or_ge a.block W.heap.size with h' | h'
    · exact h'
    · simp [World.cell?, Array.getElem?_eq_none h'] at hc
  have key : ∀ {a : Addr} {v : Value}, a.block < 3 → W.cell? a = some v → W'.cell? a = some v := fun {a v} ha hc => (World.cell?_of_block (hk.same a.block (.inl ha) (lt hc))).trans hc
  exact ⟨⟨fun c hc => key (by show 0 < 3; omega) (h.u8.1 c hc), fun i hi => ⟨key (by show 1 < 3; omega) (h.u8.2 i hi).1, key (by show 1 < 3; omega) (h.u8.2 i hi).2⟩⟩, fun i hi => key (by show 2 < 3; omega) (h.sec i hi)⟩
theorem all_any (l : List UInt8) (w : World) : Calls Tryd.prog 19 #[strV l] w fun e w' => e = .returned (.func (.func 26) #[] #[.pointer (some ⟨w.heap.size, 0, none⟩)]) ∧ w.alloc (.cells #[strV l] 9) = w' := by
  go_enter Tryd.func19, Tryd.ntmps19
  go_wp2
  go_ret
  exact ⟨rfl, rfl⟩
set_option maxHeartbeats 4000000 in
set_option maxRecDepth 100000 in
theorem all_seq (l : List UInt8) (hl : l.length ≤ 1000000000000) (bx : Nat) (W0 : World) (hbx : bx < W0.heap.size) (hbox : Blk W0 bx 9 #[strV l]) (hT : Tabs W0) :
    SeqT Tryd.prog 26 #[.pointer (some ⟨bx, 0, none⟩)] encC (fun _ => False) (Lies (SQ bx)) (fun _ _ => True) (chs l 0) W0 := by
  intro lv J Jx hJ hJx hY h0
  have gl : (⟨l.toArray⟩ : ByteArray).size = l.length := rfl
  have HY := Lib.hid hY
  have HJ := Lib.hid hJ
  clear hY hJ hJx
  have J0 := Lib.hid h0
  have B0 := Lib.hid hbox
  have T0 := Lib.hid hT
  have bl : (l.length : Int) ≤ 1000000000000 := by omega
  have S1 := str_drop l
  clear h0 hbox hT hl
  refine callsIn_of_wp Tryd.func26 rfl trivial ?_ rfl
  simp only [Tryd.ntmps26, List.size_toArray, List.length_cons, List.length_nil, Nat.reduceAdd, Nat.reduceSub, Array.replicate_succ, Array.replicate_zero, List.push_toArray, List.append_toArray, List.nil_append, List.cons_append]
  gi_wp2
  gi_loopw [3, 4, 5, 6] (fun i x y z wr => ∃ (k : Nat) (pre : List Ch), i = .int .i64 k ∧ k ≤ l.length ∧ Hid (chs l 0 = pre ++ chs (l.drop k) k) ∧ Hid (Blk wr bx 9 #[strV l]) ∧ Hid (Tabs wr) ∧ Hid (J pre wr)) (fun i _ _ _ wr => l.length - (intOf i).toNat)
  case atStart => exact ⟨0, [], rfl, by omega, Lib.hid (by rw [List.drop_zero]; rfl), B0, T0, J0⟩
  case round =>
    obtain ⟨k, pre, rfl, hk, HP, B, T, JJ⟩ := hrel
    have c0 : wr.cell? ⟨bx, 0, none⟩ = some (strV l) := B.out.cell 0
    by_cases hlt : k < l.length
    · have q1 : decide ((k : Int) < (l.length : Int)) = true := decide_eq_true (by omega)
      have i1 : (k : Int) < (l.length : Int) := by omega
      have i0 : (0 : Int) ≤ (k : Int) := by omega
      obtain ⟨hne, hs1, hs2, hs3, hs4⟩ := chs_split HP.out hlt
      have S2 := S1 k
      have HPr := Lib.hid (show pre ++ [Ch.mk (rS (l.drop k)) k (nS (l.drop k)) (okS (l.drop k))] <+: chs l 0 from ⟨_, hs1.symm⟩)
      have HS1 := Lib.hid hs1
      clear hs1
      have HD := Lib.hid (fun (W : World) (h : Tabs W) => Tryd.utf8_DecodeRuneInString ⟨(l.drop k).toArray⟩ W h.u8)
      rw [dec_eq _ hne] at HD
      have HWr := Lib.hid (fun (W : World) (h : Tabs W) => wrong_any (l.drop k) W hne (by rw [List.length_drop]; omega) h)
      have hE := rS_point hne
      have HN := Lib.hid hne
      obtain ⟨r, hr⟩ : ∃ r, rS (l.drop k) = r := ⟨_, rfl⟩
      obtain ⟨n, hn⟩ : ∃ n, nS (l.drop k) = n := ⟨_, rfl⟩
      obtain ⟨b, hb⟩ : ∃ b, okS (l.drop k) = b := ⟨_, rfl⟩
      rw [hr] at HD HPr HS1 hE
      rw [hn] at HPr HS1 hs2 hs3 hs4
      rw [hb] at HD HPr HS1
      have HX := Lib.hid (show ∀ W, J pre W → YieldAt Fence.wide 8 Tryd.prog lv #[.agg #[.int .i32 r, .int .i64 0, .int .i64 k, .int .i64 n, .int .u8 0], .bool b] W fun e W' => (e = .returned (.bool true) ∧ J (pre ++ [Ch.mk r k n b]) W' ∧ Lies (SQ bx) W W') ∨ (e = .returned (.bool false) ∧ Jx (pre ++ [Ch.mk r k n b]) W') from fun W hj => HY.out pre (Ch.mk r k n b) W HPr.out trivial hj)
      have n4 : (n : Int) ≤ 4 := by omega
      cases b with
      | true =>
        have hbeg : begN (l.drop k) = n := by rw [← hn]; unfold nS; rw [if_pos hb]
        have hD2 : Hid (∀ (W : World) (h : Tabs W), Calls Tryd.prog 27 #[strV (l.drop k)] W fun e w' => e = .returned (.tuple #[.int .i32 r, .int .i64 n]) ∧ Below W.heap.size W w') := Lib.hid (fun W h => by
          have := HD.out W h
          rw [if_pos rfl, hbeg] at this
          simpa only [i2n r hE.1] using this)
        have HB3 := Lib.hid (show r = 65533 → 1 < n from fun e => by
          rw [← hbeg]
          cases shape _ hne with
          | one g hb2 hn2 => have := rS_one hne hb2 hn2; omega
          | two g g1 g2 hb2 hn2 => omega
          | three g g1 g2 g3 hb2 hn2 => omega
          | four g g1 g2 g3 g4 hb2 hn2 => omega
          | bad hk => rw [hb] at hk; cases hk)
        clear HD HWr hne hE hr hn hb hbeg
        by_cases g : r = 65533
        · have q2 : (r != 65533) = false := by simp; exact g
          have q3 : decide ((1 : Int) < (n : Int)) = true := decide_eq_true (by have := HB3.out g; omega)
          clear g
          gi_wp2_with (first
            | (refine ⟨trivial, ?_⟩; gi_at_call 27; refine (callsIn_wide.2 (hD2.out _ T.out)).mono ?_; rintro e w1 ⟨rfl, hb1⟩; have T1 := Lib.hid (T.out.below hb1); have B1 := Lib.hid (B.out.keep hb1); have J1 := Lib.hid (HJ.out.more _ _ _ JJ.out hb1); have c1 : w1.cell? ⟨bx, 0, none⟩ = some (strV l) := B1.out.cell 0; clear hb1; obtain ⟨fn, tmps, assign, body, hy, hR⟩ := HX.out _ J1.out))
          refine hR.mono ?_
          rintro e W3 (⟨rfl, hJ3, hk3⟩ | ⟨rfl, hJx3⟩)
          · have T3 := Lib.hid (T1.out.lies hk3)
            have B3 := Lib.hid (B1.out.lies hk3 (.inr rfl))
            have J3 := Lib.hid hJ3
            clear hJ3 hk3
            gi_wp2
            go_roundw
            case rel => exact ⟨k + n, _, by go_num, hs2, HS1, B3, T3, J3⟩
            case measure => simp [intOf]; omega
          · have J3 := Lib.hid hJx3
            clear hJx3
            gi_wp2
            refine bodyPost_ret (results_none rfl _ _ _) rfl ?_
            exact ⟨⟨_, rfl⟩, .inr ⟨_, HPr.out, J3.out⟩⟩
        · have q2 : (r != 65533) = true := by simpa using g
          clear g
          gi_wp2_with (first
            | (refine ⟨trivial, ?_⟩; gi_at_call 27; refine (callsIn_wide.2 (hD2.out _ T.out)).mono ?_; rintro e w1 ⟨rfl, hb1⟩; have T1 := Lib.hid (T.out.below hb1); have B1 := Lib.hid (B.out.keep hb1); have J1 := Lib.hid (HJ.out.more _ _ _ JJ.out hb1); have c1 : w1.cell? ⟨bx, 0, none⟩ = some (strV l) := B1.out.cell 0; clear hb1; obtain ⟨fn, tmps, assign, body, hy, hR⟩ := HX.out _ J1.out))
          refine hR.mono ?_
          rintro e W3 (⟨rfl, hJ3, hk3⟩ | ⟨rfl, hJx3⟩)
          · have T3 := Lib.hid (T1.out.lies hk3)
            have B3 := Lib.hid (B1.out.lies hk3 (.inr rfl))
            have J3 := Lib.hid hJ3
            clear hJ3 hk3
            gi_wp2
            go_roundw
            case rel => exact ⟨k + n, _, by go_num, hs2, HS1, B3, T3, J3⟩
            case measure => simp [intOf]; omega
          · have J3 := Lib.hid hJx3
            clear hJx3
            gi_wp2
            refine bodyPost_ret (results_none rfl _ _ _) rfl ?_
            exact ⟨⟨_, rfl⟩, .inr ⟨_, HPr.out, J3.out⟩⟩
      | false =>
        have hD2 : Hid (∀ (W : World) (h : Tabs W), Calls Tryd.prog 27 #[strV (l.drop k)] W fun e w' => e = .returned (.tuple #[.int .i32 65533, .int .i64 1]) ∧ Below W.heap.size W w') := Lib.hid (fun W h => by
          have := HD.out W h
          rw [if_neg Bool.false_ne_true] at this
          exact this)
        have hr2 : r = 65533 := by rw [← hr]; exact rS_bad hb
        subst hr2
        have HWr2 : Hid (∀ (W : World) (h : Tabs W), Calls Tryd.prog 28 #[strV (l.drop k)] W fun e w' => e = .returned (.int .i64 n) ∧ Below W.heap.size W w') := Lib.hid (fun W h => by
          have e : wrongN (l.drop k) = n := by rw [← hn]; unfold wrongN nS; rw [if_neg (by rw [hb]; simp)]
          have := HWr.out W h
          rwa [e] at this)
        clear HD HWr hne hE hr hn hb
        gi_wp2_with (first
          | (refine ⟨trivial, ?_⟩; gi_at_call 27; refine (callsIn_wide.2 (hD2.out _ T.out)).mono ?_; rintro e w1 ⟨rfl, hb1⟩; have T1 := Lib.hid (T.out.below hb1); have B1 := Lib.hid (B.out.keep hb1); have J1 := Lib.hid (HJ.out.more _ _ _ JJ.out hb1); have c1 : w1.cell? ⟨bx, 0, none⟩ = some (strV l) := B1.out.cell 0; clear hb1)
          | (refine ⟨trivial, ?_⟩; gi_at_call 28; refine (callsIn_wide.2 (HWr2.out _ T1.out)).mono ?_; rintro e w2 ⟨rfl, hb2⟩; have T2 := Lib.hid (T1.out.below hb2); have B2 := Lib.hid (B1.out.keep hb2); have J2 := Lib.hid (HJ.out.more _ _ _ J1.out hb2); clear hb2; obtain ⟨fn, tmps, assign, body, hy, hR⟩ := HX.out _ J2.out))
        refine hR.mono ?_
        rintro e W3 (⟨rfl, hJ3, hk3⟩ | ⟨rfl, hJx3⟩)
        · have T3 := Lib.hid (T2.out.lies hk3)
          have B3 := Lib.hid (B2.out.lies hk3 (.inr rfl))
          have J3 := Lib.hid hJ3
          clear hJ3 hk3
          gi_wp2
          go_roundw
          case rel => exact ⟨k + n, _, by go_num, hs2, HS1, B3, T3, J3⟩
          case measure => simp [intOf]; omega
        · have J3 := Lib.hid hJx3
          clear hJx3
          gi_wp2
          refine bodyPost_ret (results_none rfl _ _ _) rfl ?_
          exact ⟨⟨_, rfl⟩, .inr ⟨_, HPr.out, J3.out⟩⟩
    · have q1 : decide ((k : Int) < (l.length : Int)) = false := decide_eq_false (by omega)
      have HE := Lib.hid (show pre = chs l 0 by have := HP.out; rw [show k = l.length by omega, List.drop_length, chs_nil, List.append_nil] at this; exact this.symm)
      rw [HE.out] at JJ
      gi_wp2
      go_end0
      exact ⟨⟨_, rfl⟩, .inl JJ.out⟩
end Go.Proofs.YtbafdijklcoeoaaDoor.Utf

/- Chapter 3: the reference takes integers, truths, texts, walked. No condition but bounds. -/
import Derived.Test.YtijkfllolcgfhaaPackT
namespace Go.Proofs.Ytijkfllolcgfhaa.Pack
open Go.RowKit
set_option linter.unusedVariables false
set_option linter.unusedSimpArgs false

/-- Behind the call: what was taken, in a block of its own. -/
structure TN (w : World) (st s1 : Option (List UInt8)) (R : Nat) (W : World) : Prop where
  m : TM w st W
  r : Blk W R 53 #[strV (s1.getD []), .bool s1.isSome]
  lt : w.heap.size + 1 < R
section
variable {w W W' : World} {st s1 : Option (List UInt8)} {R : Nat}
theorem TN.drew (h : TN w st s1 R W) : TN w st s1 R W.drew := ⟨h.m.drew, h.r.drew, h.lt⟩
theorem TM.take (m : TM w st W) (hb : Below W.heap.size W W') : TN w st s1 W'.heap.size (W'.alloc (.cells #[strV (s1.getD []), .bool s1.isSome] 53)) := by
  have h1 := m.keep hb
  exact ⟨⟨h1.a.alloc _, h1.b.alloc _, bel_alloc h1.bel _⟩, Blk.new _ _ _, h1.b.lt⟩
theorem TN.keep (h : TN w st s1 R W) (hb : Below W.heap.size W W') : TN w st s1 R W' := ⟨h.m.keep hb, h.r.keep hb, h.lt⟩
theorem TN.cells (h : TN w st s1 R W) : W.cell? ⟨R, 0, none⟩ = some (strV (s1.getD [])) ∧ W.cell? ⟨R, 1, none⟩ = some (.bool s1.isSome) ∧ W.frozen? ⟨R, 0, none⟩ = false ∧ W.frozen? ⟨R, 1, none⟩ = false ∧ W.cell? ⟨w.heap.size + 1, 0, none⟩ = some (strV []) ∧ W.cell? ⟨w.heap.size + 1, 1, none⟩ = some (.bool false) ∧ W.frozen? ⟨w.heap.size + 1, 0, none⟩ = false ∧ W.frozen? ⟨w.heap.size + 1, 1, none⟩ = false :=
  ⟨h.r.cell 0, h.r.cell 1, h.r.frozen 0, h.r.frozen 1, h.m.b.cell 0, h.m.b.cell 1, h.m.b.frozen 0, h.m.b.frozen 1⟩
end
set_option maxHeartbeats 4000000 in
theorem tint_any (st : Option (List UInt8)) (w : World) (hb : ∀ b, st = some b → b.length ≤ 10000000000000) :
    Calls Try.prog 50 #[rowV st] w fun e w' => e = .returned (.tuple #[.int .i64 (tiS st).1, rowV (tiS st).2]) ∧ Below w.heap.size w w' := by
  have HN := Lib.hid (fun W => tnum_any st W hb)
  have HT := Lib.hid (show tiS st = (unzz (tnS st).1, (tnS st).2) from rfl)
  have HU := Lib.hid (tnS_u64 st)
  clear hb
  have M := Lib.hid (TM.new w st)
  obtain ⟨c0, c1, _⟩ := M.out.cells
  generalize tiS st = T at HT ⊢
  generalize tnS st = N at HT HN HU
  obtain ⟨n, s1⟩ := N
  have HN : Hid (∀ W, Calls Try.prog 59 #[rowV st] W fun e w' => e = .returned (.tuple #[.int .u64 (n : Int), rowV s1]) ∧ Below W.heap.size W w') := HN
  have HU : Hid (n < 18446744073709551616) := HU
  have HT : T = (unzz n, s1) := HT.out
  subst HT
  by_cases hn : n % 2 = 1
  · have e9 := Lib.hid (show unzz n = -((n / 2 : Nat) : Int) - 1 by unfold unzz; rw [if_pos hn])
    have q1 : ((n : Int) % 2 == 1) = true := by simp; omega
    have HNN := Lib.hid hn
    clear hn
    go_enter Try.func50, Try.ntmps50
    go_wp2_with (go_at_call 59; (with_reducible refine (HN.out _).mono ?_); rintro e w1 ⟨rfl, hb1⟩)
    have T2 : TN w st s1 w1.heap.size (w1.alloc (.cells #[strV (s1.getD []), .bool s1.isSome] 53)) := M.out.take hb1
    have hgt := T2.lt
    generalize (w1.alloc (.cells #[strV (s1.getD []), .bool s1.isSome] 53)) = V at T2 ⊢
    generalize w1.heap.size = R at T2 hgt ⊢
    obtain ⟨d0, d1, d2, d3, d4, d5, d6, d7⟩ := T2.cells
    go_region
    all_goals
      go_wp2
      obtain ⟨s0, s1', bel⟩ := T2.m.put (strV (s1.getD [])) (.bool s1.isSome)
      exact bodyPost_ret (v := .tuple #[.int .i64 (unzz n), rowV s1]) (by simp [results, Try.results50, go_sem, s0, s1', e9.out]; rw [IntKind.wrap_u64]; unfold wrap64; have := HU.out; omega) rfl ⟨rfl, bel.drew⟩
  · have e9 := Lib.hid (show unzz n = ((n / 2 : Nat) : Int) by unfold unzz; rw [if_neg hn])
    have q1 : ((n : Int) % 2 == 1) = false := by simp; omega
    have HNN := Lib.hid hn
    clear hn
    go_enter Try.func50, Try.ntmps50
    go_wp2_with (go_at_call 59; (with_reducible refine (HN.out _).mono ?_); rintro e w1 ⟨rfl, hb1⟩)
    have T2 : TN w st s1 w1.heap.size (w1.alloc (.cells #[strV (s1.getD []), .bool s1.isSome] 53)) := M.out.take hb1
    have hgt := T2.lt
    generalize (w1.alloc (.cells #[strV (s1.getD []), .bool s1.isSome] 53)) = V at T2 ⊢
    generalize w1.heap.size = R at T2 hgt ⊢
    obtain ⟨d0, d1, d2, d3, d4, d5, d6, d7⟩ := T2.cells
    go_region
    all_goals
      go_wp2
      obtain ⟨s0, s1', bel⟩ := T2.m.put (strV (s1.getD [])) (.bool s1.isSome)
      exact bodyPost_ret (v := .tuple #[.int .i64 (unzz n), rowV s1]) (by simp [results, Try.results50, go_sem, s0, s1', e9.out]; rw [IntKind.wrap_u64]; unfold wrap64; have := HU.out; omega) rfl ⟨rfl, bel.drew⟩
set_option maxHeartbeats 4000000 in
theorem ttruth_any (st : Option (List UInt8)) (w : World) (hb : ∀ b, st = some b → b.length ≤ 10000000000000) :
    Calls Try.prog 51 #[rowV st] w fun e w' => e = .returned (.tuple #[.bool (ttS st).1, rowV (ttS st).2]) ∧ Below w.heap.size w w' := by
  have HN := Lib.hid (fun W => tnum_any st W hb)
  have HM := Lib.hid (rem_le (st' := (tnS st).2) hb tnS_rem.1)
  have HT := Lib.hid (show ttS st = if (tnS st).1 ≤ 1 then (decide ((tnS st).1 = 1), (tnS st).2) else (false, none) from rfl)
  have HU := Lib.hid (tnS_u64 st)
  clear hb
  have M := Lib.hid (TM.new w st)
  obtain ⟨c0, c1, _⟩ := M.out.cells
  generalize ttS st = T at HT ⊢
  generalize tnS st = N at HT HN HU HM
  obtain ⟨n, s1⟩ := N
  have HN : Hid (∀ W, Calls Try.prog 59 #[rowV st] W fun e w' => e = .returned (.tuple #[.int .u64 (n : Int), rowV s1]) ∧ Below W.heap.size W w') := HN
  have HU : Hid (n < 18446744073709551616) := HU
  have HM : Hid (∀ b, s1 = some b → b.length ≤ 10000000000000) := HM
  by_cases hn : n ≤ 1
  · have HT : T = (decide (n = 1), s1) := by have := HT.out; simp only at this; rwa [if_pos hn] at this
    subst HT
    have q1 : decide (1 < (n : Int)) = false := by simp; omega
    have e9 : ((n : Int) == 1) = decide (n = 1) := by by_cases h1 : n = 1 <;> simp [h1]; omega
    have HNN := Lib.hid hn
    have HE9 := Lib.hid e9
    clear hn e9
    go_enter Try.func51, Try.ntmps51
    go_wp2_with (go_at_call 59; (with_reducible refine (HN.out _).mono ?_); rintro e w1 ⟨rfl, hb1⟩)
    have T2 : TN w st s1 w1.heap.size (w1.alloc (.cells #[strV (s1.getD []), .bool s1.isSome] 53)) := M.out.take hb1
    have hgt := T2.lt
    generalize (w1.alloc (.cells #[strV (s1.getD []), .bool s1.isSome] 53)) = V at T2 ⊢
    generalize w1.heap.size = R at T2 hgt ⊢
    obtain ⟨d0, d1, d2, d3, d4, d5, d6, d7⟩ := T2.cells
    go_region
    all_goals
      go_wp2
      obtain ⟨s0, s1', bel⟩ := T2.m.put (strV (s1.getD [])) (.bool s1.isSome)
      exact bodyPost_ret (v := .tuple #[.bool (decide (n = 1)), rowV s1]) (by simp [results, Try.results51, go_sem, s0, s1', HE9.out]) rfl ⟨rfl, bel.drew⟩
  · have HT : T = (false, none) := by have := HT.out; simp only at this; rwa [if_neg hn] at this
    subst HT
    have q1 : decide (1 < (n : Int)) = true := by simp; omega
    have HNN := Lib.hid hn
    clear hn
    go_enter Try.func51, Try.ntmps51
    go_wp2_with (first
      | (go_at_call 59; (with_reducible refine (HN.out _).mono ?_); rintro e w1 ⟨rfl, hb1⟩; have T2 : Hid (TN w st s1 w1.heap.size (w1.alloc (.cells #[strV (s1.getD []), .bool s1.isSome] 53))) := Lib.hid (M.out.take hb1))
      | (go_at_call 65; refine (bad_any _).mono ?_; rintro e w2 ⟨rfl, hb2⟩; have T3 := Lib.hid (T2.out.keep hb2); obtain ⟨d0, d1, d2, d3, d4, d5, d6, d7⟩ := T3.out.cells))
    obtain ⟨s0, s1', bel⟩ := T3.out.m.put (strV []) (.bool false)
    exact bodyPost_ret (v := .tuple #[.bool false, rowV none]) (by simp [results, Try.results51, go_sem, s0, s1']) rfl ⟨rfl, bel⟩
set_option maxHeartbeats 4000000 in
theorem ttext_any (st : Option (List UInt8)) (w : World) (hb : ∀ b, st = some b → b.length ≤ 10000000000000) :
    Calls Try.prog 52 #[rowV st] w fun e w' => e = .returned (.tuple #[strV (txS st).1, rowV (txS st).2]) ∧ Below w.heap.size w w' := by
  have HN := Lib.hid (fun W => tnum_any st W hb)
  have HM := Lib.hid (rem_le (st' := (tnS st).2) hb tnS_rem.1)
  have HT := Lib.hid (show txS st = tk (tnS st).1 (tnS st).2 from rfl)
  have HU := Lib.hid (tnS_u64 st)
  clear hb
  have M := Lib.hid (TM.new w st)
  obtain ⟨c0, c1, _⟩ := M.out.cells
  generalize txS st = T at HT ⊢
  generalize tnS st = N at HT HN HU HM
  obtain ⟨n, s1⟩ := N
  have HN : Hid (∀ W, Calls Try.prog 59 #[rowV st] W fun e w' => e = .returned (.tuple #[.int .u64 (n : Int), rowV s1]) ∧ Below W.heap.size W w') := HN
  have HU : Hid (n < 18446744073709551616) := HU
  have HM : Hid (∀ b, s1 = some b → b.length ≤ 10000000000000) := HM
  have HT : Hid (T = tk n s1) := HT
  have HLB := Lib.hid (show (((s1.getD []).length : Nat) : Int) ≤ 10000000000000 by
    cases s1 with
    | none => decide
    | some b => have := HM.out b rfl; simp only [Option.getD_some]; omega)
  obtain ⟨L, hL⟩ : ∃ L, (⟨(s1.getD []).toArray⟩ : ByteArray).size = L := ⟨_, rfl⟩
  have HLL := Lib.hid (show L = (s1.getD []).length by rw [← hL]; rfl)
  have hl : ((L : Nat) : Int) ≤ 10000000000000 := by rw [HLL.out]; exact HLB.out
  have hw : IntKind.u64.wrap (L : Int) = (L : Int) := by rw [IntKind.wrap_u64]; omega
  by_cases hn : n ≤ L
  · have HE := Lib.hid (show tk n s1 = ((s1.getD []).take n, if s1.isSome = true then some ((s1.getD []).drop n) else none) by
      cases s1 with
      | none =>
        have hz : n = 0 := by have := HLL.out; simp at this; omega
        subst hz
        rfl
      | some b =>
        have := HLL.out
        simp only [Option.getD_some] at this
        simp only [tk, Option.getD_some]
        rw [if_pos (by omega)]
        rfl)
    have q1 : decide (L < n) = false := by simp; omega
    have nL : (n : Int) ≤ (L : Int) := by omega
    have n0 : (0 : Int) ≤ (n : Int) := by omega
    have S1 := str_take (s1.getD []) n
    have S2 : (⟨(s1.getD []).toArray⟩ : ByteArray).extract n L = ⟨((s1.getD []).drop n).toArray⟩ := by rw [HLL.out]; exact str_drop _ _
    have HRV := Lib.hid (show rowV (tk n s1).2 = .agg #[strV ((s1.getD []).drop n), .bool s1.isSome] by rw [HE.out]; cases s1 <;> simp [rowV])
    have HTV := Lib.hid (show (tk n s1).1 = (s1.getD []).take n by rw [HE.out])
    have HT' := HT.out
    subst HT'
    clear HE
    go_enter Try.func52, Try.ntmps52
    go_wp2_with (go_at_call 59; (with_reducible refine (HN.out _).mono ?_); rintro e w1 ⟨rfl, hb1⟩)
    have T2 : TN w st s1 w1.heap.size (w1.alloc (.cells #[strV (s1.getD []), .bool s1.isSome] 53)) := M.out.take hb1
    have hgt := T2.lt
    generalize (w1.alloc (.cells #[strV (s1.getD []), .bool s1.isSome] 53)) = V at T2 ⊢
    generalize w1.heap.size = R at T2 hgt ⊢
    obtain ⟨d0, d1, d2, d3, d4, d5, d6, d7⟩ := T2.cells
    go_wp2
    go_region
    all_goals
      go_wp2
      obtain ⟨s0, s1', bel⟩ := T2.m.put (strV ((s1.getD []).drop n)) (.bool s1.isSome)
      refine bodyPost_ret (v := .tuple #[strV ((s1.getD []).take n), .agg #[strV ((s1.getD []).drop n), .bool s1.isSome]]) (by simp [results, Try.results52, go_sem, s0, s1']) rfl ⟨by rw [HRV.out, HTV.out], bel.drew⟩
  · have HE := Lib.hid (show tk n s1 = ([], none) by
      cases s1 with
      | none => rfl
      | some b =>
        have := HLL.out
        simp only [Option.getD_some] at this
        simp only [tk]
        rw [if_neg (by omega)])
    have HT' : T = ([], none) := HT.out.trans HE.out
    subst HT'
    have q1 : decide (L < n) = true := by simp; omega
    go_enter Try.func52, Try.ntmps52
    go_wp2_with (first
      | (go_at_call 59; (with_reducible refine (HN.out _).mono ?_); rintro e w1 ⟨rfl, hb1⟩; have T2 : Hid (TN w st s1 w1.heap.size (w1.alloc (.cells #[strV (s1.getD []), .bool s1.isSome] 53))) := Lib.hid (M.out.take hb1); obtain ⟨d0, d1, d2, d3, d4, d5, d6, d7⟩ := T2.out.cells)
      | (go_at_call 65; refine (bad_any _).mono ?_; rintro e w2 ⟨rfl, hb2⟩; have T3 := Lib.hid (T2.out.keep hb2); obtain ⟨d0, d1, d2, d3, d4, d5, d6, d7⟩ := T3.out.cells))
    obtain ⟨s0, s1', bel⟩ := T3.out.m.put (strV []) (.bool false)
    exact bodyPost_ret (v := .tuple #[strV [], rowV none]) (by simp [results, Try.results52, go_sem, s0, s1']) rfl ⟨rfl, bel⟩
end Go.Proofs.Ytijkfllolcgfhaa.Pack

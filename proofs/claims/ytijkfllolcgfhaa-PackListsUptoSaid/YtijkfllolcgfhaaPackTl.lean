/- Chapter 3: the reference takes lists, walked. No condition but bounds. -/
import Derived.Test.YtijkfllolcgfhaaPackTm
namespace Go.Proofs.Ytijkfllolcgfhaa.Pack
open Go.RowKit
set_option linter.unusedVariables false
set_option linter.unusedSimpArgs false

/-- What a taking of a list leaves behind. -/
def TPost {α : Type} (h : α → Value) (w : World) (T : List α × Option (List UInt8)) (e : Ending) (w' : World) : Prop :=
  ∃ A c, e = .returned (.tuple #[.slice A T.1.length c, rowV T.2]) ∧ Reads w' w'.heap.size 1 A T.1.length (T.1.map h) ∧ (∀ ad, A = some ad → w.heap.size ≤ ad.block) ∧ Below w.heap.size w w'
/-- A slice literal, its block's number given. -/
theorem reads_at (w : World) (t : TypeId) (cs : Array Value) (b n : Nat) (xs : List Value) (hb : w.heap.size = b) (h : cs.toList = xs) (hn : xs.length = n) :
    Reads (w.alloc (.cells cs t)) (w.alloc (.cells cs t)).heap.size 1 (some ⟨b, 0, none⟩) n xs := by
  subst hb
  exact reads_new w t cs n xs h hn
section
variable {w W W' : World} {st s1 s2 : Option (List UInt8)} {R : Nat}
theorem TN.set_ (h : TN w st s1 R W) (s2 : Option (List UInt8)) : TN w st s2 R ((W.setCell ⟨R, 0, none⟩ (strV (s2.getD []))).setCell ⟨R, 1, none⟩ (.bool s2.isSome)) := by
  have := h.lt
  refine ⟨⟨?_, ?_, bel_two h.m.bel (by omega) _ _⟩, blk_two h.r _ _, h.lt⟩
  · exact (h.m.a.far (p := ⟨R, 0, none⟩) (by simp; omega) _).far (p := ⟨R, 1, none⟩) (by simp; omega) _
  · exact (h.m.b.far (p := ⟨R, 0, none⟩) (by simp; omega) _).far (p := ⟨R, 1, none⟩) (by simp; omega) _
theorem TN.alloc (h : TN w st s1 R W) (o : Obj) : TN w st s1 R (W.alloc o) := h.keep (bel_alloc (Below.refl _ _) o)
theorem TN.grown {base e n : Nat} {v : Value} {xs : List Value} (h : TN w st s1 R W) (ho : W.ownsRow w.heap.size e 1 v n xs) (he : e ≠ 53) (hg : W.grownBy W' v.ownBlock) : TN w st s1 R W' :=
  ⟨⟨h.m.a.grown hg (fun e1 => own_blk_ne ho h.m.a he e1.symm), h.m.b.grown hg (fun e1 => own_blk_ne ho h.m.b he e1.symm), h.m.bel.grown hg h.m.bel.size (fun k hk => (ho.lt k hk).1)⟩, h.r.grown hg (fun e1 => own_blk_ne ho h.r he e1.symm), h.lt⟩
theorem own_two {base e n : Nat} {v : Value} {xs : List Value} (h : TN w st s1 R W) (ho : W.ownsRow base e 1 v n xs) (he : e ≠ 53) (x y : Value) : ((W.setCell ⟨R, 0, none⟩ x).setCell ⟨R, 1, none⟩ y).ownsRow base e 1 v n xs :=
  ownsRow_setCell_other (ownsRow_setCell_other ho (a := ⟨R, 0, none⟩) (own_blk_ne ho h.r he) x) (a := ⟨R, 1, none⟩) (own_blk_ne (ownsRow_setCell_other ho (a := ⟨R, 0, none⟩) (own_blk_ne ho h.r he) x) (h.r.set_ 0 x) he) y
theorem own_res {base e n : Nat} {A : Option Addr} {c : Nat} {xs : List Value} (h : TM w st W) (ho : W.ownsRow base e 1 (.slice A n c) n xs) (he : e ≠ 53) (x y : Value) : (((W.setCell ⟨w.heap.size + 1, 0, none⟩ x).setCell ⟨w.heap.size + 1, 1, none⟩ y).drew).ownsRow base e 1 (.slice A n c) n xs :=
  ownsRow_setCell_other (ownsRow_setCell_other ho (a := ⟨w.heap.size + 1, 0, none⟩) (own_blk_ne ho h.b he) x) (a := ⟨w.heap.size + 1, 1, none⟩) (own_blk_ne (ownsRow_setCell_other ho (a := ⟨w.heap.size + 1, 0, none⟩) (own_blk_ne ho h.b he) x) (h.b.set_ 0 x) he) y
end
set_option maxHeartbeats 4000000 in
theorem tnums_any (st : Option (List UInt8)) (w : World) (hb : ∀ b, st = some b → b.length ≤ 1000000000000) :
    Calls Try.prog 53 #[rowV st] w (TPost (Value.int .u64) w (listS tnI st)) := by
  have HN := Lib.hid (fun W => tnum_any st W (fun b e => by have := hb b e; omega))
  have HM := Lib.hid (rem_le (st' := (tnS st).2) hb tnS_rem.1)
  have HU := Lib.hid (tnS_u64 st)
  clear hb
  have M := Lib.hid (TM.new w st)
  obtain ⟨c0, c1, _⟩ := M.out.cells
  generalize hq : tnS st = N at HN HU HM
  have HT := Lib.hid hq
  clear hq
  obtain ⟨n0, s1⟩ := N
  have HN : Hid (∀ W, Calls Try.prog 59 #[rowV st] W fun e w' => e = .returned (.tuple #[.int .u64 (n0 : Int), rowV s1]) ∧ Below W.heap.size W w') := HN
  have HU : Hid (((n0 : Nat) : Int) < 18446744073709551616) := Lib.hid (by have := HU.out; unfold U64 at this; simp only at this; omega)
  have HM : Hid (∀ b, s1 = some b → b.length ≤ 1000000000000) := HM
  have HMM := Lib.hid (show rem s1 ≤ 1000000000001 by
    cases s1 with
    | none => exact Nat.zero_le _
    | some b => have := HM.out b rfl; simp only [rem]; omega)
  obtain ⟨i0, hi, hz0, hz1, hz2⟩ := info_parts info_u64
  have HI := Lib.hid hi
  have HZ0 := Lib.hid hz0
  have HZ1 := Lib.hid hz1
  have HZ2 := Lib.hid hz2
  clear hi hz0 hz1 hz2
  go_enter Try.func53, Try.ntmps53
  go_wp2_with (go_at_call 59; (with_reducible refine (HN.out _).mono ?_); rintro e w1 ⟨rfl, hb1⟩)
  have T2 : Hid (TN w st s1 w1.heap.size (w1.alloc (.cells #[strV (s1.getD []), .bool s1.isSome] 53))) := Lib.hid (M.out.take hb1)
  generalize (w1.alloc (.cells #[strV (s1.getD []), .bool s1.isSome] 53)) = V at T2 ⊢
  generalize w1.heap.size = R at T2 ⊢
  go_loopw [6, 7] (fun out i wr => ∃ (j : Nat) (xs : List Int) (sj : Option (List UInt8)) (A : Option Addr) (c : Nat), i = .int .u64 (j : Int) ∧ j ≤ n0 ∧ out = .slice A xs.length c ∧ Hid (wr.ownsRow w.heap.size 22 1 (.slice A xs.length c) xs.length (xs.map (Value.int .u64))) ∧ Hid (TN w st sj R wr) ∧ Hid (Mid tnI (n0, s1) (n0 - j) xs sj)) (fun _ i _ => n0 - (intOf i).toNat)
  case atStart => exact ⟨0, [], s1, none, 0, rfl, Nat.zero_le _, rfl, Lib.hid (own_nil _ _ _ _), T2, Lib.hid Mid.start⟩
  case round =>
    obtain ⟨j, xs, sj, A, c, rfl, hj, rfl, HO, HS, HD⟩ := hrel
    obtain ⟨d0, d1, d2, d3, d4, d5, d6, d7⟩ := HS.out.cells
    by_cases hlt : j < n0 ∧ sj ≠ none
    · obtain ⟨hlt, hne⟩ := hlt
      obtain ⟨b, rfl⟩ : ∃ b, sj = some b := by
        cases sj with
        | none => exact absurd rfl hne
        | some b => exact ⟨b, rfl⟩
      clear hne
      have d1 : wr.cell? ⟨R, 1, none⟩ = some (.bool true) := d1
      have q0 : decide (j < n0) = true := by simp; omega
      obtain ⟨x, s', hx⟩ : ∃ x s', tnI (some b) = (x, s') := ⟨_, _, rfl⟩
      have HD' := Lib.hid (Mid.step (m := n0 - (j + 1)) (by have := HD.out; rwa [show n0 - j = n0 - (j + 1) + 1 by omega] at this) (tnI_rem (by simp)) hx)
      have HBB := Lib.hid (show xs.length + b.length ≤ 1000000000000 by have := HD.out.2; have := HMM.out; simp only [rem] at *; omega)
      have HC := Lib.hid (fun W => tnum_any (some b) W (fun b' e => by cases e; have := HBB.out; omega))
      have HC : Hid (∀ W, Calls Try.prog 59 #[rowV (some b)] W fun e w' => e = .returned (.tuple #[Value.int .u64 (tnI (some b)).1, rowV (tnI (some b)).2]) ∧ Below W.heap.size W w') := HC
      rw [hx] at HC
      have HC : Hid (∀ W, Calls Try.prog 59 #[.agg #[strV b, .bool true]] W fun e w' => e = .returned (.tuple #[Value.int .u64 x, rowV s']) ∧ Below W.heap.size W w') := HC
      have e1 : IntKind.u64.wrap ((j : Int) + 1) = (j : Int) + 1 := by rw [IntKind.wrap_u64]; have := HU.out; omega
      clear hx
      go_wp2_with (first
        | (go_at_call 59; (with_reducible refine (HC.out _).mono ?_); rintro e w2 ⟨rfl, hb2⟩; have O2 := Lib.hid ((own_below HO.out hb2).alloc (.cells #[strV (s'.getD []), .bool s'.isSome] 53)); have S2 := Lib.hid ((HS.out.keep hb2).alloc (.cells #[strV (s'.getD []), .bool s'.isSome] 53)); have z0 : (w2.alloc (.cells #[strV (s'.getD []), .bool s'.isSome] 53)).cell? ⟨w2.heap.size, 0, none⟩ = some (strV (s'.getD [])) := (Blk.new _ _ _).cell 0; have z1 : (w2.alloc (.cells #[strV (s'.getD []), .bool s'.isSome] 53)).cell? ⟨w2.heap.size, 1, none⟩ = some (.bool s'.isSome) := (Blk.new _ _ _).cell 1; clear hb2; obtain ⟨x0, x1, x2, x3, _⟩ := S2.out.cells)
        | (at_builtin; refine wpList_append_any _ rfl (.tmp 30) (.tmp 32) 36 rfl w.heap.size 22 i0 (.int .u64 0) 1 8 Try.underlying36 HI.out HZ0.out HZ1.out HZ2.out rfl (by decide) _ _ _ rfl ((own_two S2.out O2.out (by decide) (strV (s'.getD [])) (.bool s'.isSome)).alloc _) _ _ 1 1 [Value.int .u64 x] rfl (reads_at _ _ _ _ 1 _ (by simp) rfl rfl) (by simp [Value.oneCell']) (by have := HBB.out; unfold maxLen; omega) (by have := HBB.out; omega) (by have := (S2.out.set_ s').m.bel.size; simp at this ⊢; omega) ?_; intro v1 w3 hown3 hg3 hb3; obtain ⟨A1, c1, rfl⟩ := own_shape hown3; have O3 := Lib.hid hown3; have R3 := Lib.hid (((S2.out.set_ s').alloc (.cells #[Value.int .u64 x] 22)).grown (base := 0) ((own_two S2.out O2.out (by decide) (strV (s'.getD [])) (.bool s'.isSome)).alloc _) (by decide) hg3); clear hown3 hg3 hb3))
      have EL := Lib.hid (show (xs ++ [x]).length = xs.length + 1 by simp)
      have EM := Lib.hid (show (xs ++ [x]).map (Value.int .u64) = xs.map (Value.int .u64) ++ [Value.int .u64 x] by simp)
      go_roundw
      case rel => exact ⟨j + 1, xs ++ [x], s', A1, c1, by go_num, by omega, by rw [EL.out], by rw [EL.out, EM.out]; exact O3, R3, HD'⟩
      case measure => simp [intOf]; omega
    · cases sj with
      | none =>
        have d1 : wr.cell? ⟨R, 1, none⟩ = some (.bool false) := d1
        have HE := Lib.hid (Mid.done_none HD.out HT.out)
        clear hlt
        by_cases hlt : j < n0
        · have q0 : decide (j < n0) = true := by simp; omega
          go_wp2_with (go_at_call 65; refine (bad_any _).mono ?_; rintro e w2 ⟨rfl, hb2⟩; have T3 := Lib.hid (HS.out.keep hb2); obtain ⟨e0, e1, e2, e3, e4, e5, e6, e7⟩ := T3.out.cells)
          obtain ⟨s0, s1', bel⟩ := T3.out.m.put (strV []) (.bool false)
          refine bodyPost_ret (v := .tuple #[.slice none 0 0, rowV none]) (by simp [results, Try.results53, go_sem, s0, s1']) rfl ?_
          rw [HE.out]
          exact ⟨none, 0, rfl, Reads.none_, (fun _ e => by cases e), bel⟩
        · have q0 : decide (j < n0) = false := by simp; omega
          go_wp2_with (go_at_call 65; refine (bad_any _).mono ?_; rintro e w2 ⟨rfl, hb2⟩; have T3 := Lib.hid (HS.out.keep hb2); obtain ⟨e0, e1, e2, e3, e4, e5, e6, e7⟩ := T3.out.cells)
          obtain ⟨s0, s1', bel⟩ := T3.out.m.put (strV []) (.bool false)
          refine bodyPost_ret (v := .tuple #[.slice none 0 0, rowV none]) (by simp [results, Try.results53, go_sem, s0, s1']) rfl ?_
          rw [HE.out]
          exact ⟨none, 0, rfl, Reads.none_, (fun _ e => by cases e), bel⟩
      | some b =>
        have d1 : wr.cell? ⟨R, 1, none⟩ = some (.bool true) := d1
        have d0 : wr.cell? ⟨R, 0, none⟩ = some (strV b) := d0
        obtain rfl : j = n0 := by
          rcases Nat.lt_or_ge j n0 with h | h
          · exact absurd ⟨h, by simp⟩ hlt
          · omega
        have HE := Lib.hid (Mid.done_some (by have := HD.out; rwa [Nat.sub_self] at this) HT.out)
        have q0 : decide (j < j) = false := by simp
        clear hlt
        go_wp2
        go_region
        all_goals
          go_wp2
          obtain ⟨s0, s1', bel⟩ := HS.out.m.put (strV b) (.bool true)
          refine bodyPost_ret (v := .tuple #[.slice A xs.length c, rowV (some b)]) (by simp [results, Try.results53, go_sem, s0, s1']) rfl ?_
          rw [HE.out]
          exact ⟨A, c, rfl, own_reads (own_res HS.out.m HO.out (by decide) _ _), own_fresh HO.out, bel.drew⟩
set_option maxHeartbeats 4000000 in
theorem tints_any (st : Option (List UInt8)) (w : World) (hb : ∀ b, st = some b → b.length ≤ 1000000000000) :
    Calls Try.prog 55 #[rowV st] w (TPost (Value.int .i64) w (listS tiS st)) := by
  have HN := Lib.hid (fun W => tnum_any st W (fun b e => by have := hb b e; omega))
  have HM := Lib.hid (rem_le (st' := (tnS st).2) hb tnS_rem.1)
  have HU := Lib.hid (tnS_u64 st)
  clear hb
  have M := Lib.hid (TM.new w st)
  obtain ⟨c0, c1, _⟩ := M.out.cells
  generalize hq : tnS st = N at HN HU HM
  have HT := Lib.hid hq
  clear hq
  obtain ⟨n0, s1⟩ := N
  have HN : Hid (∀ W, Calls Try.prog 59 #[rowV st] W fun e w' => e = .returned (.tuple #[.int .u64 (n0 : Int), rowV s1]) ∧ Below W.heap.size W w') := HN
  have HU : Hid (((n0 : Nat) : Int) < 18446744073709551616) := Lib.hid (by have := HU.out; unfold U64 at this; simp only at this; omega)
  have HM : Hid (∀ b, s1 = some b → b.length ≤ 1000000000000) := HM
  have HMM := Lib.hid (show rem s1 ≤ 1000000000001 by
    cases s1 with
    | none => exact Nat.zero_le _
    | some b => have := HM.out b rfl; simp only [rem]; omega)
  obtain ⟨i0, hi, hz0, hz1, hz2⟩ := info_parts info_i64
  have HI := Lib.hid hi
  have HZ0 := Lib.hid hz0
  have HZ1 := Lib.hid hz1
  have HZ2 := Lib.hid hz2
  clear hi hz0 hz1 hz2
  go_enter Try.func55, Try.ntmps55
  go_wp2_with (go_at_call 59; (with_reducible refine (HN.out _).mono ?_); rintro e w1 ⟨rfl, hb1⟩)
  have T2 : Hid (TN w st s1 w1.heap.size (w1.alloc (.cells #[strV (s1.getD []), .bool s1.isSome] 53))) := Lib.hid (M.out.take hb1)
  generalize (w1.alloc (.cells #[strV (s1.getD []), .bool s1.isSome] 53)) = V at T2 ⊢
  generalize w1.heap.size = R at T2 ⊢
  go_loopw [6, 7] (fun out i wr => ∃ (j : Nat) (xs : List Int) (sj : Option (List UInt8)) (A : Option Addr) (c : Nat), i = .int .u64 (j : Int) ∧ j ≤ n0 ∧ out = .slice A xs.length c ∧ Hid (wr.ownsRow w.heap.size 2 1 (.slice A xs.length c) xs.length (xs.map (Value.int .i64))) ∧ Hid (TN w st sj R wr) ∧ Hid (Mid tiS (n0, s1) (n0 - j) xs sj)) (fun _ i _ => n0 - (intOf i).toNat)
  case atStart => exact ⟨0, [], s1, none, 0, rfl, Nat.zero_le _, rfl, Lib.hid (own_nil _ _ _ _), T2, Lib.hid Mid.start⟩
  case round =>
    obtain ⟨j, xs, sj, A, c, rfl, hj, rfl, HO, HS, HD⟩ := hrel
    obtain ⟨d0, d1, d2, d3, d4, d5, d6, d7⟩ := HS.out.cells
    by_cases hlt : j < n0 ∧ sj ≠ none
    · obtain ⟨hlt, hne⟩ := hlt
      obtain ⟨b, rfl⟩ : ∃ b, sj = some b := by
        cases sj with
        | none => exact absurd rfl hne
        | some b => exact ⟨b, rfl⟩
      clear hne
      have d1 : wr.cell? ⟨R, 1, none⟩ = some (.bool true) := d1
      have q0 : decide (j < n0) = true := by simp; omega
      obtain ⟨x, s', hx⟩ : ∃ x s', tiS (some b) = (x, s') := ⟨_, _, rfl⟩
      have HD' := Lib.hid (Mid.step (m := n0 - (j + 1)) (by have := HD.out; rwa [show n0 - j = n0 - (j + 1) + 1 by omega] at this) (tiS_rem (by simp)) hx)
      have HBB := Lib.hid (show xs.length + b.length ≤ 1000000000000 by have := HD.out.2; have := HMM.out; simp only [rem] at *; omega)
      have HC := Lib.hid (fun W => tint_any (some b) W (fun b' e => by cases e; have := HBB.out; omega))
      have HC : Hid (∀ W, Calls Try.prog 50 #[rowV (some b)] W fun e w' => e = .returned (.tuple #[Value.int .i64 (tiS (some b)).1, rowV (tiS (some b)).2]) ∧ Below W.heap.size W w') := HC
      rw [hx] at HC
      have HC : Hid (∀ W, Calls Try.prog 50 #[.agg #[strV b, .bool true]] W fun e w' => e = .returned (.tuple #[Value.int .i64 x, rowV s']) ∧ Below W.heap.size W w') := HC
      have e1 : IntKind.u64.wrap ((j : Int) + 1) = (j : Int) + 1 := by rw [IntKind.wrap_u64]; have := HU.out; omega
      clear hx
      go_wp2_with (first
        | (go_at_call 50; (with_reducible refine (HC.out _).mono ?_); rintro e w2 ⟨rfl, hb2⟩; have O2 := Lib.hid ((own_below HO.out hb2).alloc (.cells #[strV (s'.getD []), .bool s'.isSome] 53)); have S2 := Lib.hid ((HS.out.keep hb2).alloc (.cells #[strV (s'.getD []), .bool s'.isSome] 53)); have z0 : (w2.alloc (.cells #[strV (s'.getD []), .bool s'.isSome] 53)).cell? ⟨w2.heap.size, 0, none⟩ = some (strV (s'.getD [])) := (Blk.new _ _ _).cell 0; have z1 : (w2.alloc (.cells #[strV (s'.getD []), .bool s'.isSome] 53)).cell? ⟨w2.heap.size, 1, none⟩ = some (.bool s'.isSome) := (Blk.new _ _ _).cell 1; clear hb2; obtain ⟨x0, x1, x2, x3, _⟩ := S2.out.cells)
        | (at_builtin; refine wpList_append_any _ rfl (.tmp 30) (.tmp 32) 37 rfl w.heap.size 2 i0 (.int .i64 0) 1 8 Try.underlying37 HI.out HZ0.out HZ1.out HZ2.out rfl (by decide) _ _ _ rfl ((own_two S2.out O2.out (by decide) (strV (s'.getD [])) (.bool s'.isSome)).alloc _) _ _ 1 1 [Value.int .i64 x] rfl (reads_at _ _ _ _ 1 _ (by simp) rfl rfl) (by simp [Value.oneCell']) (by have := HBB.out; unfold maxLen; omega) (by have := HBB.out; omega) (by have := (S2.out.set_ s').m.bel.size; simp at this ⊢; omega) ?_; intro v1 w3 hown3 hg3 hb3; obtain ⟨A1, c1, rfl⟩ := own_shape hown3; have O3 := Lib.hid hown3; have R3 := Lib.hid (((S2.out.set_ s').alloc (.cells #[Value.int .i64 x] 2)).grown (base := 0) ((own_two S2.out O2.out (by decide) (strV (s'.getD [])) (.bool s'.isSome)).alloc _) (by decide) hg3); clear hown3 hg3 hb3))
      have EL := Lib.hid (show (xs ++ [x]).length = xs.length + 1 by simp)
      have EM := Lib.hid (show (xs ++ [x]).map (Value.int .i64) = xs.map (Value.int .i64) ++ [Value.int .i64 x] by simp)
      go_roundw
      case rel => exact ⟨j + 1, xs ++ [x], s', A1, c1, by go_num, by omega, by rw [EL.out], by rw [EL.out, EM.out]; exact O3, R3, HD'⟩
      case measure => simp [intOf]; omega
    · cases sj with
      | none =>
        have d1 : wr.cell? ⟨R, 1, none⟩ = some (.bool false) := d1
        have HE := Lib.hid (Mid.done_none HD.out HT.out)
        clear hlt
        by_cases hlt : j < n0
        · have q0 : decide (j < n0) = true := by simp; omega
          go_wp2_with (go_at_call 65; refine (bad_any _).mono ?_; rintro e w2 ⟨rfl, hb2⟩; have T3 := Lib.hid (HS.out.keep hb2); obtain ⟨e0, e1, e2, e3, e4, e5, e6, e7⟩ := T3.out.cells)
          obtain ⟨s0, s1', bel⟩ := T3.out.m.put (strV []) (.bool false)
          refine bodyPost_ret (v := .tuple #[.slice none 0 0, rowV none]) (by simp [results, Try.results55, go_sem, s0, s1']) rfl ?_
          rw [HE.out]
          exact ⟨none, 0, rfl, Reads.none_, (fun _ e => by cases e), bel⟩
        · have q0 : decide (j < n0) = false := by simp; omega
          go_wp2_with (go_at_call 65; refine (bad_any _).mono ?_; rintro e w2 ⟨rfl, hb2⟩; have T3 := Lib.hid (HS.out.keep hb2); obtain ⟨e0, e1, e2, e3, e4, e5, e6, e7⟩ := T3.out.cells)
          obtain ⟨s0, s1', bel⟩ := T3.out.m.put (strV []) (.bool false)
          refine bodyPost_ret (v := .tuple #[.slice none 0 0, rowV none]) (by simp [results, Try.results55, go_sem, s0, s1']) rfl ?_
          rw [HE.out]
          exact ⟨none, 0, rfl, Reads.none_, (fun _ e => by cases e), bel⟩
      | some b =>
        have d1 : wr.cell? ⟨R, 1, none⟩ = some (.bool true) := d1
        have d0 : wr.cell? ⟨R, 0, none⟩ = some (strV b) := d0
        obtain rfl : j = n0 := by
          rcases Nat.lt_or_ge j n0 with h | h
          · exact absurd ⟨h, by simp⟩ hlt
          · omega
        have HE := Lib.hid (Mid.done_some (by have := HD.out; rwa [Nat.sub_self] at this) HT.out)
        have q0 : decide (j < j) = false := by simp
        clear hlt
        go_wp2
        go_region
        all_goals
          go_wp2
          obtain ⟨s0, s1', bel⟩ := HS.out.m.put (strV b) (.bool true)
          refine bodyPost_ret (v := .tuple #[.slice A xs.length c, rowV (some b)]) (by simp [results, Try.results55, go_sem, s0, s1']) rfl ?_
          rw [HE.out]
          exact ⟨A, c, rfl, own_reads (own_res HS.out.m HO.out (by decide) _ _), own_fresh HO.out, bel.drew⟩
set_option maxHeartbeats 4000000 in
theorem ttexts_any (st : Option (List UInt8)) (w : World) (hb : ∀ b, st = some b → b.length ≤ 1000000000000) :
    Calls Try.prog 57 #[rowV st] w (TPost (Value.string) w (listS tbS st)) := by
  have HN := Lib.hid (fun W => tnum_any st W (fun b e => by have := hb b e; omega))
  have HM := Lib.hid (rem_le (st' := (tnS st).2) hb tnS_rem.1)
  have HU := Lib.hid (tnS_u64 st)
  clear hb
  have M := Lib.hid (TM.new w st)
  obtain ⟨c0, c1, _⟩ := M.out.cells
  generalize hq : tnS st = N at HN HU HM
  have HT := Lib.hid hq
  clear hq
  obtain ⟨n0, s1⟩ := N
  have HN : Hid (∀ W, Calls Try.prog 59 #[rowV st] W fun e w' => e = .returned (.tuple #[.int .u64 (n0 : Int), rowV s1]) ∧ Below W.heap.size W w') := HN
  have HU : Hid (((n0 : Nat) : Int) < 18446744073709551616) := Lib.hid (by have := HU.out; unfold U64 at this; simp only at this; omega)
  have HM : Hid (∀ b, s1 = some b → b.length ≤ 1000000000000) := HM
  have HMM := Lib.hid (show rem s1 ≤ 1000000000001 by
    cases s1 with
    | none => exact Nat.zero_le _
    | some b => have := HM.out b rfl; simp only [rem]; omega)
  obtain ⟨i0, hi, hz0, hz1, hz2⟩ := info_parts info_string
  have HI := Lib.hid hi
  have HZ0 := Lib.hid hz0
  have HZ1 := Lib.hid hz1
  have HZ2 := Lib.hid hz2
  clear hi hz0 hz1 hz2
  go_enter Try.func57, Try.ntmps57
  go_wp2_with (go_at_call 59; (with_reducible refine (HN.out _).mono ?_); rintro e w1 ⟨rfl, hb1⟩)
  have T2 : Hid (TN w st s1 w1.heap.size (w1.alloc (.cells #[strV (s1.getD []), .bool s1.isSome] 53))) := Lib.hid (M.out.take hb1)
  generalize (w1.alloc (.cells #[strV (s1.getD []), .bool s1.isSome] 53)) = V at T2 ⊢
  generalize w1.heap.size = R at T2 ⊢
  go_loopw [6, 7] (fun out i wr => ∃ (j : Nat) (xs : List ByteArray) (sj : Option (List UInt8)) (A : Option Addr) (c : Nat), i = .int .u64 (j : Int) ∧ j ≤ n0 ∧ out = .slice A xs.length c ∧ Hid (wr.ownsRow w.heap.size 9 1 (.slice A xs.length c) xs.length (xs.map (Value.string))) ∧ Hid (TN w st sj R wr) ∧ Hid (Mid tbS (n0, s1) (n0 - j) xs sj)) (fun _ i _ => n0 - (intOf i).toNat)
  case atStart => exact ⟨0, [], s1, none, 0, rfl, Nat.zero_le _, rfl, Lib.hid (own_nil _ _ _ _), T2, Lib.hid Mid.start⟩
  case round =>
    obtain ⟨j, xs, sj, A, c, rfl, hj, rfl, HO, HS, HD⟩ := hrel
    obtain ⟨d0, d1, d2, d3, d4, d5, d6, d7⟩ := HS.out.cells
    by_cases hlt : j < n0 ∧ sj ≠ none
    · obtain ⟨hlt, hne⟩ := hlt
      obtain ⟨b, rfl⟩ : ∃ b, sj = some b := by
        cases sj with
        | none => exact absurd rfl hne
        | some b => exact ⟨b, rfl⟩
      clear hne
      have d1 : wr.cell? ⟨R, 1, none⟩ = some (.bool true) := d1
      have q0 : decide (j < n0) = true := by simp; omega
      obtain ⟨x, s', hx⟩ : ∃ x s', tbS (some b) = (x, s') := ⟨_, _, rfl⟩
      have HD' := Lib.hid (Mid.step (m := n0 - (j + 1)) (by have := HD.out; rwa [show n0 - j = n0 - (j + 1) + 1 by omega] at this) (tbS_rem (by simp)) hx)
      have HBB := Lib.hid (show xs.length + b.length ≤ 1000000000000 by have := HD.out.2; have := HMM.out; simp only [rem] at *; omega)
      have HC := Lib.hid (fun W => ttext_any (some b) W (fun b' e => by cases e; have := HBB.out; omega))
      have HC : Hid (∀ W, Calls Try.prog 52 #[rowV (some b)] W fun e w' => e = .returned (.tuple #[Value.string (tbS (some b)).1, rowV (tbS (some b)).2]) ∧ Below W.heap.size W w') := HC
      rw [hx] at HC
      have HC : Hid (∀ W, Calls Try.prog 52 #[.agg #[strV b, .bool true]] W fun e w' => e = .returned (.tuple #[Value.string x, rowV s']) ∧ Below W.heap.size W w') := HC
      have e1 : IntKind.u64.wrap ((j : Int) + 1) = (j : Int) + 1 := by rw [IntKind.wrap_u64]; have := HU.out; omega
      clear hx
      go_wp2_with (first
        | (go_at_call 52; (with_reducible refine (HC.out _).mono ?_); rintro e w2 ⟨rfl, hb2⟩; have O2 := Lib.hid ((own_below HO.out hb2).alloc (.cells #[strV (s'.getD []), .bool s'.isSome] 53)); have S2 := Lib.hid ((HS.out.keep hb2).alloc (.cells #[strV (s'.getD []), .bool s'.isSome] 53)); have z0 : (w2.alloc (.cells #[strV (s'.getD []), .bool s'.isSome] 53)).cell? ⟨w2.heap.size, 0, none⟩ = some (strV (s'.getD [])) := (Blk.new _ _ _).cell 0; have z1 : (w2.alloc (.cells #[strV (s'.getD []), .bool s'.isSome] 53)).cell? ⟨w2.heap.size, 1, none⟩ = some (.bool s'.isSome) := (Blk.new _ _ _).cell 1; clear hb2; obtain ⟨x0, x1, x2, x3, _⟩ := S2.out.cells)
        | (at_builtin; refine wpList_append_any _ rfl (.tmp 30) (.tmp 32) 38 rfl w.heap.size 9 i0 (.string ByteArray.empty) 1 16 Try.underlying38 HI.out HZ0.out HZ1.out HZ2.out rfl (by decide) _ _ _ rfl ((own_two S2.out O2.out (by decide) (strV (s'.getD [])) (.bool s'.isSome)).alloc _) _ _ 1 1 [Value.string x] rfl (reads_at _ _ _ _ 1 _ (by simp) rfl rfl) (by simp [Value.oneCell']) (by have := HBB.out; unfold maxLen; omega) (by have := HBB.out; omega) (by have := (S2.out.set_ s').m.bel.size; simp at this ⊢; omega) ?_; intro v1 w3 hown3 hg3 hb3; obtain ⟨A1, c1, rfl⟩ := own_shape hown3; have O3 := Lib.hid hown3; have R3 := Lib.hid (((S2.out.set_ s').alloc (.cells #[Value.string x] 9)).grown (base := 0) ((own_two S2.out O2.out (by decide) (strV (s'.getD [])) (.bool s'.isSome)).alloc _) (by decide) hg3); clear hown3 hg3 hb3))
      have EL := Lib.hid (show (xs ++ [x]).length = xs.length + 1 by simp)
      have EM := Lib.hid (show (xs ++ [x]).map (Value.string) = xs.map (Value.string) ++ [Value.string x] by simp)
      go_roundw
      case rel => exact ⟨j + 1, xs ++ [x], s', A1, c1, by go_num, by omega, by rw [EL.out], by rw [EL.out, EM.out]; exact O3, R3, HD'⟩
      case measure => simp [intOf]; omega
    · cases sj with
      | none =>
        have d1 : wr.cell? ⟨R, 1, none⟩ = some (.bool false) := d1
        have HE := Lib.hid (Mid.done_none HD.out HT.out)
        clear hlt
        by_cases hlt : j < n0
        · have q0 : decide (j < n0) = true := by simp; omega
          go_wp2_with (go_at_call 65; refine (bad_any _).mono ?_; rintro e w2 ⟨rfl, hb2⟩; have T3 := Lib.hid (HS.out.keep hb2); obtain ⟨e0, e1, e2, e3, e4, e5, e6, e7⟩ := T3.out.cells)
          obtain ⟨s0, s1', bel⟩ := T3.out.m.put (strV []) (.bool false)
          refine bodyPost_ret (v := .tuple #[.slice none 0 0, rowV none]) (by simp [results, Try.results57, go_sem, s0, s1']) rfl ?_
          rw [HE.out]
          exact ⟨none, 0, rfl, Reads.none_, (fun _ e => by cases e), bel⟩
        · have q0 : decide (j < n0) = false := by simp; omega
          go_wp2_with (go_at_call 65; refine (bad_any _).mono ?_; rintro e w2 ⟨rfl, hb2⟩; have T3 := Lib.hid (HS.out.keep hb2); obtain ⟨e0, e1, e2, e3, e4, e5, e6, e7⟩ := T3.out.cells)
          obtain ⟨s0, s1', bel⟩ := T3.out.m.put (strV []) (.bool false)
          refine bodyPost_ret (v := .tuple #[.slice none 0 0, rowV none]) (by simp [results, Try.results57, go_sem, s0, s1']) rfl ?_
          rw [HE.out]
          exact ⟨none, 0, rfl, Reads.none_, (fun _ e => by cases e), bel⟩
      | some b =>
        have d1 : wr.cell? ⟨R, 1, none⟩ = some (.bool true) := d1
        have d0 : wr.cell? ⟨R, 0, none⟩ = some (strV b) := d0
        obtain rfl : j = n0 := by
          rcases Nat.lt_or_ge j n0 with h | h
          · exact absurd ⟨h, by simp⟩ hlt
          · omega
        have HE := Lib.hid (Mid.done_some (by have := HD.out; rwa [Nat.sub_self] at this) HT.out)
        have q0 : decide (j < j) = false := by simp
        clear hlt
        go_wp2
        go_region
        all_goals
          go_wp2
          obtain ⟨s0, s1', bel⟩ := HS.out.m.put (strV b) (.bool true)
          refine bodyPost_ret (v := .tuple #[.slice A xs.length c, rowV (some b)]) (by simp [results, Try.results57, go_sem, s0, s1']) rfl ?_
          rw [HE.out]
          exact ⟨A, c, rfl, own_reads (own_res HS.out.m HO.out (by decide) _ _), own_fresh HO.out, bel.drew⟩
end Go.Proofs.Ytijkfllolcgfhaa.Pack

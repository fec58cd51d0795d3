/- Chapter 3: lists read, walked. No condition but bounds. -/
import Derived.Test.YtijkfllolcgfhaaPackRm
namespace Go.Proofs.Ytijkfllolcgfhaa.Pack
open Go.RowKit
set_option linter.unusedVariables false
set_option linter.unusedSimpArgs false

/-- What a call that reads a list leaves behind. -/
def LPost {α : Type} (h : α → Value) (w : World) (g : Nat) (p : Option Addr) (made : Bool) (T : List α × Option (List UInt8)) (e : Ending) (w' : World) : Prop :=
  ∃ A c, e = .returned (.slice A T.1.length c) ∧ Reads w' w'.heap.size 1 A T.1.length (T.1.map h) ∧ (∀ ad, A = some ad → w.heap.size ≤ ad.block) ∧ RdS w' g p made T.2 ∧ Far (RSet p) w w'
def tnI (st : Option (List UInt8)) : Int × Option (List UInt8) := ((((tnS st).1 : Nat) : Int), (tnS st).2)
def tbS (st : Option (List UInt8)) : ByteArray × Option (List UInt8) := (⟨(txS st).1.toArray⟩, (txS st).2)
theorem RdS.grown {w w' : World} {g : Nat} {p : Option Addr} {made : Bool} {st : Option (List UInt8)} {row : Option Nat} (h : RdS w g p made st) (hg : w.grownBy w' row) (hr : ∀ k, RSet p k → row ≠ some k) : RdS w' g p made st :=
  h.far (S := fun k => row = some k) ⟨hg.os, hg.tape, hg.output, hg.size, fun k hk hn => hg.block k hk (fun e => hn e.symm)⟩ (fun hp => by
    rcases h with ⟨rfl, _⟩ | ⟨rfl, _⟩
    · exact hr g rfl
    · exact absurd rfl hp)
theorem own_fresh {w : World} {base : Nat} {e : TypeId} {n c : Nat} {A : Option Addr} {xs : List Value} (h : w.ownsRow base e 1 (.slice A n c) n xs) : ∀ ad, A = some ad → base ≤ ad.block := by
  intro ad e
  subst e
  exact (h.lt ad.block rfl).1
theorem info_u64 : (Try.prog.info? 22).map (fun i => (i.zero, i.size, i.bytes)) = some (some (.int .u64 0), 1, 8) := by kernel_rfl
theorem info_i64 : (Try.prog.info? 2).map (fun i => (i.zero, i.size, i.bytes)) = some (some (.int .i64 0), 1, 8) := by kernel_rfl
theorem info_string : (Try.prog.info? 9).map (fun i => (i.zero, i.size, i.bytes)) = some (some (.string ByteArray.empty), 1, 16) := by kernel_rfl
section
variable {α : Type} {f : Option (List UInt8) → α × Option (List UInt8)} {N : Nat × Option (List UInt8)} {xs : List α} {m : Nat} {st : Option (List UInt8)}
/-- Where a reading of a list stands. -/
def Mid (f : Option (List UInt8) → α × Option (List UInt8)) (N : Nat × Option (List UInt8)) (m : Nat) (xs : List α) (st : Option (List UInt8)) : Prop :=
  manyS f N.1 N.2 = (xs ++ (manyS f m st).1, (manyS f m st).2) ∧ xs.length + rem st ≤ rem N.2
theorem Mid.start : Mid f N N.1 [] N.2 := ⟨rfl, by simp⟩
theorem Mid.step {b : List UInt8} {x : α} {st' : Option (List UInt8)} (h : Mid f N (m + 1) xs (some b)) (hr : rem (f (some b)).2 + 1 ≤ rem (some b)) (hx : f (some b) = (x, st')) : Mid f N m (xs ++ [x]) st' := by
  obtain ⟨h1, h2⟩ := h
  rw [hx] at hr
  refine ⟨?_, ?_⟩
  · rw [h1, manyS, hx]
    simp
  · simp only [List.length_append, List.length_cons, List.length_nil] at *
    omega
theorem listS_of (s0 : Option (List UInt8)) (hN : tnS s0 = N) {T : List α × Option (List UInt8)} (h : manyS f N.1 N.2 = T) : listS f s0 = if T.2.isSome = true then T else ([], none) := by
  unfold listS
  rw [hN, h]
theorem Mid.done_some {s0 : Option (List UInt8)} {b : List UInt8} (h : Mid f N 0 xs (some b)) (hN : tnS s0 = N) : listS f s0 = (xs, some b) := by
  rw [listS_of s0 hN h.1]
  simp [manyS]
theorem Mid.done_none {s0 : Option (List UInt8)} (h : Mid f N m xs none) (hN : tnS s0 = N) : listS f s0 = ([], none) := by
  rw [listS_of s0 hN h.1, manyS_none]
  rfl
end
theorem tnI_rem {st : Option (List UInt8)} (h : st ≠ none) : rem (tnI st).2 + 1 ≤ rem st := tnS_rem.2 h
theorem tbS_rem {st : Option (List UInt8)} (h : st ≠ none) : rem (tbS st).2 + 1 ≤ rem st := txS_rem h
set_option maxHeartbeats 4000000 in
theorem some_nums (g : Nat) (p : Option Addr) (made : Bool) (st : Option (List UInt8)) (w : World) (h : RdS w g p made st) (hb : ∀ b, st = some b → b.length ≤ 1000000000000) :
    Calls Try.prog 62 #[.pointer p, .func (.func 36) #[.pointer p] #[]] w (LPost (Value.int .u64) w g p made (listS tnI st)) := by
  have HR := Lib.hid h
  have HB := Lib.hid (show ∀ b, st = some b → b.length ≤ 10000000000000 from fun b e => by have := hb b e; omega)
  have HU := Lib.hid (tnS_u64 st)
  have HM := Lib.hid (rem_le (st' := (tnS st).2) hb tnS_rem.1)
  have HL := Lib.hid (show ∀ k, RSet p k → k < w.heap.size from fun k hk => h.lt hk)
  have HN := Lib.hid (rdnum_any g p made st w HR.out HB.out)
  clear hb h HB
  generalize hq : tnS st = N at HN HU HM
  have HT := Lib.hid hq
  clear hq
  obtain ⟨n0, st1⟩ := N
  have HM : Hid (∀ b, st1 = some b → b.length ≤ 1000000000000) := HM
  have HU : Hid (((n0 : Nat) : Int) < 18446744073709551616) := Lib.hid (by have := HU.out; unfold U64 at this; simp only at this; omega)
  have HN : Hid (Calls Try.prog 36 #[.pointer p] w (RPost w g p made (.int .u64 (n0 : Int)) st1)) := HN
  have HMM := Lib.hid (show rem st1 ≤ 1000000000001 by
    cases st1 with
    | none => exact Nat.zero_le _
    | some b => have := HM.out b rfl; simp only [rem]; omega)
  obtain ⟨i0, hi, hz0, hz1, hz2⟩ := info_parts info_u64
  have HI := Lib.hid hi
  have HZ0 := Lib.hid hz0
  have HZ1 := Lib.hid hz1
  have HZ2 := Lib.hid hz2
  clear hi hz0 hz1 hz2
  go_enter Try.func62, Try.ntmps62
  go_wp2_with (go_at_call 36; (with_reducible refine HN.out.mono ?_); rintro e w1 ⟨rfl, hr1, hf1⟩; have R1 := Lib.hid hr1; have F1 := Lib.hid hf1; clear hr1 hf1)
  go_loopw [5, 6] (fun out n wr => ∃ (m : Nat) (xs : List Int) (sj : Option (List UInt8)) (A : Option Addr) (c : Nat), n = .int .u64 (m : Int) ∧ Hid ((m : Int) < 18446744073709551616) ∧ out = .slice A xs.length c ∧ Hid (wr.ownsRow w.heap.size 22 1 (.slice A xs.length c) xs.length (xs.map (Value.int .u64))) ∧ Hid (RdS wr g p made sj) ∧ Hid (Far (RSet p) w wr) ∧ Hid (Mid tnI (n0, st1) m xs sj)) (fun _ n _ => (intOf n).toNat)
  case atStart => exact ⟨n0, [], st1, none, 0, rfl, HU, rfl, Lib.hid (own_nil _ _ _ _), R1, F1, Lib.hid Mid.start⟩
  case round =>
    obtain ⟨m, xs, sj, A, c, rfl, HMU, rfl, HO, HS, HF, HD⟩ := hrel
    rcases Nat.eq_zero_or_pos m with hm | hm
    · subst hm
      cases sj with
      | none =>
        have HE := Lib.hid (Mid.done_none HD.out HT.out)
        go_wp2_with (go_at_call 27; (with_reducible refine (fine_any g p made none _ HS.out).mono ?_); rintro e w' ⟨rfl, rfl⟩)
        go_ret
        rw [HE.out]
        exact ⟨none, 0, rfl, Reads.none_, (fun _ e => by cases e), HS.out, HF.out⟩
      | some b =>
        have HE := Lib.hid (Mid.done_some HD.out HT.out)
        go_wp2_with (go_at_call 27; (with_reducible refine (fine_any g p made (some b) _ HS.out).mono ?_); rintro e w' ⟨rfl, rfl⟩)
        go_ret
        rw [HE.out]
        exact ⟨A, c, rfl, own_reads HO.out, own_fresh HO.out, HS.out, HF.out⟩
    · have qm : decide ((0 : Int) < (m : Int)) = true := by simp; omega
      cases sj with
      | none =>
        have HE := Lib.hid (Mid.done_none HD.out HT.out)
        go_wp2_with (go_at_call 27; (with_reducible refine (fine_any g p made none _ HS.out).mono ?_); rintro e w' ⟨rfl, rfl⟩)
        go_ret
        rw [HE.out]
        exact ⟨none, 0, rfl, Reads.none_, (fun _ e => by cases e), HS.out, HF.out⟩
      | some b =>
        obtain ⟨m, rfl⟩ : ∃ k, m = k + 1 := ⟨m - 1, by omega⟩
        obtain ⟨x, s', hx⟩ : ∃ x s', tnI (some b) = (x, s') := ⟨_, _, rfl⟩
        have HD' := Lib.hid (Mid.step HD.out (tnI_rem (by simp)) hx)
        have HBB := Lib.hid (show xs.length + b.length ≤ 1000000000000 by have := HD.out.2; have := HMM.out; simp only [rem] at *; omega)
        have HC := Lib.hid (rdnum_any g p made (some b) wr HS.out (fun b' e => by cases e; have := HBB.out; omega))
        have HC : Hid (Calls Try.prog 36 #[.pointer p] wr (RPost wr g p made (Value.int .u64 (tnI (some b)).1) (tnI (some b)).2)) := HC
        rw [hx] at HC
        have HC : Hid (Calls Try.prog 36 #[.pointer p] wr (RPost wr g p made (Value.int .u64 x) s')) := HC
        have e1 : IntKind.u64.wrap (((m + 1 : Nat) : Int) - 1) = (m : Int) := by rw [IntKind.wrap_u64]; have := HMU.out; omega
        have e2 : IntKind.u64.wrap (m : Int) = (m : Int) := by rw [IntKind.wrap_u64]; have := HMU.out; omega
        clear hx e1
        go_wp2_with (first
          | (go_at_call 27; (with_reducible refine (fine_any g p made (some b) _ HS.out).mono ?_); rintro e w' ⟨rfl, rfl⟩)
          | (go_at_call 36; (with_reducible refine HC.out.mono ?_); rintro e w2 ⟨rfl, hr2, hf2⟩; have R2 := Lib.hid hr2; have O2 := Lib.hid (hf2.own HO.out (fun k hk hs => by have h1 := (HO.out.lt k hk).1; have h2 := HL.out k hs; omega)); have F2 := Lib.hid (HF.out.trans hf2 (fun _ _ h => h)); clear hr2 hf2)
          | (at_builtin; refine wpList_append_any _ rfl (.tmp 17) (.tmp 20) 36 rfl w.heap.size 22 i0 (.int .u64 0) 1 8 Try.underlying36 HI.out HZ0.out HZ1.out HZ2.out rfl (by decide) _ _ _ rfl (O2.out.alloc _) _ _ 1 1 [Value.int .u64 x] rfl (reads_new _ _ _ 1 _ rfl rfl) (by simp [Value.oneCell']) (by have := HBB.out; unfold maxLen; omega) (by have := HBB.out; omega) (by have := F2.out.size; simp; omega) ?_; intro v1 w3 hown3 hg3 hb3; obtain ⟨A1, c1, rfl⟩ := own_shape hown3; have O3 := Lib.hid hown3; have R3 := Lib.hid ((R2.out.below (bel_alloc (Below.refl _ _) (.cells #[Value.int .u64 x] 22))).grown hg3 (fun k hk e => by have h1 := (O2.out.lt k e).1; have h2 := HL.out k hk; omega)); have F3 := Lib.hid ((F2.out.alloc (.cells #[Value.int .u64 x] 22)).grown hg3 (fun k hk e => by have h1 := (O2.out.lt k e).1; omega)); clear hown3 hg3 hb3))
        have EL := Lib.hid (show (xs ++ [x]).length = xs.length + 1 by simp)
        have EM := Lib.hid (show (xs ++ [x]).map (Value.int .u64) = xs.map (Value.int .u64) ++ [Value.int .u64 x] by simp)
        go_roundw
        case rel => exact ⟨m, xs ++ [x], s', A1, c1, rfl, Lib.hid (by have := HMU.out; omega), by rw [EL.out], by rw [EL.out, EM.out]; exact O3, R3, F3, HD'⟩
        case measure => simp [intOf]
theorem rdnums_any (g : Nat) (p : Option Addr) (made : Bool) (st : Option (List UInt8)) (w : World) (h : RdS w g p made st) (hb : ∀ b, st = some b → b.length ≤ 1000000000000) :
    Calls Try.prog 33 #[.pointer p] w (LPost (Value.int .u64) w g p made (listS tnI st)) := by
  have H := Lib.hid (some_nums g p made st w h hb)
  clear h hb
  go_enter Try.func33, Try.ntmps33
  go_wp2_with (go_at_call 62; (with_reducible refine H.out.mono ?_); rintro e w1 ⟨A, c, rfl, h1, h2, h3, h4⟩)
  go_ret
  exact ⟨A, c, rfl, h1, h2, h3, h4⟩
set_option maxHeartbeats 4000000 in
theorem some_ints (g : Nat) (p : Option Addr) (made : Bool) (st : Option (List UInt8)) (w : World) (h : RdS w g p made st) (hb : ∀ b, st = some b → b.length ≤ 1000000000000) :
    Calls Try.prog 63 #[.pointer p, .func (.func 30) #[.pointer p] #[]] w (LPost (Value.int .i64) w g p made (listS tiS st)) := by
  have HR := Lib.hid h
  have HB := Lib.hid (show ∀ b, st = some b → b.length ≤ 10000000000000 from fun b e => by have := hb b e; omega)
  have HU := Lib.hid (tnS_u64 st)
  have HM := Lib.hid (rem_le (st' := (tnS st).2) hb tnS_rem.1)
  have HL := Lib.hid (show ∀ k, RSet p k → k < w.heap.size from fun k hk => h.lt hk)
  have HN := Lib.hid (rdnum_any g p made st w HR.out HB.out)
  clear hb h HB
  generalize hq : tnS st = N at HN HU HM
  have HT := Lib.hid hq
  clear hq
  obtain ⟨n0, st1⟩ := N
  have HM : Hid (∀ b, st1 = some b → b.length ≤ 1000000000000) := HM
  have HU : Hid (((n0 : Nat) : Int) < 18446744073709551616) := Lib.hid (by have := HU.out; unfold U64 at this; simp only at this; omega)
  have HN : Hid (Calls Try.prog 36 #[.pointer p] w (RPost w g p made (.int .u64 (n0 : Int)) st1)) := HN
  have HMM := Lib.hid (show rem st1 ≤ 1000000000001 by
    cases st1 with
    | none => exact Nat.zero_le _
    | some b => have := HM.out b rfl; simp only [rem]; omega)
  obtain ⟨i0, hi, hz0, hz1, hz2⟩ := info_parts info_i64
  have HI := Lib.hid hi
  have HZ0 := Lib.hid hz0
  have HZ1 := Lib.hid hz1
  have HZ2 := Lib.hid hz2
  clear hi hz0 hz1 hz2
  go_enter Try.func63, Try.ntmps63
  go_wp2_with (go_at_call 36; (with_reducible refine HN.out.mono ?_); rintro e w1 ⟨rfl, hr1, hf1⟩; have R1 := Lib.hid hr1; have F1 := Lib.hid hf1; clear hr1 hf1)
  go_loopw [5, 6] (fun out n wr => ∃ (m : Nat) (xs : List Int) (sj : Option (List UInt8)) (A : Option Addr) (c : Nat), n = .int .u64 (m : Int) ∧ Hid ((m : Int) < 18446744073709551616) ∧ out = .slice A xs.length c ∧ Hid (wr.ownsRow w.heap.size 2 1 (.slice A xs.length c) xs.length (xs.map (Value.int .i64))) ∧ Hid (RdS wr g p made sj) ∧ Hid (Far (RSet p) w wr) ∧ Hid (Mid tiS (n0, st1) m xs sj)) (fun _ n _ => (intOf n).toNat)
  case atStart => exact ⟨n0, [], st1, none, 0, rfl, HU, rfl, Lib.hid (own_nil _ _ _ _), R1, F1, Lib.hid Mid.start⟩
  case round =>
    obtain ⟨m, xs, sj, A, c, rfl, HMU, rfl, HO, HS, HF, HD⟩ := hrel
    rcases Nat.eq_zero_or_pos m with hm | hm
    · subst hm
      cases sj with
      | none =>
        have HE := Lib.hid (Mid.done_none HD.out HT.out)
        go_wp2_with (go_at_call 27; (with_reducible refine (fine_any g p made none _ HS.out).mono ?_); rintro e w' ⟨rfl, rfl⟩)
        go_ret
        rw [HE.out]
        exact ⟨none, 0, rfl, Reads.none_, (fun _ e => by cases e), HS.out, HF.out⟩
      | some b =>
        have HE := Lib.hid (Mid.done_some HD.out HT.out)
        go_wp2_with (go_at_call 27; (with_reducible refine (fine_any g p made (some b) _ HS.out).mono ?_); rintro e w' ⟨rfl, rfl⟩)
        go_ret
        rw [HE.out]
        exact ⟨A, c, rfl, own_reads HO.out, own_fresh HO.out, HS.out, HF.out⟩
    · have qm : decide ((0 : Int) < (m : Int)) = true := by simp; omega
      cases sj with
      | none =>
        have HE := Lib.hid (Mid.done_none HD.out HT.out)
        go_wp2_with (go_at_call 27; (with_reducible refine (fine_any g p made none _ HS.out).mono ?_); rintro e w' ⟨rfl, rfl⟩)
        go_ret
        rw [HE.out]
        exact ⟨none, 0, rfl, Reads.none_, (fun _ e => by cases e), HS.out, HF.out⟩
      | some b =>
        obtain ⟨m, rfl⟩ : ∃ k, m = k + 1 := ⟨m - 1, by omega⟩
        obtain ⟨x, s', hx⟩ : ∃ x s', tiS (some b) = (x, s') := ⟨_, _, rfl⟩
        have HD' := Lib.hid (Mid.step HD.out (tiS_rem (by simp)) hx)
        have HBB := Lib.hid (show xs.length + b.length ≤ 1000000000000 by have := HD.out.2; have := HMM.out; simp only [rem] at *; omega)
        have HC := Lib.hid (rdint_any g p made (some b) wr HS.out (fun b' e => by cases e; have := HBB.out; omega))
        have HC : Hid (Calls Try.prog 30 #[.pointer p] wr (RPost wr g p made (Value.int .i64 (tiS (some b)).1) (tiS (some b)).2)) := HC
        rw [hx] at HC
        have HC : Hid (Calls Try.prog 30 #[.pointer p] wr (RPost wr g p made (Value.int .i64 x) s')) := HC
        have e1 : IntKind.u64.wrap (((m + 1 : Nat) : Int) - 1) = (m : Int) := by rw [IntKind.wrap_u64]; have := HMU.out; omega
        have e2 : IntKind.u64.wrap (m : Int) = (m : Int) := by rw [IntKind.wrap_u64]; have := HMU.out; omega
        clear hx e1
        go_wp2_with (first
          | (go_at_call 27; (with_reducible refine (fine_any g p made (some b) _ HS.out).mono ?_); rintro e w' ⟨rfl, rfl⟩)
          | (go_at_call 30; (with_reducible refine HC.out.mono ?_); rintro e w2 ⟨rfl, hr2, hf2⟩; have R2 := Lib.hid hr2; have O2 := Lib.hid (hf2.own HO.out (fun k hk hs => by have h1 := (HO.out.lt k hk).1; have h2 := HL.out k hs; omega)); have F2 := Lib.hid (HF.out.trans hf2 (fun _ _ h => h)); clear hr2 hf2)
          | (at_builtin; refine wpList_append_any _ rfl (.tmp 17) (.tmp 20) 37 rfl w.heap.size 2 i0 (.int .i64 0) 1 8 Try.underlying37 HI.out HZ0.out HZ1.out HZ2.out rfl (by decide) _ _ _ rfl (O2.out.alloc _) _ _ 1 1 [Value.int .i64 x] rfl (reads_new _ _ _ 1 _ rfl rfl) (by simp [Value.oneCell']) (by have := HBB.out; unfold maxLen; omega) (by have := HBB.out; omega) (by have := F2.out.size; simp; omega) ?_; intro v1 w3 hown3 hg3 hb3; obtain ⟨A1, c1, rfl⟩ := own_shape hown3; have O3 := Lib.hid hown3; have R3 := Lib.hid ((R2.out.below (bel_alloc (Below.refl _ _) (.cells #[Value.int .i64 x] 2))).grown hg3 (fun k hk e => by have h1 := (O2.out.lt k e).1; have h2 := HL.out k hk; omega)); have F3 := Lib.hid ((F2.out.alloc (.cells #[Value.int .i64 x] 2)).grown hg3 (fun k hk e => by have h1 := (O2.out.lt k e).1; omega)); clear hown3 hg3 hb3))
        have EL := Lib.hid (show (xs ++ [x]).length = xs.length + 1 by simp)
        have EM := Lib.hid (show (xs ++ [x]).map (Value.int .i64) = xs.map (Value.int .i64) ++ [Value.int .i64 x] by simp)
        go_roundw
        case rel => exact ⟨m, xs ++ [x], s', A1, c1, rfl, Lib.hid (by have := HMU.out; omega), by rw [EL.out], by rw [EL.out, EM.out]; exact O3, R3, F3, HD'⟩
        case measure => simp [intOf]
theorem rdints_any (g : Nat) (p : Option Addr) (made : Bool) (st : Option (List UInt8)) (w : World) (h : RdS w g p made st) (hb : ∀ b, st = some b → b.length ≤ 1000000000000) :
    Calls Try.prog 34 #[.pointer p] w (LPost (Value.int .i64) w g p made (listS tiS st)) := by
  have H := Lib.hid (some_ints g p made st w h hb)
  clear h hb
  go_enter Try.func34, Try.ntmps34
  go_wp2_with (go_at_call 63; (with_reducible refine H.out.mono ?_); rintro e w1 ⟨A, c, rfl, h1, h2, h3, h4⟩)
  go_ret
  exact ⟨A, c, rfl, h1, h2, h3, h4⟩
set_option maxHeartbeats 4000000 in
theorem some_texts (g : Nat) (p : Option Addr) (made : Bool) (st : Option (List UInt8)) (w : World) (h : RdS w g p made st) (hb : ∀ b, st = some b → b.length ≤ 1000000000000) :
    Calls Try.prog 64 #[.pointer p, .func (.func 32) #[.pointer p] #[]] w (LPost (Value.string) w g p made (listS tbS st)) := by
  have HR := Lib.hid h
  have HB := Lib.hid (show ∀ b, st = some b → b.length ≤ 10000000000000 from fun b e => by have := hb b e; omega)
  have HU := Lib.hid (tnS_u64 st)
  have HM := Lib.hid (rem_le (st' := (tnS st).2) hb tnS_rem.1)
  have HL := Lib.hid (show ∀ k, RSet p k → k < w.heap.size from fun k hk => h.lt hk)
  have HN := Lib.hid (rdnum_any g p made st w HR.out HB.out)
  clear hb h HB
  generalize hq : tnS st = N at HN HU HM
  have HT := Lib.hid hq
  clear hq
  obtain ⟨n0, st1⟩ := N
  have HM : Hid (∀ b, st1 = some b → b.length ≤ 1000000000000) := HM
  have HU : Hid (((n0 : Nat) : Int) < 18446744073709551616) := Lib.hid (by have := HU.out; unfold U64 at this; simp only at this; omega)
  have HN : Hid (Calls Try.prog 36 #[.pointer p] w (RPost w g p made (.int .u64 (n0 : Int)) st1)) := HN
  have HMM := Lib.hid (show rem st1 ≤ 1000000000001 by
    cases st1 with
    | none => exact Nat.zero_le _
    | some b => have := HM.out b rfl; simp only [rem]; omega)
  obtain ⟨i0, hi, hz0, hz1, hz2⟩ := info_parts info_string
  have HI := Lib.hid hi
  have HZ0 := Lib.hid hz0
  have HZ1 := Lib.hid hz1
  have HZ2 := Lib.hid hz2
  clear hi hz0 hz1 hz2
  go_enter Try.func64, Try.ntmps64
  go_wp2_with (go_at_call 36; (with_reducible refine HN.out.mono ?_); rintro e w1 ⟨rfl, hr1, hf1⟩; have R1 := Lib.hid hr1; have F1 := Lib.hid hf1; clear hr1 hf1)
  go_loopw [5, 6] (fun out n wr => ∃ (m : Nat) (xs : List ByteArray) (sj : Option (List UInt8)) (A : Option Addr) (c : Nat), n = .int .u64 (m : Int) ∧ Hid ((m : Int) < 18446744073709551616) ∧ out = .slice A xs.length c ∧ Hid (wr.ownsRow w.heap.size 9 1 (.slice A xs.length c) xs.length (xs.map (Value.string))) ∧ Hid (RdS wr g p made sj) ∧ Hid (Far (RSet p) w wr) ∧ Hid (Mid tbS (n0, st1) m xs sj)) (fun _ n _ => (intOf n).toNat)
  case atStart => exact ⟨n0, [], st1, none, 0, rfl, HU, rfl, Lib.hid (own_nil _ _ _ _), R1, F1, Lib.hid Mid.start⟩
  case round =>
    obtain ⟨m, xs, sj, A, c, rfl, HMU, rfl, HO, HS, HF, HD⟩ := hrel
    rcases Nat.eq_zero_or_pos m with hm | hm
    · subst hm
      cases sj with
      | none =>
        have HE := Lib.hid (Mid.done_none HD.out HT.out)
        go_wp2_with (go_at_call 27; (with_reducible refine (fine_any g p made none _ HS.out).mono ?_); rintro e w' ⟨rfl, rfl⟩)
        go_ret
        rw [HE.out]
        exact ⟨none, 0, rfl, Reads.none_, (fun _ e => by cases e), HS.out, HF.out⟩
      | some b =>
        have HE := Lib.hid (Mid.done_some HD.out HT.out)
        go_wp2_with (go_at_call 27; (with_reducible refine (fine_any g p made (some b) _ HS.out).mono ?_); rintro e w' ⟨rfl, rfl⟩)
        go_ret
        rw [HE.out]
        exact ⟨A, c, rfl, own_reads HO.out, own_fresh HO.out, HS.out, HF.out⟩
    · have qm : decide ((0 : Int) < (m : Int)) = true := by simp; omega
      cases sj with
      | none =>
        have HE := Lib.hid (Mid.done_none HD.out HT.out)
        go_wp2_with (go_at_call 27; (with_reducible refine (fine_any g p made none _ HS.out).mono ?_); rintro e w' ⟨rfl, rfl⟩)
        go_ret
        rw [HE.out]
        exact ⟨none, 0, rfl, Reads.none_, (fun _ e => by cases e), HS.out, HF.out⟩
      | some b =>
        obtain ⟨m, rfl⟩ : ∃ k, m = k + 1 := ⟨m - 1, by omega⟩
        obtain ⟨x, s', hx⟩ : ∃ x s', tbS (some b) = (x, s') := ⟨_, _, rfl⟩
        have HD' := Lib.hid (Mid.step HD.out (tbS_rem (by simp)) hx)
        have HBB := Lib.hid (show xs.length + b.length ≤ 1000000000000 by have := HD.out.2; have := HMM.out; simp only [rem] at *; omega)
        have HC := Lib.hid (rdtext_any g p made (some b) wr HS.out (fun b' e => by cases e; have := HBB.out; omega))
        have HC : Hid (Calls Try.prog 32 #[.pointer p] wr (RPost wr g p made (Value.string (tbS (some b)).1) (tbS (some b)).2)) := HC
        rw [hx] at HC
        have HC : Hid (Calls Try.prog 32 #[.pointer p] wr (RPost wr g p made (Value.string x) s')) := HC
        have e1 : IntKind.u64.wrap (((m + 1 : Nat) : Int) - 1) = (m : Int) := by rw [IntKind.wrap_u64]; have := HMU.out; omega
        have e2 : IntKind.u64.wrap (m : Int) = (m : Int) := by rw [IntKind.wrap_u64]; have := HMU.out; omega
        clear hx e1
        go_wp2_with (first
          | (go_at_call 27; (with_reducible refine (fine_any g p made (some b) _ HS.out).mono ?_); rintro e w' ⟨rfl, rfl⟩)
          | (go_at_call 32; (with_reducible refine HC.out.mono ?_); rintro e w2 ⟨rfl, hr2, hf2⟩; have R2 := Lib.hid hr2; have O2 := Lib.hid (hf2.own HO.out (fun k hk hs => by have h1 := (HO.out.lt k hk).1; have h2 := HL.out k hs; omega)); have F2 := Lib.hid (HF.out.trans hf2 (fun _ _ h => h)); clear hr2 hf2)
          | (at_builtin; refine wpList_append_any _ rfl (.tmp 17) (.tmp 20) 38 rfl w.heap.size 9 i0 (.string ByteArray.empty) 1 16 Try.underlying38 HI.out HZ0.out HZ1.out HZ2.out rfl (by decide) _ _ _ rfl (O2.out.alloc _) _ _ 1 1 [Value.string x] rfl (reads_new _ _ _ 1 _ rfl rfl) (by simp [Value.oneCell']) (by have := HBB.out; unfold maxLen; omega) (by have := HBB.out; omega) (by have := F2.out.size; simp; omega) ?_; intro v1 w3 hown3 hg3 hb3; obtain ⟨A1, c1, rfl⟩ := own_shape hown3; have O3 := Lib.hid hown3; have R3 := Lib.hid ((R2.out.below (bel_alloc (Below.refl _ _) (.cells #[Value.string x] 9))).grown hg3 (fun k hk e => by have h1 := (O2.out.lt k e).1; have h2 := HL.out k hk; omega)); have F3 := Lib.hid ((F2.out.alloc (.cells #[Value.string x] 9)).grown hg3 (fun k hk e => by have h1 := (O2.out.lt k e).1; omega)); clear hown3 hg3 hb3))
        have EL := Lib.hid (show (xs ++ [x]).length = xs.length + 1 by simp)
        have EM := Lib.hid (show (xs ++ [x]).map (Value.string) = xs.map (Value.string) ++ [Value.string x] by simp)
        go_roundw
        case rel => exact ⟨m, xs ++ [x], s', A1, c1, rfl, Lib.hid (by have := HMU.out; omega), by rw [EL.out], by rw [EL.out, EM.out]; exact O3, R3, F3, HD'⟩
        case measure => simp [intOf]
theorem rdtexts_any (g : Nat) (p : Option Addr) (made : Bool) (st : Option (List UInt8)) (w : World) (h : RdS w g p made st) (hb : ∀ b, st = some b → b.length ≤ 1000000000000) :
    Calls Try.prog 35 #[.pointer p] w (LPost (Value.string) w g p made (listS tbS st)) := by
  have H := Lib.hid (some_texts g p made st w h hb)
  clear h hb
  go_enter Try.func35, Try.ntmps35
  go_wp2_with (go_at_call 64; (with_reducible refine H.out.mono ?_); rintro e w1 ⟨A, c, rfl, h1, h2, h3, h4⟩)
  go_ret
  exact ⟨A, c, rfl, h1, h2, h3, h4⟩
end Go.Proofs.Ytijkfllolcgfhaa.Pack

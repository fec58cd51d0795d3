/- Chapter 3: lists written, walked. No condition but bounds. -/
import Derived.Test.YtijkfllolcgfhaaPackWm
namespace Go.Proofs.Ytijkfllolcgfhaa.Pack
open Go.RowKit
set_option linter.unusedVariables false
set_option linter.unusedSimpArgs false

theorem new_any (w : World) : Calls Try.prog 15 #[] w fun e w' => e = .returned (.pointer (some ⟨w.heap.size, 0, none⟩)) ∧ w.alloc (.cells #[.slice none 0 0, .bool true] 67) = w' := by
  go_enter Try.func15, Try.ntmps15
  go_wp2
  go_ret
  exact ⟨rfl, rfl⟩
theorem new_wr (w : World) : WrS (w.alloc (.cells #[.slice none 0 0, .bool true] 67)) w.heap.size none (some ⟨w.heap.size, 0, none⟩) (some []) :=
  ⟨rfl, _, Blk.new _ _ _, own_nil _ _ _ _, rfl⟩
/-- A list's bytes: how many, and each thing's. -/
def allB {α : Type} (f : α → List UInt8) (xs : List α) : List UInt8 := numB xs.length ++ xs.flatMap f
/-- The bytes with k things written. -/
def allT {α : Type} (f : α → List UInt8) (xs : List α) (k : Nat) : List UInt8 := numB xs.length ++ (xs.take k).flatMap f
section
variable {α : Type} {f : α → List UInt8} {xs : List α}
theorem allT_zero : allT f xs 0 = numB xs.length := by simp [allT]
theorem allT_full {k : Nat} (h : xs.length ≤ k) : allT f xs k = allB f xs := by unfold allT allB; rw [List.take_of_length_le h]
theorem allT_succ {k : Nat} {x : α} (h : xs[k]? = some x) : allT f xs (k + 1) = allT f xs k ++ f x := by
  obtain ⟨hk, rfl⟩ := List.getElem?_eq_some_iff.1 h
  unfold allT
  rw [List.take_succ_eq_append_getElem hk, List.flatMap_append, List.flatMap_cons, List.flatMap_nil, List.append_nil, List.append_assoc]
theorem allT_le (k : Nat) : (allT f xs k).length ≤ (allB f xs).length := by
  unfold allT allB
  have e : xs.flatMap f = (xs.take k).flatMap f ++ (xs.drop k).flatMap f := by rw [← List.flatMap_append, List.take_append_drop]
  rw [e]
  simp only [List.length_append]
  omega
theorem allT_len {o : Option (List UInt8)} {k M : Nat} (ho : ∀ l, o = some l → l.length + (allB f xs).length ≤ M) : ∀ l, o.map (· ++ allT f xs k) = some l → l.length ≤ M := by
  intro l e
  obtain ⟨l0, h1, rfl⟩ := Option.map_eq_some_iff.1 e
  have := ho l0 h1
  have := allT_le (f := f) (xs := xs) k
  simp
  omega
end
theorem reads_f {α : Type} {w : World} {A : Option Addr} {n k B : Nat} {xs : List α} {h : α → Value} (hr : Reads w B 1 A n (xs.map h)) (hk : k < n) : ∃ ad x, A = some ad ∧ ad.block < B ∧ xs[k]? = some x ∧ w.cell? (ad.add k) = some (h x) := by
  obtain ⟨ad, u, rfl, hb, hu, hc⟩ := hr.at_ hk
  rw [List.getElem?_map] at hu
  obtain ⟨x, hx, rfl⟩ := Option.map_eq_some_iff.1 hu
  exact ⟨ad, x, rfl, hb, hx, hc⟩
set_option maxHeartbeats 1000000 in
theorem all_nums (g : Nat) (r : Option Nat) (p : Option Addr) (o : Option (List UInt8)) (A : Option Addr) (n c B : Nat) (xs : List Int) (w : World) (hs : WrS w g r p o) (hr : Reads w B 1 A n (xs.map (.int .u64))) (hB : B ≤ w.heap.size) (hap : 0 < n → ∀ ad, A = some ad → ¬ WSet o.isSome g r ad.block) (hn : n ≤ 2000000) (x0 : ∀ x ∈ xs, 0 ≤ x ∧ x < 18446744073709551616) (ho : ∀ l, o = some l → l.length + (allB (fun x => numB x.toNat) xs).length ≤ 40000000000000) :
    Calls Try.prog 46 #[.pointer p, .slice A n c, .func (.func 21) #[.pointer p] #[]] w (WPost w g r p (o.map (· ++ allB (fun x => numB x.toNat) xs))) := by
  have HLE : xs.length = n := by have := hr.1; simpa using this
  have HS := Lib.hid hs
  have HR := Lib.hid hr
  have HB := Lib.hid hB
  have HA := Lib.hid hap
  have X0 := Lib.hid x0
  have HO := Lib.hid ho
  have HL := Lib.hid HLE
  clear hs hr hB hap x0 ho HLE
  have hw : IntKind.u64.wrap (n : Int) = (n : Int) := by rw [IntKind.wrap_u64]; omega
  go_enter Try.func46, Try.ntmps46
  go_wp2_with (go_at_call 21; (with_reducible refine (num_any g r p o _ _ HS.out (Int.natCast_nonneg _) (by omega) (fun l e => by have := HO.out l e; omega)).mono ?_); rintro e w1 ⟨rfl, r1, hs1, hf1⟩; rw [Int.toNat_natCast, ← HL.out, ← allT_zero (f := (fun x => numB x.toNat))] at hs1; have S1 := Lib.hid hs1; have F1 := Lib.hid (show WF o.isSome g r w r1 w1 by simpa using hf1); clear hs1 hf1)
  go_loopw [15] (fun i wr => ∃ (k : Nat) (r' : Option Nat), i = .int .i64 k ∧ k ≤ n ∧ Hid (WrS wr g r' p (o.map (· ++ allT (fun x => numB x.toNat) xs k))) ∧ Hid (WF o.isSome g r w r' wr)) (fun i _ => n - (intOf i).toNat)
  case atStart => exact ⟨0, r1, rfl, Nat.zero_le _, S1, F1⟩
  case round =>
    obtain ⟨k, r', rfl, hk, SK, FK⟩ := hrel
    by_cases hlt : k < n
    · obtain ⟨ad, x, rfl, hb, hx, hc⟩ := reads_f HR.out hlt
      have X := Lib.hid (X0.out x (List.mem_of_getElem? hx))
      have HX := Lib.hid (allT_succ (f := (fun x => numB x.toNat)) hx)
      have hc' : wr.cell? (ad.add k) = some (.int .u64 x) := (FK.out.far.cell (p := ad.add k) (by rw [block_of_add]; exact Nat.lt_of_lt_of_le hb HB.out) (by rw [block_of_add]; exact HA.out (by omega) ad rfl)).trans hc
      clear hc hx hb
      go_wp2_with (go_at_call 21; (with_reducible refine (num_any g r' p _ x _ SK.out X.out.1 X.out.2 (fun l e => by have := allT_len HO.out l e; omega)).mono ?_); rintro e w2 ⟨rfl, r2, hs2, hf2⟩; have F2 := Lib.hid (show WF o.isSome g r' wr r2 w2 by simpa using hf2); have S2 := Lib.hid hs2; clear hs2 hf2)
      go_roundw
      case rel => exact ⟨k + 1, r2, by go_num, by omega, Lib.hid (by rw [HX.out]; simpa [Option.map_map, Function.comp_def] using S2.out), Lib.hid (FK.out.trans F2.out)⟩
      case measure => simp [intOf]; omega
    · obtain rfl : k = n := by omega
      go_wp2
      go_end0
      exact ⟨rfl, r', by rw [← allT_full (f := (fun x => numB x.toNat)) (Nat.le_of_eq HL.out)]; exact SK.out, by simpa using FK.out⟩
theorem nums_any (g : Nat) (r : Option Nat) (p : Option Addr) (o : Option (List UInt8)) (A : Option Addr) (n c B : Nat) (xs : List Int) (w : World) (hs : WrS w g r p o) (hr : Reads w B 1 A n (xs.map (.int .u64))) (hB : B ≤ w.heap.size) (hap : 0 < n → ∀ ad, A = some ad → ¬ WSet o.isSome g r ad.block) (hn : n ≤ 2000000) (x0 : ∀ x ∈ xs, 0 ≤ x ∧ x < 18446744073709551616) (ho : ∀ l, o = some l → l.length + (allB (fun x => numB x.toNat) xs).length ≤ 40000000000000) :
    Calls Try.prog 18 #[.pointer p, .slice A n c] w (WPost w g r p (o.map (· ++ allB (fun x => numB x.toNat) xs))) := by
  have H := Lib.hid (all_nums g r p o A n c B xs w hs hr hB hap hn x0 ho)
  clear hs hr hB hap hn x0 ho
  go_enter Try.func18, Try.ntmps18
  go_wp2_with (go_at_call 46; (with_reducible refine H.out.mono ?_); rintro e w1 ⟨rfl, r1, hs1, hf1⟩)
  go_end0
  exact ⟨rfl, r1, hs1, hf1⟩
set_option maxHeartbeats 1000000 in
theorem all_ints (g : Nat) (r : Option Nat) (p : Option Addr) (o : Option (List UInt8)) (A : Option Addr) (n c B : Nat) (xs : List Int) (w : World) (hs : WrS w g r p o) (hr : Reads w B 1 A n (xs.map (.int .i64))) (hB : B ≤ w.heap.size) (hap : 0 < n → ∀ ad, A = some ad → ¬ WSet o.isSome g r ad.block) (hn : n ≤ 2000000) (x0 : ∀ x ∈ xs, -9223372036854775808 ≤ x ∧ x ≤ 9223372036854775807) (ho : ∀ l, o = some l → l.length + (allB (fun x => numB (zz x)) xs).length ≤ 40000000000000) :
    Calls Try.prog 47 #[.pointer p, .slice A n c, .func (.func 22) #[.pointer p] #[]] w (WPost w g r p (o.map (· ++ allB (fun x => numB (zz x)) xs))) := by
  have HLE : xs.length = n := by have := hr.1; simpa using this
  have HS := Lib.hid hs
  have HR := Lib.hid hr
  have HB := Lib.hid hB
  have HA := Lib.hid hap
  have X0 := Lib.hid x0
  have HO := Lib.hid ho
  have HL := Lib.hid HLE
  clear hs hr hB hap x0 ho HLE
  have hw : IntKind.u64.wrap (n : Int) = (n : Int) := by rw [IntKind.wrap_u64]; omega
  go_enter Try.func47, Try.ntmps47
  go_wp2_with (go_at_call 21; (with_reducible refine (num_any g r p o _ _ HS.out (Int.natCast_nonneg _) (by omega) (fun l e => by have := HO.out l e; omega)).mono ?_); rintro e w1 ⟨rfl, r1, hs1, hf1⟩; rw [Int.toNat_natCast, ← HL.out, ← allT_zero (f := (fun x => numB (zz x)))] at hs1; have S1 := Lib.hid hs1; have F1 := Lib.hid (show WF o.isSome g r w r1 w1 by simpa using hf1); clear hs1 hf1)
  go_loopw [15] (fun i wr => ∃ (k : Nat) (r' : Option Nat), i = .int .i64 k ∧ k ≤ n ∧ Hid (WrS wr g r' p (o.map (· ++ allT (fun x => numB (zz x)) xs k))) ∧ Hid (WF o.isSome g r w r' wr)) (fun i _ => n - (intOf i).toNat)
  case atStart => exact ⟨0, r1, rfl, Nat.zero_le _, S1, F1⟩
  case round =>
    obtain ⟨k, r', rfl, hk, SK, FK⟩ := hrel
    by_cases hlt : k < n
    · obtain ⟨ad, x, rfl, hb, hx, hc⟩ := reads_f HR.out hlt
      have X := Lib.hid (X0.out x (List.mem_of_getElem? hx))
      have HX := Lib.hid (allT_succ (f := (fun x => numB (zz x))) hx)
      have hc' : wr.cell? (ad.add k) = some (.int .i64 x) := (FK.out.far.cell (p := ad.add k) (by rw [block_of_add]; exact Nat.lt_of_lt_of_le hb HB.out) (by rw [block_of_add]; exact HA.out (by omega) ad rfl)).trans hc
      clear hc hx hb
      go_wp2_with (go_at_call 22; (with_reducible refine (int_any g r' p _ x _ SK.out X.out.1 X.out.2 (fun l e => by have := allT_len HO.out l e; omega)).mono ?_); rintro e w2 ⟨rfl, r2, hs2, hf2⟩; have F2 := Lib.hid (show WF o.isSome g r' wr r2 w2 by simpa using hf2); have S2 := Lib.hid hs2; clear hs2 hf2)
      go_roundw
      case rel => exact ⟨k + 1, r2, by go_num, by omega, Lib.hid (by rw [HX.out]; simpa [Option.map_map, Function.comp_def] using S2.out), Lib.hid (FK.out.trans F2.out)⟩
      case measure => simp [intOf]; omega
    · obtain rfl : k = n := by omega
      go_wp2
      go_end0
      exact ⟨rfl, r', by rw [← allT_full (f := (fun x => numB (zz x))) (Nat.le_of_eq HL.out)]; exact SK.out, by simpa using FK.out⟩
theorem ints_any (g : Nat) (r : Option Nat) (p : Option Addr) (o : Option (List UInt8)) (A : Option Addr) (n c B : Nat) (xs : List Int) (w : World) (hs : WrS w g r p o) (hr : Reads w B 1 A n (xs.map (.int .i64))) (hB : B ≤ w.heap.size) (hap : 0 < n → ∀ ad, A = some ad → ¬ WSet o.isSome g r ad.block) (hn : n ≤ 2000000) (x0 : ∀ x ∈ xs, -9223372036854775808 ≤ x ∧ x ≤ 9223372036854775807) (ho : ∀ l, o = some l → l.length + (allB (fun x => numB (zz x)) xs).length ≤ 40000000000000) :
    Calls Try.prog 19 #[.pointer p, .slice A n c] w (WPost w g r p (o.map (· ++ allB (fun x => numB (zz x)) xs))) := by
  have H := Lib.hid (all_ints g r p o A n c B xs w hs hr hB hap hn x0 ho)
  clear hs hr hB hap hn x0 ho
  go_enter Try.func19, Try.ntmps19
  go_wp2_with (go_at_call 47; (with_reducible refine H.out.mono ?_); rintro e w1 ⟨rfl, r1, hs1, hf1⟩)
  go_end0
  exact ⟨rfl, r1, hs1, hf1⟩
set_option maxHeartbeats 1000000 in
theorem all_texts (g : Nat) (r : Option Nat) (p : Option Addr) (o : Option (List UInt8)) (A : Option Addr) (n c B : Nat) (xs : List ByteArray) (w : World) (hs : WrS w g r p o) (hr : Reads w B 1 A n (xs.map (.string))) (hB : B ≤ w.heap.size) (hap : 0 < n → ∀ ad, A = some ad → ¬ WSet o.isSome g r ad.block) (hn : n ≤ 2000000) (x0 : ∀ x ∈ xs, ByteArray.size x ≤ 10000000000000) (ho : ∀ l, o = some l → l.length + (allB textB xs).length ≤ 40000000000000) :
    Calls Try.prog 48 #[.pointer p, .slice A n c, .func (.func 23) #[.pointer p] #[]] w (WPost w g r p (o.map (· ++ allB textB xs))) := by
  have HLE : xs.length = n := by have := hr.1; simpa using this
  have HS := Lib.hid hs
  have HR := Lib.hid hr
  have HB := Lib.hid hB
  have HA := Lib.hid hap
  have X0 := Lib.hid x0
  have HO := Lib.hid ho
  have HL := Lib.hid HLE
  clear hs hr hB hap x0 ho HLE
  have hw : IntKind.u64.wrap (n : Int) = (n : Int) := by rw [IntKind.wrap_u64]; omega
  go_enter Try.func48, Try.ntmps48
  go_wp2_with (go_at_call 21; (with_reducible refine (num_any g r p o _ _ HS.out (Int.natCast_nonneg _) (by omega) (fun l e => by have := HO.out l e; omega)).mono ?_); rintro e w1 ⟨rfl, r1, hs1, hf1⟩; rw [Int.toNat_natCast, ← HL.out, ← allT_zero (f := textB)] at hs1; have S1 := Lib.hid hs1; have F1 := Lib.hid (show WF o.isSome g r w r1 w1 by simpa using hf1); clear hs1 hf1)
  go_loopw [15] (fun i wr => ∃ (k : Nat) (r' : Option Nat), i = .int .i64 k ∧ k ≤ n ∧ Hid (WrS wr g r' p (o.map (· ++ allT textB xs k))) ∧ Hid (WF o.isSome g r w r' wr)) (fun i _ => n - (intOf i).toNat)
  case atStart => exact ⟨0, r1, rfl, Nat.zero_le _, S1, F1⟩
  case round =>
    obtain ⟨k, r', rfl, hk, SK, FK⟩ := hrel
    by_cases hlt : k < n
    · obtain ⟨ad, x, rfl, hb, hx, hc⟩ := reads_f HR.out hlt
      have X := Lib.hid (X0.out x (List.mem_of_getElem? hx))
      have HX := Lib.hid (allT_succ (f := textB) hx)
      have hc' : wr.cell? (ad.add k) = some (.string x) := (FK.out.far.cell (p := ad.add k) (by rw [block_of_add]; exact Nat.lt_of_lt_of_le hb HB.out) (by rw [block_of_add]; exact HA.out (by omega) ad rfl)).trans hc
      clear hc hx hb
      go_wp2_with (go_at_call 23; (with_reducible refine (text_any g r' p _ x _ SK.out X.out (fun l e => by have := allT_len HO.out l e; omega)).mono ?_); rintro e w2 ⟨rfl, r2, hs2, hf2⟩; have F2 := Lib.hid (show WF o.isSome g r' wr r2 w2 by simpa using hf2); have S2 := Lib.hid hs2; clear hs2 hf2)
      go_roundw
      case rel => exact ⟨k + 1, r2, by go_num, by omega, Lib.hid (by rw [HX.out]; simpa [Option.map_map, Function.comp_def] using S2.out), Lib.hid (FK.out.trans F2.out)⟩
      case measure => simp [intOf]; omega
    · obtain rfl : k = n := by omega
      go_wp2
      go_end0
      exact ⟨rfl, r', by rw [← allT_full (f := textB) (Nat.le_of_eq HL.out)]; exact SK.out, by simpa using FK.out⟩
theorem texts_any (g : Nat) (r : Option Nat) (p : Option Addr) (o : Option (List UInt8)) (A : Option Addr) (n c B : Nat) (xs : List ByteArray) (w : World) (hs : WrS w g r p o) (hr : Reads w B 1 A n (xs.map (.string))) (hB : B ≤ w.heap.size) (hap : 0 < n → ∀ ad, A = some ad → ¬ WSet o.isSome g r ad.block) (hn : n ≤ 2000000) (x0 : ∀ x ∈ xs, ByteArray.size x ≤ 10000000000000) (ho : ∀ l, o = some l → l.length + (allB textB xs).length ≤ 40000000000000) :
    Calls Try.prog 20 #[.pointer p, .slice A n c] w (WPost w g r p (o.map (· ++ allB textB xs))) := by
  have H := Lib.hid (all_texts g r p o A n c B xs w hs hr hB hap hn x0 ho)
  clear hs hr hB hap hn x0 ho
  go_enter Try.func20, Try.ntmps20
  go_wp2_with (go_at_call 48; (with_reducible refine H.out.mono ?_); rintro e w1 ⟨rfl, r1, hs1, hf1⟩)
  go_end0
  exact ⟨rfl, r1, hs1, hf1⟩
end Go.Proofs.Ytijkfllolcgfhaa.Pack

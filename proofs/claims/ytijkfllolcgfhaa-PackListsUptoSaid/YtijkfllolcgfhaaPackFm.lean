/- Chapter 3: the reference's integers, truths, texts and lists, walked. No condition but bounds. -/
import Derived.Test.YtijkfllolcgfhaaPackF
namespace Go.Proofs.Ytijkfllolcgfhaa.Pack
open Go.RowKit
set_option linter.unusedVariables false
set_option linter.unusedSimpArgs false

theorem str_app2 (a : List UInt8) (s : ByteArray) : (⟨a.toArray⟩ : ByteArray) ++ s = ⟨(a ++ s.data.toList).toArray⟩ := by
  apply ByteArray.ext
  simp
set_option maxHeartbeats 1000000 in
theorem rint_any (m : Int) (w : World) (h0 : -9223372036854775808 ≤ m) (hm : m ≤ 9223372036854775807) :
    Calls Try.prog 38 #[.int .i64 m] w fun e w' => e = .returned (strV (numB (zz m))) ∧ Below w.heap.size w w' := by
  have HM := Lib.hid hm
  have H0 := Lib.hid h0
  clear hm h0
  by_cases hp : 0 ≤ m
  · have e1 : IntKind.u64.wrap m = m := by rw [IntKind.wrap_u64]; have := HM.out; omega
    have e2 : IntKind.u64.wrap (2 * m) = 2 * m := by rw [IntKind.wrap_u64]; have := HM.out; omega
    have e3 := Lib.hid (show (2 * m).toNat = zz m by unfold zz; rw [if_pos hp]; omega)
    go_enter Try.func38, Try.ntmps38
    go_wp2_with (go_at_call 44; (with_reducible refine (rnum_any _ _ (by omega) (by have := HM.out; omega)).mono ?_); rintro e w1 ⟨rfl, hb1⟩)
    go_ret
    exact ⟨ret_str (by rw [e3.out]), hb1⟩
  · have e0 : wrap64 (m + 1) = m + 1 := wrap64_in (by have := H0.out; omega)
    have e0' : wrap64 (-(m + 1)) = -(m + 1) := wrap64_in (by have := H0.out; omega)
    have e1 : IntKind.u64.wrap (-(m + 1)) = -(m + 1) := by rw [IntKind.wrap_u64]; have := H0.out; omega
    have e2 : IntKind.u64.wrap (2 * -(m + 1)) = 2 * -(m + 1) := by rw [IntKind.wrap_u64]; have := H0.out; omega
    have e4 : IntKind.u64.wrap (2 * -(m + 1) + 1) = 2 * -(m + 1) + 1 := by rw [IntKind.wrap_u64]; have := H0.out; omega
    have e3 := Lib.hid (show (2 * -(m + 1) + 1).toNat = zz m by unfold zz; rw [if_neg hp]; omega)
    go_enter Try.func38, Try.ntmps38
    go_wp2_with (go_at_call 44; (with_reducible refine (rnum_any _ _ (by omega) (by have := H0.out; omega)).mono ?_); rintro e w1 ⟨rfl, hb1⟩)
    go_ret
    exact ⟨ret_str (by rw [e3.out]), hb1⟩
theorem rtruth_any (b : Bool) (w : World) :
    Calls Try.prog 39 #[.bool b] w fun e w' => e = .returned (strV (numB (cond b 1 0))) ∧ Below w.heap.size w w' := by
  cases b
  all_goals
    go_enter Try.func39, Try.ntmps39
    go_wp2_with (go_at_call 44; (with_reducible refine (rnum_any _ _ (by decide) (by decide)).mono ?_); rintro e w1 ⟨rfl, hb1⟩)
    go_ret
    exact ⟨rfl, hb1⟩
set_option maxHeartbeats 1000000 in
theorem rtext_any (s : ByteArray) (w : World) (hz : s.size ≤ 10000000000000) :
    Calls Try.prog 40 #[.string s] w fun e w' => e = .returned (strV (textB s)) ∧ Below w.heap.size w w' := by
  have HZ := Lib.hid hz
  have hz' : (s.size : Int) ≤ 10000000000000 := by omega
  have l9 := numB_len (n := s.size) (by unfold U64; omega)
  clear hz
  have hw : IntKind.u64.wrap (s.size : Int) = (s.size : Int) := by rw [IntKind.wrap_u64]; omega
  have S2 := str_app2
  go_enter Try.func40, Try.ntmps40
  go_wp2_with (go_at_call 44; (with_reducible refine (rnum_any _ _ (Int.natCast_nonneg _) (by omega)).mono ?_); rintro e w1 ⟨rfl, hb1⟩; rw [Int.toNat_natCast])
  go_ret
  exact ⟨rfl, hb1⟩
set_option maxHeartbeats 1000000 in
theorem rnums_any (A : Option Addr) (n c B : Nat) (xs : List Int) (w : World) (hr : Reads w B 1 A n (xs.map (.int .u64))) (hB : B ≤ w.heap.size) (hn : n ≤ 2000000) (x0 : ∀ x ∈ xs, 0 ≤ x ∧ x < 18446744073709551616) (ho : (allB (fun x => numB x.toNat) xs).length ≤ 40000000000000) :
    Calls Try.prog 41 #[.slice A n c] w fun e w' => e = .returned (strV (allB (fun x => numB x.toNat) xs)) ∧ Below w.heap.size w w' := by
  have HLE : xs.length = n := by have := hr.1; simpa using this
  have HR := Lib.hid hr
  have HB := Lib.hid hB
  have X0 := Lib.hid x0
  have HO := Lib.hid ho
  have HL := Lib.hid HLE
  clear hr hB x0 ho HLE
  have hw : IntKind.u64.wrap (n : Int) = (n : Int) := by rw [IntKind.wrap_u64]; omega
  have S1 := str_app
  go_enter Try.func41, Try.ntmps41
  go_wp2_with (go_at_call 44; (with_reducible refine (rnum_any _ _ (Int.natCast_nonneg _) (by omega)).mono ?_); rintro e w1 ⟨rfl, hb1⟩; rw [Int.toNat_natCast, show numB n = allT (fun x => numB x.toNat) xs 0 by rw [allT_zero, HL.out]])
  go_loopw [3, 4] (fun s i wr => ∃ k : Nat, i = .int .i64 k ∧ k ≤ n ∧ s = strV (allT (fun x => numB x.toNat) xs k) ∧ Hid (Below w.heap.size w wr)) (fun _ i _ => n - (intOf i).toNat)
  case atStart => exact ⟨0, rfl, Nat.zero_le _, rfl, Lib.hid hb1⟩
  case round =>
    obtain ⟨k, rfl, hk, rfl, BK⟩ := hrel
    by_cases hlt : k < n
    · obtain ⟨ad, x, rfl, hb, hx, hc⟩ := reads_f HR.out hlt
      have X := Lib.hid (X0.out x (List.mem_of_getElem? hx))
      have HX := Lib.hid (allT_succ (f := (fun x => numB x.toNat)) hx)
      have hc' : wr.cell? (ad.add k) = some (.int .u64 x) := (BK.out.cell (p := ad.add k) (by rw [block_of_add]; exact Nat.lt_of_lt_of_le hb HB.out)).trans hc
      have b1 : ((allT (fun x => numB x.toNat) xs (k + 1)).length : Int) ≤ 40000000000000 := by have := allT_le (f := (fun x => numB x.toNat)) (xs := xs) (k + 1); have := HO.out; omega
      rw [HX.out, List.length_append] at b1
      clear hc hx hb
      go_wp2_with (go_at_call 44; (with_reducible refine (rnum_any x _ X.out.1 X.out.2).mono ?_); rintro e w2 ⟨rfl, hb2⟩; have B2 := Lib.hid (bel_trans BK.out hb2); clear hb2)
      go_roundw
      case rel => exact ⟨k + 1, by go_num, by omega, by rw [HX.out], B2⟩
      case measure => simp [intOf]; omega
    · obtain rfl : k = n := by omega
      go_wp2
      go_ret
      exact ⟨ret_str (allT_full (Nat.le_of_eq HL.out)), BK.out⟩
set_option maxHeartbeats 1000000 in
theorem rints_any (A : Option Addr) (n c B : Nat) (xs : List Int) (w : World) (hr : Reads w B 1 A n (xs.map (.int .i64))) (hB : B ≤ w.heap.size) (hn : n ≤ 2000000) (x0 : ∀ x ∈ xs, -9223372036854775808 ≤ x ∧ x ≤ 9223372036854775807) (ho : (allB (fun x => numB (zz x)) xs).length ≤ 40000000000000) :
    Calls Try.prog 42 #[.slice A n c] w fun e w' => e = .returned (strV (allB (fun x => numB (zz x)) xs)) ∧ Below w.heap.size w w' := by
  have HLE : xs.length = n := by have := hr.1; simpa using this
  have HR := Lib.hid hr
  have HB := Lib.hid hB
  have X0 := Lib.hid x0
  have HO := Lib.hid ho
  have HL := Lib.hid HLE
  clear hr hB x0 ho HLE
  have hw : IntKind.u64.wrap (n : Int) = (n : Int) := by rw [IntKind.wrap_u64]; omega
  have S1 := str_app
  go_enter Try.func42, Try.ntmps42
  go_wp2_with (go_at_call 44; (with_reducible refine (rnum_any _ _ (Int.natCast_nonneg _) (by omega)).mono ?_); rintro e w1 ⟨rfl, hb1⟩; rw [Int.toNat_natCast, show numB n = allT (fun x => numB (zz x)) xs 0 by rw [allT_zero, HL.out]])
  go_loopw [3, 4] (fun s i wr => ∃ k : Nat, i = .int .i64 k ∧ k ≤ n ∧ s = strV (allT (fun x => numB (zz x)) xs k) ∧ Hid (Below w.heap.size w wr)) (fun _ i _ => n - (intOf i).toNat)
  case atStart => exact ⟨0, rfl, Nat.zero_le _, rfl, Lib.hid hb1⟩
  case round =>
    obtain ⟨k, rfl, hk, rfl, BK⟩ := hrel
    by_cases hlt : k < n
    · obtain ⟨ad, x, rfl, hb, hx, hc⟩ := reads_f HR.out hlt
      have X := Lib.hid (X0.out x (List.mem_of_getElem? hx))
      have HX := Lib.hid (allT_succ (f := (fun x => numB (zz x))) hx)
      have hc' : wr.cell? (ad.add k) = some (.int .i64 x) := (BK.out.cell (p := ad.add k) (by rw [block_of_add]; exact Nat.lt_of_lt_of_le hb HB.out)).trans hc
      have b1 : ((allT (fun x => numB (zz x)) xs (k + 1)).length : Int) ≤ 40000000000000 := by have := allT_le (f := (fun x => numB (zz x))) (xs := xs) (k + 1); have := HO.out; omega
      rw [HX.out, List.length_append] at b1
      clear hc hx hb
      go_wp2_with (go_at_call 38; (with_reducible refine (rint_any x _ X.out.1 X.out.2).mono ?_); rintro e w2 ⟨rfl, hb2⟩; have B2 := Lib.hid (bel_trans BK.out hb2); clear hb2)
      go_roundw
      case rel => exact ⟨k + 1, by go_num, by omega, by rw [HX.out], B2⟩
      case measure => simp [intOf]; omega
    · obtain rfl : k = n := by omega
      go_wp2
      go_ret
      exact ⟨ret_str (allT_full (Nat.le_of_eq HL.out)), BK.out⟩
set_option maxHeartbeats 1000000 in
theorem rtexts_any (A : Option Addr) (n c B : Nat) (xs : List ByteArray) (w : World) (hr : Reads w B 1 A n (xs.map (.string))) (hB : B ≤ w.heap.size) (hn : n ≤ 2000000) (x0 : ∀ x ∈ xs, ByteArray.size x ≤ 10000000000000) (ho : (allB textB xs).length ≤ 40000000000000) :
    Calls Try.prog 43 #[.slice A n c] w fun e w' => e = .returned (strV (allB textB xs)) ∧ Below w.heap.size w w' := by
  have HLE : xs.length = n := by have := hr.1; simpa using this
  have HR := Lib.hid hr
  have HB := Lib.hid hB
  have X0 := Lib.hid x0
  have HO := Lib.hid ho
  have HL := Lib.hid HLE
  clear hr hB x0 ho HLE
  have hw : IntKind.u64.wrap (n : Int) = (n : Int) := by rw [IntKind.wrap_u64]; omega
  have S1 := str_app
  go_enter Try.func43, Try.ntmps43
  go_wp2_with (go_at_call 44; (with_reducible refine (rnum_any _ _ (Int.natCast_nonneg _) (by omega)).mono ?_); rintro e w1 ⟨rfl, hb1⟩; rw [Int.toNat_natCast, show numB n = allT textB xs 0 by rw [allT_zero, HL.out]])
  go_loopw [3, 4] (fun s i wr => ∃ k : Nat, i = .int .i64 k ∧ k ≤ n ∧ s = strV (allT textB xs k) ∧ Hid (Below w.heap.size w wr)) (fun _ i _ => n - (intOf i).toNat)
  case atStart => exact ⟨0, rfl, Nat.zero_le _, rfl, Lib.hid hb1⟩
  case round =>
    obtain ⟨k, rfl, hk, rfl, BK⟩ := hrel
    by_cases hlt : k < n
    · obtain ⟨ad, x, rfl, hb, hx, hc⟩ := reads_f HR.out hlt
      have X := Lib.hid (X0.out x (List.mem_of_getElem? hx))
      have HX := Lib.hid (allT_succ (f := textB) hx)
      have hc' : wr.cell? (ad.add k) = some (.string x) := (BK.out.cell (p := ad.add k) (by rw [block_of_add]; exact Nat.lt_of_lt_of_le hb HB.out)).trans hc
      have b1 : ((allT textB xs (k + 1)).length : Int) ≤ 40000000000000 := by have := allT_le (f := textB) (xs := xs) (k + 1); have := HO.out; omega
      rw [HX.out, List.length_append] at b1
      clear hc hx hb
      go_wp2_with (go_at_call 40; (with_reducible refine (rtext_any x _ X.out).mono ?_); rintro e w2 ⟨rfl, hb2⟩; have B2 := Lib.hid (bel_trans BK.out hb2); clear hb2)
      go_roundw
      case rel => exact ⟨k + 1, by go_num, by omega, by rw [HX.out], B2⟩
      case measure => simp [intOf]; omega
    · obtain rfl : k = n := by omega
      go_wp2
      go_ret
      exact ⟨ret_str (allT_full (Nat.le_of_eq HL.out)), BK.out⟩
end Go.Proofs.Ytijkfllolcgfhaa.Pack

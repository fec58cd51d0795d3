/- Chapter 3: PackApart, walked: it returns true, for every input. No condition. -/
import Derived.Test.YtijkfllolcgfhaaPackA
namespace Go.Proofs.Ytijkfllolcgfhaa.Pack
open Go.RowKit
set_option linter.unusedVariables false
set_option linter.unusedSimpArgs false

theorem textB_inj {s t : ByteArray} {r r' : List UInt8} (hs : s.size ≤ 1000) (ht : t.size ≤ 1000) (h : textB s ++ r = textB t ++ r') : s = t ∧ r = r' := by
  unfold textB at h
  rw [List.append_assoc, List.append_assoc] at h
  obtain ⟨h1, h2⟩ := numB_inj (by unfold U64; omega) (by unfold U64; omega) h
  have e1 : s.data.toList.length = s.size := Array.length_toList
  have e2 : t.data.toList.length = t.size := Array.length_toList
  obtain ⟨h3, h4⟩ := List.append_inj h2 (by rw [e1, e2, h1])
  exact ⟨ByteArray.ext (Array.toList_inj.1 h3), h4⟩
theorem toList_data (s : ByteArray) : s.toList = s.data.toList := by simp [ByteArray.toList_eq]
theorem beq_list {α : Type} [BEq α] [LawfulBEq α] {a b : α} (p : Prop) [Decidable p] (h : a = b ↔ p) : (a == b) = decide p := by
  rw [Bool.eq_iff_iff]
  simp [h]
theorem wrap64_inj {n m : Int} (h0 : 0 ≤ n ∧ n < 18446744073709551616) (h1 : 0 ≤ m ∧ m < 18446744073709551616) (h : wrap64 n = wrap64 m) : n = m := by unfold wrap64 at h; omega
theorem wrap64_rng (n : Int) : -9223372036854775808 ≤ wrap64 n ∧ wrap64 n ≤ 9223372036854775807 := by unfold wrap64; omega
theorem zz_inj {n m : Int} (h : zz n = zz m) : n = m := by rw [← unzz_zz n, h, unzz_zz]
theorem numB_inj' {n m : Nat} (hn : U64 n) (hm : U64 m) (h : numB n = numB m) : n = m := (numB_inj hn hm (r := []) (s := []) (by rw [List.append_nil, List.append_nil]; exact h)).1
theorem textB_len1 {s : ByteArray} (h : s.size ≤ 300) : (textB s).length ≤ 309 := by
  have := numB_len (n := s.size) (by unfold U64; omega)
  have e : s.data.toList.length = s.size := Array.length_toList
  unfold textB
  rw [List.length_append, e]
  omega
set_option maxHeartbeats 16000000 in
set_option maxRecDepth 100000 in
theorem PackApart_any (n m : Int) (s t : ByteArray) (hn : 0 ≤ n ∧ n < 18446744073709551616) (hm : 0 ≤ m ∧ m < 18446744073709551616) (hs : s.size ≤ 140737488351232) (ht : t.size ≤ 140737488351232) (w : World) :
    Calls Try.prog 3 #[.int .u64 n, .int .u64 m, .agg #[.string s, .string t]] w fun e w' => e = .returned (.bool true) ∧ Below w.heap.size w w' := by
  have B0 := Lib.hid (Blk.new w 23 #[.string s, .string t])
  have c0 : (w.alloc (.cells #[.string s, .string t] 23)).cell? ⟨w.heap.size, 0, none⟩ = some (.string s) := B0.out.cell 0
  have c1 : (w.alloc (.cells #[.string s, .string t] 23)).cell? ⟨w.heap.size, 1, none⟩ = some (.string t) := B0.out.cell 1
  have HN := Lib.hid hn
  have HM := Lib.hid hm
  have hsz1 : (s.size : Int) ≤ 140737488351232 := by omega
  have hsz2 : (t.size : Int) ≤ 140737488351232 := by omega
  clear hn hm hs ht
  by_cases hgt : 300 < s.size ∨ 300 < t.size
  · by_cases h1 : 300 < s.size
    · have q1 : decide ((300 : Int) < (s.size : Int)) = true := by simp; omega
      clear hgt h1
      go_enter Try.func3, Try.ntmps3
      go_wp2
      go_quiet (fail)
      go_wp2_with (go_at_call 10; refine (head_any _).mono ?_; rintro e w2 ⟨rfl, hb2⟩)
      go_ret
      exact ⟨rfl, bel_trans (bel_drewN (bel_alloc (Below.refl _ _) _) _) hb2⟩
    · have h2 : 300 < t.size := hgt.resolve_left h1
      have q1 : decide ((300 : Int) < (s.size : Int)) = false := by simp; omega
      have q2 : decide ((300 : Int) < (t.size : Int)) = true := by simp; omega
      clear hgt h1 h2
      go_enter Try.func3, Try.ntmps3
      go_wp2
      go_quiet (fail)
      go_wp2_with (go_at_call 10; refine (head_any _).mono ?_; rintro e w2 ⟨rfl, hb2⟩)
      go_ret
      exact ⟨rfl, bel_trans (bel_drewN (bel_alloc (Below.refl _ _) _) _) hb2⟩
  · have q1 : decide ((300 : Int) < (s.size : Int)) = false := by simp; omega
    have q2 : decide ((300 : Int) < (t.size : Int)) = false := by simp; omega
    have hs3 : s.size ≤ 300 := by omega
    have ht3 : t.size ≤ 300 := by omega
    have HS := Lib.hid hs3
    have HTT := Lib.hid ht3
    have un : U64 n.toNat := by have := HN.out; unfold U64; omega
    have um : U64 m.toNat := by have := HM.out; unfold U64; omega
    have pN := Lib.hid (show (numB n.toNat == numB m.toNat) = decide (n = m) from beq_list _ ⟨fun h => by have := numB_inj' un um h; have := HN.out; have := HM.out; omega, fun h => by rw [h]⟩)
    have pT := Lib.hid (show (textB s == textB t) = decide (s = t) from beq_list _ ⟨fun h => (textB_inj (r := []) (r' := []) (by omega) (by omega) (by rw [List.append_nil, List.append_nil]; exact h)).1, fun h => by rw [h]⟩)
    have pS := Lib.hid (show (s.toList == t.toList) = decide (s = t) from beq_list _ ⟨fun h => by rw [toList_data, toList_data] at h; exact ByteArray.ext (Array.toList_inj.1 h), fun h => by rw [h]⟩)
    have pZ := Lib.hid (show (numB (zz (wrap64 n)) == numB (zz (wrap64 m))) = decide (n = m) from beq_list _ ⟨fun h => wrap64_inj HN.out HM.out (zz_inj (numB_inj' (zz_u64 (wrap64_rng n)) (zz_u64 (wrap64_rng m)) h)), fun h => by rw [h]⟩)
    have pI := Lib.hid (show (n == m) = decide (n = m) by rw [Bool.eq_iff_iff]; simp)
    have gN := Lib.hid (show n ≠ m → begB (numB n.toNat) (numB m.toNat) = false ∧ begB (numB m.toNat) (numB n.toNat) = false from fun hne => ⟨begB_no (fun r h => by
        have := (numB_inj um un (r := []) (s := r) (by rw [List.append_nil]; exact h)).1
        have := HN.out; have := HM.out
        omega), begB_no (fun r h => by
        have := (numB_inj un um (r := []) (s := r) (by rw [List.append_nil]; exact h)).1
        have := HN.out; have := HM.out
        omega)⟩)
    have gT := Lib.hid (show s ≠ t → begB (textB s) (textB t) = false ∧ begB (textB t) (textB s) = false from fun hne => ⟨begB_no (fun r h => by
        exact hne (textB_inj (r := []) (r' := r) (by omega) (by omega) (by rw [List.append_nil]; exact h)).1.symm), begB_no (fun r h => by
        exact hne (textB_inj (r := []) (r' := r) (by omega) (by omega) (by rw [List.append_nil]; exact h)).1)⟩)
    have LN := Lib.hid (numB_len un)
    have LM := Lib.hid (numB_len um)
    have LS := Lib.hid (textB_len1 hs3)
    have LT := Lib.hid (textB_len1 ht3)
    have RN := Lib.hid (wrap64_rng n)
    have RM := Lib.hid (wrap64_rng m)
    clear hs3 ht3 un um hgt
    have KO := Lib.hid (fun W => one_any n s W HN.out.1 HN.out.2 (by have := HS.out; omega))
    have KP := Lib.hid (fun W => one_any m t W HM.out.1 HM.out.2 (by have := HTT.out; omega))
    have KI := Lib.hid (fun W => ints_two (wrap64 n) (wrap64 m) W RN.out RM.out)
    have case_true_true : n = m → s = t → Calls Try.prog 3 #[.int .u64 n, .int .u64 m, .agg #[.string s, .string t]] w fun e w' => e = .returned (.bool true) ∧ Below w.heap.size w w' := fun hnm hst => by
      have a1 := pN.out.trans (decide_eq_true hnm)
      have a2 := pT.out.trans (decide_eq_true hst)
      have a3 := pS.out.trans (decide_eq_true hst)
      have a4 := pZ.out.trans (decide_eq_true hnm)
      have a5 := pI.out.trans (decide_eq_true hnm)
      clear hnm hst
      go_enter Try.func3, Try.ntmps3
      go_wp2
      go_quiet (fail)
      go_wp2_with (first
        | (go_at_call 11; (with_reducible refine (KO.out _).mono ?_); rintro e w1 ⟨rfl, hb1⟩)
        | (go_at_call 11; (with_reducible refine (KP.out _).mono ?_); rintro e w2 ⟨rfl, hb2⟩)
        | (go_at_call 12; (with_reducible refine (KI.out _).mono ?_); rintro e w3 ⟨⟨k, rfl⟩, hb3⟩)
        | (go_at_call 13; refine (begins_any _ _ _ (by have := LN.out; have := LM.out; have := LS.out; have := LT.out; omega) (by have := LN.out; have := LM.out; have := LS.out; have := LT.out; omega)).mono ?_; rintro e w' ⟨rfl, rfl⟩)
        | (go_at_call 10; refine (head_any _).mono ?_; rintro e w4 ⟨rfl, hb4⟩))
      go_ret
      exact ⟨rfl, bel_trans (bel_trans (bel_trans (bel_trans (bel_drewN (bel_alloc (Below.refl _ _) _) _) hb1) hb2) hb3) hb4⟩
    have case_true_false : n = m → s ≠ t → Calls Try.prog 3 #[.int .u64 n, .int .u64 m, .agg #[.string s, .string t]] w fun e w' => e = .returned (.bool true) ∧ Below w.heap.size w w' := fun hnm hst => by
      have a1 := pN.out.trans (decide_eq_true hnm)
      have a2 := pT.out.trans (decide_eq_false hst)
      have a3 := pS.out.trans (decide_eq_false hst)
      have a4 := pZ.out.trans (decide_eq_true hnm)
      have a5 := pI.out.trans (decide_eq_true hnm)
      obtain ⟨b3, b4⟩ := gT.out hst
      clear hnm hst
      go_enter Try.func3, Try.ntmps3
      go_wp2
      go_quiet (fail)
      go_wp2_with (first
        | (go_at_call 11; (with_reducible refine (KO.out _).mono ?_); rintro e w1 ⟨rfl, hb1⟩)
        | (go_at_call 11; (with_reducible refine (KP.out _).mono ?_); rintro e w2 ⟨rfl, hb2⟩)
        | (go_at_call 12; (with_reducible refine (KI.out _).mono ?_); rintro e w3 ⟨⟨k, rfl⟩, hb3⟩)
        | (go_at_call 13; refine (begins_any _ _ _ (by have := LN.out; have := LM.out; have := LS.out; have := LT.out; omega) (by have := LN.out; have := LM.out; have := LS.out; have := LT.out; omega)).mono ?_; rintro e w' ⟨rfl, rfl⟩)
        | (go_at_call 10; refine (head_any _).mono ?_; rintro e w4 ⟨rfl, hb4⟩))
      go_ret
      exact ⟨rfl, bel_trans (bel_trans (bel_trans (bel_trans (bel_drewN (bel_alloc (Below.refl _ _) _) _) hb1) hb2) hb3) hb4⟩
    have case_false_true : n ≠ m → s = t → Calls Try.prog 3 #[.int .u64 n, .int .u64 m, .agg #[.string s, .string t]] w fun e w' => e = .returned (.bool true) ∧ Below w.heap.size w w' := fun hnm hst => by
      have a1 := pN.out.trans (decide_eq_false hnm)
      have a2 := pT.out.trans (decide_eq_true hst)
      have a3 := pS.out.trans (decide_eq_true hst)
      have a4 := pZ.out.trans (decide_eq_false hnm)
      have a5 := pI.out.trans (decide_eq_false hnm)
      obtain ⟨b1, b2⟩ := gN.out hnm
      clear hnm hst
      go_enter Try.func3, Try.ntmps3
      go_wp2
      go_quiet (fail)
      go_wp2_with (first
        | (go_at_call 11; (with_reducible refine (KO.out _).mono ?_); rintro e w1 ⟨rfl, hb1⟩)
        | (go_at_call 11; (with_reducible refine (KP.out _).mono ?_); rintro e w2 ⟨rfl, hb2⟩)
        | (go_at_call 12; (with_reducible refine (KI.out _).mono ?_); rintro e w3 ⟨⟨k, rfl⟩, hb3⟩)
        | (go_at_call 13; refine (begins_any _ _ _ (by have := LN.out; have := LM.out; have := LS.out; have := LT.out; omega) (by have := LN.out; have := LM.out; have := LS.out; have := LT.out; omega)).mono ?_; rintro e w' ⟨rfl, rfl⟩)
        | (go_at_call 10; refine (head_any _).mono ?_; rintro e w4 ⟨rfl, hb4⟩))
      go_ret
      exact ⟨rfl, bel_trans (bel_trans (bel_trans (bel_trans (bel_drewN (bel_alloc (Below.refl _ _) _) _) hb1) hb2) hb3) hb4⟩
    have case_false_false : n ≠ m → s ≠ t → Calls Try.prog 3 #[.int .u64 n, .int .u64 m, .agg #[.string s, .string t]] w fun e w' => e = .returned (.bool true) ∧ Below w.heap.size w w' := fun hnm hst => by
      have a1 := pN.out.trans (decide_eq_false hnm)
      have a2 := pT.out.trans (decide_eq_false hst)
      have a3 := pS.out.trans (decide_eq_false hst)
      have a4 := pZ.out.trans (decide_eq_false hnm)
      have a5 := pI.out.trans (decide_eq_false hnm)
      obtain ⟨b1, b2⟩ := gN.out hnm
      obtain ⟨b3, b4⟩ := gT.out hst
      clear hnm hst
      go_enter Try.func3, Try.ntmps3
      go_wp2
      go_quiet (fail)
      go_wp2_with (first
        | (go_at_call 11; (with_reducible refine (KO.out _).mono ?_); rintro e w1 ⟨rfl, hb1⟩)
        | (go_at_call 11; (with_reducible refine (KP.out _).mono ?_); rintro e w2 ⟨rfl, hb2⟩)
        | (go_at_call 12; (with_reducible refine (KI.out _).mono ?_); rintro e w3 ⟨⟨k, rfl⟩, hb3⟩)
        | (go_at_call 13; refine (begins_any _ _ _ (by have := LN.out; have := LM.out; have := LS.out; have := LT.out; omega) (by have := LN.out; have := LM.out; have := LS.out; have := LT.out; omega)).mono ?_; rintro e w' ⟨rfl, rfl⟩)
        | (go_at_call 10; refine (head_any _).mono ?_; rintro e w4 ⟨rfl, hb4⟩))
      go_ret
      exact ⟨rfl, bel_trans (bel_trans (bel_trans (bel_trans (bel_drewN (bel_alloc (Below.refl _ _) _) _) hb1) hb2) hb3) hb4⟩
    by_cases hnm : n = m <;> by_cases hst : s = t
    · exact case_true_true hnm hst
    · exact case_true_false hnm hst
    · exact case_false_true hnm hst
    · exact case_false_false hnm hst
end Go.Proofs.Ytijkfllolcgfhaa.Pack

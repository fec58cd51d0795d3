/- Chapter 3: integers, truths, texts written; the bytes told, walked. No condition but bounds. -/
import Derived.Test.YtijkfllolcgfhaaPackWn
import Derived.Laws.Bits64
import Derived.Laws.BitsAllLaws
import Derived.IntWalk
namespace Go.Proofs.Ytijkfllolcgfhaa.Pack
open Go.RowKit
set_option linter.unusedVariables false
set_option linter.unusedSimpArgs false

theorem xor_ones (a : Nat) (ha : a < 18446744073709551616) : bits .xor .u64 (a : Int) 18446744073709551615 = ((18446744073709551615 - a : Nat) : Int) := by
  show IntKind.u64.wrap ((BitVec.ofInt 64 (a : Int) ^^^ BitVec.ofInt 64 18446744073709551615).toNat : Int) = _
  have h1 : BitVec.ofInt 64 18446744073709551615 = BitVec.allOnes 64 := by decide
  have h2 : (BitVec.ofInt 64 (a : Int)).toNat = a := by
    rw [BitVec.ofInt_natCast, BitVec.toNat_ofNat]; exact Nat.mod_eq_of_lt (by omega)
  rw [h1, BitVec.xor_allOnes, BitVec.toNat_not, h2, IntKind.wrap_u64]
  omega
theorem wrap64_in {x : Int} (h : -9223372036854775808 ≤ x ∧ x ≤ 9223372036854775807) : wrap64 x = x := by unfold wrap64; omega
theorem xor_zz (m : Int) (h0 : -9223372036854775808 ≤ m) (hm : m ≤ 9223372036854775807) :
    bits BinOp.xor IntKind.u64 (IntKind.u64.wrap (wrap64 (m * 2))) (IntKind.u64.wrap (m / 9223372036854775808)) = (zz m : Int) := by
  rw [IntKind.wrap_u64, IntKind.wrap_u64]
  have e1 : wrap64 (m * 2) % 18446744073709551616 = (m * 2) % 18446744073709551616 := by unfold wrap64; omega
  rw [e1]
  by_cases hp : 0 ≤ m
  · obtain ⟨n, rfl⟩ := Int.eq_ofNat_of_zero_le hp
    rw [show (n : Int) / 9223372036854775808 % 18446744073709551616 = ((0 : Nat) : Int) by omega, show (n : Int) * 2 % 18446744073709551616 = ((2 * n : Nat) : Int) by omega, bits_xor_u64_nat _ _ (by omega) (by omega), Nat.xor_zero]
    unfold zz
    rw [if_pos hp, Int.toNat_natCast]
  · rw [show m / 9223372036854775808 % 18446744073709551616 = 18446744073709551615 by omega]
    obtain ⟨n, hn⟩ := Int.eq_ofNat_of_zero_le (show 0 ≤ m * 2 % 18446744073709551616 by omega)
    rw [hn, xor_ones n (by omega)]
    unfold zz
    rw [if_neg hp]
    omega
theorem zz_lt {m : Int} (h0 : -9223372036854775808 ≤ m) (hm : m ≤ 9223372036854775807) : ((zz m : Nat) : Int) < 18446744073709551616 := by
  have := zz_u64 (n := m) ⟨h0, hm⟩
  unfold U64 at this
  omega
set_option maxHeartbeats 1000000 in
theorem int_any (g : Nat) (r : Option Nat) (p : Option Addr) (o : Option (List UInt8)) (m : Int) (w : World) (hs : WrS w g r p o) (h0 : -9223372036854775808 ≤ m) (hm : m ≤ 9223372036854775807) (ho : ∀ l, o = some l → l.length ≤ 60000000000000) :
    Calls Try.prog 22 #[.pointer p, .int .i64 m] w (WPost w g r p (o.map (· ++ numB (zz m)))) := by
  have HS := Lib.hid hs
  have HM := Lib.hid hm
  have H0 := Lib.hid h0
  have HO := Lib.hid ho
  clear hs hm ho h0
  have XZ := Lib.hid (xor_zz m H0.out HM.out)
  have ZL := Lib.hid (zz_lt H0.out HM.out)
  go_enter Try.func22, Try.ntmps22
  go_wp2_with (go_at_call 21; rw [XZ.out]; (with_reducible refine (num_any g r p o _ _ HS.out (Int.natCast_nonneg _) ZL.out HO.out).mono ?_); rintro e w1 ⟨rfl, r1, hs1, hf1⟩)
  go_end0
  exact ⟨rfl, r1, by rw [Int.toNat_natCast] at hs1; exact hs1, by simpa using hf1⟩
theorem truth_any (g : Nat) (r : Option Nat) (p : Option Addr) (o : Option (List UInt8)) (b : Bool) (w : World) (hs : WrS w g r p o) (ho : ∀ l, o = some l → l.length ≤ 60000000000000) :
    Calls Try.prog 37 #[.pointer p, .bool b] w (WPost w g r p (o.map (· ++ numB (cond b 1 0)))) := by
  have HS := Lib.hid hs
  have HO := Lib.hid ho
  clear hs ho
  cases b
  all_goals
    go_enter Try.func37, Try.ntmps37
    go_wp2_with (go_at_call 21; (with_reducible refine (num_any g r p o _ _ HS.out (by decide) (by decide) HO.out).mono ?_); rintro e w1 ⟨rfl, r1, hs1, hf1⟩)
    go_end0
    exact ⟨rfl, r1, hs1, by simpa using hf1⟩
theorem below_bytes (w : World) (e : TypeId) (s : ByteArray) : Below w.heap.size w (Lib.bytesWorld w e s) :=
  ⟨rfl, rfl, rfl, by rw [Lib.bytesWorld_size]; omega, fun k hk => Lib.bytesWorld_at_old w e s k hk⟩
theorem reads_bytes (w : World) (e : TypeId) (s : ByteArray) : Reads (Lib.bytesWorld w e s) (Lib.bytesWorld w e s).heap.size 1 (some ⟨w.heap.size, 0, none⟩) s.size (s.data.toList.map byteV) := by
  have hz : s.data.toList.length = s.size := Array.length_toList
  refine ⟨by rw [List.length_map, hz, Nat.mul_one], fun hn => ⟨_, rfl, by rw [Lib.bytesWorld_size]; exact Nat.lt_succ_self _, fun j u hu => ?_⟩⟩
  have hj : j < s.size := by
    have := (List.getElem?_eq_some_iff.1 hu).1
    rw [List.length_map, hz] at this
    exact this
  have ha : (⟨w.heap.size, 0, none⟩ : Addr).add j = ⟨w.heap.size, j, none⟩ := by
    unfold Addr.add
    split
    · subst_vars; rfl
    · simp
  rw [ha, Lib.bytesWorld_cell w e s j hj, ← hu, List.getElem?_map, List.getElem?_eq_getElem (by omega)]
  simp [List.getD, hz, hj]
theorem nums_back (l : List UInt8) : ((l.map fun b => (b.toNat : Int)).map fun n => UInt8.ofNat n.toNat) = l := by
  induction l with
  | nil => rfl
  | cons x l ih => rw [List.map_cons, List.map_cons, ih, Int.toNat_natCast, UInt8.ofNat_toNat]
theorem bytes_run (w : World) (A : Option Addr) (c : Nat) (l : List UInt8) {base : Nat} (h : w.ownsRow base 5 1 (.slice A l.length c) l.length (l.map byteV)) :
    (convert 49 9 (.slice A l.length c)).run Try.prog w = .ok (.string ⟨l.toArray⟩) w := by
  rcases h.2 with ⟨hv, hn⟩ | ⟨g, cap, cur, hv, _, _, _⟩
  · have hl : l = [] := List.eq_nil_of_length_eq_zero hn
    subst hl
    obtain ⟨h1, h2, h3⟩ := Value.slice.inj hv
    subst h1 h3
    exact run_convert_bytes_nil w _ 5 Try.underlying49 Try.underlying5 _ _ _ Try.underlying9
  · obtain ⟨h1, h2, h3⟩ := Value.slice.inj hv
    subst h1 h3
    have hlen : (l.map fun b => (b.toNat : Int)).length = l.length := by simp
    have key := run_convert_bytes_arg (P := Try.prog) w 49 5 Try.underlying49 Try.underlying5 g 0 l.length c (l.map fun b => (b.toNat : Int)) hlen (fun i hi => by
      rw [Nat.zero_add, h.cellAt i (by omega), List.getElem?_map, List.getElem?_eq_getElem hi]
      simp [byteV, List.getD, hi]) _ Try.underlying9
    rw [key]
    have : strOfNums (l.map fun b => (b.toNat : Int)) = ⟨l.toArray⟩ := by
      show (⟨((l.map fun b => (b.toNat : Int)).map fun n => UInt8.ofNat n.toNat).toArray⟩ : ByteArray) = _
      rw [nums_back]
    rw [this]
/-- A text's bytes. -/
def textB (s : ByteArray) : List UInt8 := numB s.size ++ s.data.toList
set_option maxHeartbeats 1000000 in
theorem text_any (g : Nat) (r : Option Nat) (p : Option Addr) (o : Option (List UInt8)) (s : ByteArray) (w : World) (hs : WrS w g r p o) (hz : s.size ≤ 10000000000000) (ho : ∀ l, o = some l → l.length ≤ 50000000000000) :
    Calls Try.prog 23 #[.pointer p, .string s] w (WPost w g r p (o.map (· ++ textB s))) := by
  have HS := Lib.hid hs
  have HO := Lib.hid ho
  have HZ := Lib.hid hz
  clear hs ho hz
  have hw : IntKind.u64.wrap (s.size : Int) = (s.size : Int) := by rw [IntKind.wrap_u64]; have := HZ.out; omega
  have HC := fun w => Lib.run_convert_string_bytes (P := Try.prog) w 9 49 5 s Try.underlying9 Try.underlying49 Try.underlying5
  go_enter Try.func23, Try.ntmps23
  go_wp2_with (first
    | (go_at_call 21; (with_reducible refine (num_any g r p o _ _ HS.out (Int.natCast_nonneg _) (by have := HZ.out; omega) (fun l e => by have := HO.out l e; omega)).mono ?_); rintro e w1 ⟨rfl, r1, hs1, hf1⟩; have S1 := Lib.hid hs1; have F1 := Lib.hid hf1; clear hs1 hf1)
    | (go_at_call 49; (with_reducible refine (put_any g r1 p _ _ s.size _ _ s.data.toList _ (S1.out.below (below_bytes _ _ _)) (reads_bytes _ _ _) (by have := HZ.out; omega) (fun l e => by obtain ⟨l0, h1, rfl⟩ := Option.map_eq_some_iff.1 e; have := HO.out l0 h1; have := numB_len (n := s.size) (by have := HZ.out; unfold U64; omega); simp only [Int.toNat_natCast, List.length_append]; omega)).mono ?_); rintro e w2 ⟨rfl, r2, hs2, hf2⟩))
  go_end0
  refine ⟨rfl, r2, ?_, (show WF _ _ _ _ _ _ from by simpa using F1.out).trans ((WF.of_below (below_bytes _ _ _)).trans (by simpa using hf2))⟩
  simpa [Option.map_map, Function.comp_def, textB] using hs2
theorem bytes_any (g : Nat) (r : Option Nat) (p : Option Addr) (o : Option (List UInt8)) (w : World) (hs : WrS w g r p o) :
    Calls Try.prog 17 #[.pointer p] w fun e w' => e = .returned (.string ⟨(o.getD []).toArray⟩) ∧ w = w' := by
  cases o with
  | none =>
    obtain ⟨rfl, rfl | ⟨rfl, hb⟩⟩ := hs
    · go_enter Try.func17, Try.ntmps17
      go_wp2_with (go_at_call 45; refine (none_nil _).mono ?_; rintro e w' ⟨rfl, rfl⟩)
      go_ret
      exact ⟨rfl, rfl⟩
    · have HB := Lib.hid hb
      clear hb
      go_enter Try.func17, Try.ntmps17
      go_wp2_with (go_at_call 45; refine (none_dead _ _ _ HB.out).mono ?_; rintro e w' ⟨rfl, rfl⟩)
      go_ret
      exact ⟨rfl, rfl⟩
  | some l =>
    obtain ⟨rfl, v, hb, hown, hv⟩ := hs
    obtain ⟨A0, c0, rfl⟩ := own_shape hown
    have HB := Lib.hid hb
    have HO := Lib.hid hown
    have z0 : w.cell? ⟨g, 0, none⟩ = some (.slice A0 l.length c0) := hb.cell 0
    clear hb hown hv
    have HC := bytes_run w _ _ l HO.out
    go_enter Try.func17, Try.ntmps17
    go_wp2_with (go_at_call 45; refine (none_live _ _ _ HB.out).mono ?_; rintro e w' ⟨rfl, rfl⟩)
    go_ret
    exact ⟨rfl, rfl⟩
end Go.Proofs.Ytijkfllolcgfhaa.Pack

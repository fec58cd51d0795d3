/- Chapter 3: the reference's bytes, walked. No condition but bounds. -/
import Derived.Test.YtijkfllolcgfhaaPackWa
namespace Go.Proofs.Ytijkfllolcgfhaa.Pack
open Go.RowKit
set_option linter.unusedVariables false
set_option linter.unusedSimpArgs false

/-- Bytes as a string's value. -/
abbrev strV (l : List UInt8) : Value := .string ⟨l.toArray⟩
theorem conv1 (W : World) (x : Int) : (convert 49 9 (.slice (some ⟨W.heap.size, 0, none⟩) 1 1)).run Try.prog (W.alloc (.cells #[.int .u8 x] 5)) = .ok (strV [UInt8.ofNat x.toNat]) (W.alloc (.cells #[.int .u8 x] 5)) := by
  have key := run_convert_bytes_arg (P := Try.prog) (W.alloc (.cells #[.int .u8 x] 5)) 49 5 Try.underlying49 Try.underlying5 W.heap.size 0 1 1 [x] rfl (fun i hi => by
    obtain rfl : i = 0 := by omega
    exact (Blk.new W _ _).cell 0) _ Try.underlying9
  exact key
theorem ret_str {a b : List UInt8} (h : a = b) : Ending.returned (strV a) = .returned (strV b) := by rw [h]
theorem str_app (a b : List UInt8) : (⟨a.toArray⟩ : ByteArray) ++ ⟨b.toArray⟩ = ⟨(a ++ b).toArray⟩ := by
  apply ByteArray.ext
  simp
theorem u8_mod (x : Int) : (UInt8.ofNat (x % 256).toNat) = UInt8.ofNat (x % 256).toNat := rfl
theorem ofNat_mod {q : Int} (h : 0 ≤ q) : UInt8.ofNat (q % 256).toNat = UInt8.ofNat q.toNat := by
  rw [← UInt8.toNat_inj]
  simp [UInt8.toNat_ofNat']
  omega
set_option maxHeartbeats 1000000 in
theorem rnum_any (m : Int) (w : World) (h0 : 0 ≤ m) (hm : m < 18446744073709551616) :
    Calls Try.prog 44 #[.int .u64 m] w fun e w' => e = .returned (strV (numB m.toNat)) ∧ Below w.heap.size w w' := by
  have HM := Lib.hid hm
  have HU := Lib.hid (show U64 m.toNat by unfold U64; omega)
  have H8 := Lib.hid (be_len HU.out)
  clear hm
  have C1 := conv1
  by_cases hlt : m < 248
  · have HW := Lib.hid (bel_alloc (Below.refl w.heap.size w) (.cells #[.int .u8 m] 5))
    go_enter Try.func44, Try.ntmps44
    go_wp2_with (fail)
    go_ret
    exact ⟨ret_str (numB_small (by omega)).symm, HW.out⟩
  · go_enter Try.func44, Try.ntmps44
    go_wp2_with (fail)
    go_loopw [0, 3] (fun n s wr => ∃ (q : Int) (l : List UInt8), n = .int .u64 q ∧ 0 ≤ q ∧ q ≤ m ∧ s = .string ⟨l.toArray⟩ ∧ l.length ≤ 8 ∧ Hid (be q.toNat ++ l = be m.toNat) ∧ Hid (Below w.heap.size w wr)) (fun n _ _ => (intOf n).toNat)
    case atStart => exact ⟨m, [], rfl, h0, Int.le_refl _, rfl, by simp, Lib.hid (by simp), Lib.hid (Below.refl _ _)⟩
    case round =>
      obtain ⟨q, l, rfl, q0, qm, rfl, l8, HE, HB⟩ := hrel
      by_cases hz : 0 < q
      · have e1 : IntKind.u64.wrap (q.tdiv 256) = q / 256 := by rw [IntKind.wrap_u64, Int.tdiv_eq_ediv_of_nonneg q0]; have := HM.out; omega
        go_wp2_with (fail)
        have key : be (q / 256).toNat ++ ([UInt8.ofNat (q % 256).toNat] ++ l) = be m.toNat := by
          rw [← HE.out, be_pos (by have := HM.out; unfold U64; omega) (show 0 < q.toNat by omega), ofNat_mod q0, show (q / 256).toNat = q.toNat / 256 by omega, List.append_assoc]
        go_roundw
        case rel => exact ⟨q / 256, [UInt8.ofNat (q % 256).toNat] ++ l, rfl, by omega, by omega, by rw [← str_app], by have := congrArg List.length key; have := H8.out; simp only [List.length_append] at *; omega, Lib.hid key, Lib.hid (bel_alloc HB.out _)⟩
        case measure => simp [intOf]; omega
      · obtain rfl : q = 0 := by omega
        have e2 : l = be m.toNat := by have := HE.out; simpa [be_zero] using this
        have e3 := Lib.hid e2
        clear e2
        have HW := fun o => Lib.hid (bel_alloc HB.out o)
        have S1 := str_app
        go_wp2_with (fail)
        go_ret
        refine ⟨?_, (HW _).out⟩
        refine ret_str ?_
        rw [numB_great (by omega), ← e3.out, UInt8.ofNat_add]
        rfl
theorem info_str : True := trivial
end Go.Proofs.Ytijkfllolcgfhaa.Pack

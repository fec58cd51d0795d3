/- Chapter 2: the bytes of a number, by the reference, walked. -/
import Derived.Test.YtbafdijklcoeoaaDoorUtfD
import Derived.Lib.RuneBytes
namespace Go.Proofs.YtbafdijklcoeoaaDoor.Utf
open Go.RowKit
set_option linter.unusedVariables false
set_option linter.unusedSimpArgs false

abbrev strV (l : List UInt8) : Value := .string ⟨l.toArray⟩
theorem convL (W : World) (xs : List Int) (cs : Array Value) (n : Nat) (hc : cs = (xs.map (Value.int .u8)).toArray) (hn : xs.length = n) (h0 : 0 < n) : (convert 35 9 (.slice (some ⟨W.heap.size, 0, none⟩) n n)).run Tryd.prog (W.alloc (.cells cs 5)) = .ok (strV (xs.map fun x => UInt8.ofNat x.toNat)) (W.alloc (.cells cs 5)) := by
  subst hc
  exact run_convert_bytes_arg (P := Tryd.prog) (W.alloc (.cells (xs.map (Value.int .u8)).toArray 5)) 35 5 Tryd.underlying35 Tryd.underlying5 W.heap.size 0 n n xs hn (fun i hi => by
    have := (Blk.new W 5 (xs.map (Value.int .u8)).toArray).cell i
    rw [Nat.zero_add]
    rw [this]
    simp
    rw [List.getElem?_eq_getElem (by omega)]
    rfl) _ Tryd.underlying9
/-- The bytes of a number. -/
def oneL (r : Int) : List UInt8 := (Lib.encodeRuneZ r).map fun x => UInt8.ofNat x.toNat
theorem ret_strV {a b : List UInt8} (h : a = b) : Ending.returned (strV a) = .returned (strV b) := by rw [h]
theorem u8_in {x : Int} (h : 0 ≤ x ∧ x ≤ 255) : IntKind.u8.wrap x = x := by
  simp only [IntKind.wrap, IntKind.bits, IntKind.signed]
  simp
  omega
theorem pointB_iff (r : Int) : pointB r = true ↔ (0 ≤ r ∧ r ≤ 1114111 ∧ (r < 55296 ∨ 57343 < r)) := by
  unfold pointB
  simp
  omega
set_option maxHeartbeats 4000000 in
set_option maxRecDepth 20000 in
theorem one_good (r : Int) (w : World) (h : 0 ≤ r ∧ r ≤ 1114111 ∧ (r < 55296 ∨ 57343 < r)) :
    Calls Tryd.prog 25 #[.int .i32 r] w fun e w' => e = .returned (strV (oneL r)) ∧ Below w.heap.size w w' := by
  have HP := Lib.hid (show ∀ W, Calls Tryd.prog 18 #[.int .i32 r] W fun e w' => e = .returned (.bool true) ∧ W = w' from fun W => by have := Point_any r W (by omega); rwa [(pointB_iff r).2 h] at this)
  have C1 := fun (W : World) (a : Int) => convL W [a] #[.int .u8 a] 1 rfl rfl (by omega)
  by_cases g1 : r < 128
  · have q1 : decide (r < 128) = true := decide_eq_true g1
    have v1 : IntKind.u8.wrap r = r := u8_in (by omega)
    have HO := Lib.hid (show oneL r = [UInt8.ofNat r.toNat] by unfold oneL Lib.encodeRuneZ; rw [if_pos (by omega)]; rfl)
    have HB := Lib.hid (bel_alloc (Below.refl w.heap.size w) (.cells #[.int .u8 r] 5))
    clear h g1
    go_enter Tryd.func25, Tryd.ntmps25
    go_wp2_with (go_at_call 18; (with_reducible refine (HP.out _).mono ?_); rintro e w' ⟨rfl, rfl⟩)
    go_ret
    exact ⟨ret_strV HO.out.symm, HB.out⟩
  have q1 : decide (r < 128) = false := decide_eq_false g1
  by_cases g2 : r < 2048
  · have q2 : decide (r < 2048) = true := decide_eq_true g2
    obtain ⟨a, ha⟩ : ∃ a, r / 64 = a := ⟨_, rfl⟩
    obtain ⟨b, hb⟩ : ∃ b, r % 64 = b := ⟨_, rfl⟩
    have t1 : IntKind.i32.wrap (r.tdiv 64) = a := by rw [Int.tdiv_eq_ediv_of_nonneg (by omega), ha]; exact wrap32_in (by omega)
    have t2 : IntKind.i32.wrap (192 + a) = 192 + a := wrap32_in (by omega)
    have t3 : IntKind.u8.wrap (192 + a) = 192 + a := u8_in (by omega)
    have t4 : r.tmod 64 = b := by rw [Int.tmod_eq_emod_of_nonneg (by omega), hb]
    have t5 : IntKind.i32.wrap (128 + b) = 128 + b := wrap32_in (by omega)
    have t6 : IntKind.u8.wrap (128 + b) = 128 + b := u8_in (by omega)
    have C2 := convL w [192 + a, 128 + b] #[.int .u8 (192 + a), .int .u8 (128 + b)] 2 rfl rfl (by omega)
    have HO := Lib.hid (show oneL r = [192 + a, 128 + b].map (fun x => UInt8.ofNat x.toNat) by unfold oneL Lib.encodeRuneZ; rw [if_neg (by omega), if_pos (by omega), ha, hb])
    have HB := Lib.hid (bel_alloc (Below.refl w.heap.size w) (.cells #[.int .u8 (192 + a), .int .u8 (128 + b)] 5))
    clear h g1 g2 ha hb
    go_enter Tryd.func25, Tryd.ntmps25
    go_wp2_with (go_at_call 18; (with_reducible refine (HP.out _).mono ?_); rintro e w' ⟨rfl, rfl⟩)
    go_ret
    exact ⟨ret_strV HO.out.symm, HB.out⟩
  have q2 : decide (r < 2048) = false := decide_eq_false g2
  by_cases g3 : r < 65536
  · have q3 : decide (r < 65536) = true := decide_eq_true g3
    obtain ⟨a, ha⟩ : ∃ x, r / 4096 = x := ⟨_, rfl⟩
    obtain ⟨a2, ha2⟩ : ∃ x, r / 64 = x := ⟨_, rfl⟩
    obtain ⟨c, hc⟩ : ∃ x, a2 % 64 = x := ⟨_, rfl⟩
    obtain ⟨b, hb⟩ : ∃ x, r % 64 = x := ⟨_, rfl⟩
    have ta : IntKind.i32.wrap (r.tdiv 4096) = a := by rw [Int.tdiv_eq_ediv_of_nonneg (by omega), ha]; exact wrap32_in (by omega)
    have ta2 : IntKind.i32.wrap (r.tdiv 64) = a2 := by rw [Int.tdiv_eq_ediv_of_nonneg (by omega), ha2]; exact wrap32_in (by omega)
    have tc : a2.tmod 64 = c := by rw [Int.tmod_eq_emod_of_nonneg (by omega), hc]
    have tb : r.tmod 64 = b := by rw [Int.tmod_eq_emod_of_nonneg (by omega), hb]
    have ua : IntKind.i32.wrap (224 + a) = 224 + a := wrap32_in (by omega)
    have va : IntKind.u8.wrap (224 + a) = 224 + a := u8_in (by omega)
    have uc : IntKind.i32.wrap (128 + c) = 128 + c := wrap32_in (by omega)
    have vc : IntKind.u8.wrap (128 + c) = 128 + c := u8_in (by omega)
    have ub : IntKind.i32.wrap (128 + b) = 128 + b := wrap32_in (by omega)
    have vb : IntKind.u8.wrap (128 + b) = 128 + b := u8_in (by omega)
    have C2 := convL w [224 + a, 128 + c, 128 + b] #[.int .u8 (224 + a), .int .u8 (128 + c), .int .u8 (128 + b)] 3 rfl rfl (by omega)
    have HO := Lib.hid (show oneL r = [224 + a, 128 + c, 128 + b].map (fun x => UInt8.ofNat x.toNat) by unfold oneL Lib.encodeRuneZ; rw [if_neg (by omega), if_neg (by omega), if_pos (by omega)]; simp only [ha, ha2, hc, hb])
    have HB := Lib.hid (bel_alloc (Below.refl w.heap.size w) (.cells #[.int .u8 (224 + a), .int .u8 (128 + c), .int .u8 (128 + b)] 5))
    clear h g1 g2 g3 ha ha2 hc hb
    go_enter Tryd.func25, Tryd.ntmps25
    go_wp2_with (go_at_call 18; (with_reducible refine (HP.out _).mono ?_); rintro e w' ⟨rfl, rfl⟩)
    go_ret
    exact ⟨ret_strV HO.out.symm, HB.out⟩
  · have q3 : decide (r < 65536) = false := decide_eq_false g3
    obtain ⟨a, ha⟩ : ∃ x, r / 262144 = x := ⟨_, rfl⟩
    obtain ⟨a1, ha1⟩ : ∃ x, r / 4096 = x := ⟨_, rfl⟩
    obtain ⟨a2, ha2⟩ : ∃ x, r / 64 = x := ⟨_, rfl⟩
    obtain ⟨d, hd⟩ : ∃ x, a1 % 64 = x := ⟨_, rfl⟩
    obtain ⟨c, hc⟩ : ∃ x, a2 % 64 = x := ⟨_, rfl⟩
    obtain ⟨b, hb⟩ : ∃ x, r % 64 = x := ⟨_, rfl⟩
    have ta : IntKind.i32.wrap (r.tdiv 262144) = a := by rw [Int.tdiv_eq_ediv_of_nonneg (by omega), ha]; exact wrap32_in (by omega)
    have ta1 : IntKind.i32.wrap (r.tdiv 4096) = a1 := by rw [Int.tdiv_eq_ediv_of_nonneg (by omega), ha1]; exact wrap32_in (by omega)
    have ta2 : IntKind.i32.wrap (r.tdiv 64) = a2 := by rw [Int.tdiv_eq_ediv_of_nonneg (by omega), ha2]; exact wrap32_in (by omega)
    have td : a1.tmod 64 = d := by rw [Int.tmod_eq_emod_of_nonneg (by omega), hd]
    have tc : a2.tmod 64 = c := by rw [Int.tmod_eq_emod_of_nonneg (by omega), hc]
    have tb : r.tmod 64 = b := by rw [Int.tmod_eq_emod_of_nonneg (by omega), hb]
    have ua : IntKind.i32.wrap (240 + a) = 240 + a := wrap32_in (by omega)
    have va : IntKind.u8.wrap (240 + a) = 240 + a := u8_in (by omega)
    have ud : IntKind.i32.wrap (128 + d) = 128 + d := wrap32_in (by omega)
    have vd : IntKind.u8.wrap (128 + d) = 128 + d := u8_in (by omega)
    have uc : IntKind.i32.wrap (128 + c) = 128 + c := wrap32_in (by omega)
    have vc : IntKind.u8.wrap (128 + c) = 128 + c := u8_in (by omega)
    have ub : IntKind.i32.wrap (128 + b) = 128 + b := wrap32_in (by omega)
    have vb : IntKind.u8.wrap (128 + b) = 128 + b := u8_in (by omega)
    have C2 := convL w [240 + a, 128 + d, 128 + c, 128 + b] #[.int .u8 (240 + a), .int .u8 (128 + d), .int .u8 (128 + c), .int .u8 (128 + b)] 4 rfl rfl (by omega)
    have HO := Lib.hid (show oneL r = [240 + a, 128 + d, 128 + c, 128 + b].map (fun x => UInt8.ofNat x.toNat) by unfold oneL Lib.encodeRuneZ; rw [if_neg (by omega), if_neg (by omega), if_neg (by omega), if_pos (by omega)]; simp only [ha, ha1, ha2, hd, hc, hb])
    have HB := Lib.hid (bel_alloc (Below.refl w.heap.size w) (.cells #[.int .u8 (240 + a), .int .u8 (128 + d), .int .u8 (128 + c), .int .u8 (128 + b)] 5))
    clear h g1 g2 g3 ha ha1 ha2 hd hc hb
    go_enter Tryd.func25, Tryd.ntmps25
    go_wp2_with (go_at_call 18; (with_reducible refine (HP.out _).mono ?_); rintro e w' ⟨rfl, rfl⟩)
    go_ret
    exact ⟨ret_strV HO.out.symm, HB.out⟩
theorem one_any (r : Int) (w : World) (hr : -2147483648 ≤ r ∧ r ≤ 2147483647) :
    Calls Tryd.prog 25 #[.int .i32 r] w fun e w' => e = .returned (strV (oneL r)) ∧ Below w.heap.size w w' := by
  by_cases h : 0 ≤ r ∧ r ≤ 1114111 ∧ (r < 55296 ∨ 57343 < r)
  · exact one_good r w h
  · have HP := Lib.hid (show ∀ W, Calls Tryd.prog 18 #[.int .i32 r] W fun e w' => e = .returned (.bool false) ∧ W = w' from fun W => by
      have := Point_any r W hr
      have e : pointB r = false := by
        cases hp : pointB r with
        | false => rfl
        | true => exact absurd ((pointB_iff r).1 hp) h
      rwa [e] at this)
    have C2 := convL w [239, 191, 189] #[.int .u8 239, .int .u8 191, .int .u8 189] 3 rfl rfl (by omega)
    have HO := Lib.hid (show oneL r = [239, 191, 189].map (fun x : Int => UInt8.ofNat x.toNat) by unfold oneL Lib.encodeRuneZ; rw [if_neg (by omega), if_neg (by omega), if_neg (by omega), if_neg (by omega)])
    have HB := Lib.hid (bel_alloc (Below.refl w.heap.size w) (.cells #[.int .u8 239, .int .u8 191, .int .u8 189] 5))
    clear h hr
    go_enter Tryd.func25, Tryd.ntmps25
    go_wp2_with (go_at_call 18; (with_reducible refine (HP.out _).mono ?_); rintro e w' ⟨rfl, rfl⟩)
    go_ret
    exact ⟨ret_strV HO.out.symm, HB.out⟩
end Go.Proofs.YtbafdijklcoeoaaDoor.Utf

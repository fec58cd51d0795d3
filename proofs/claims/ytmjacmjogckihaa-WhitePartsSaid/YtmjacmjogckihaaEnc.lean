/- The bytes of numbers, by the reference and by a strings.Builder (chapter 2's texts E F G H U, without what decodes). No condition but bounds. -/
import Derived.Test.YtmjacmjogckihaaChecked
import Derived.Test.YtmjacmjogckihaaShelf
import Derived.Test.YtmjacmjogckihaaOpen
import Derived.Test.YtmjacmjogckihaaMore
import Derived.Lib.RuneBytes
import Derived.Shelf.Strings.Builder1
namespace Go.Proofs.Ytmjacmjogckihaa.Utf
open Go.RowKit
set_option linter.unusedVariables false
set_option linter.unusedSimpArgs false
theorem wrap32_in {x : Int} (h : -2147483648 ≤ x ∧ x ≤ 2147483647) : IntKind.i32.wrap x = x := IntWalk.i32_in _ h
/-- Is a number a code point? -/
def pointB (r : Int) : Bool := decide (0 ≤ r) && decide (r ≤ 1114111) && (decide (r < 55296) || decide (57343 < r))
theorem Point_any (r : Int) (w : World) (h : -2147483648 ≤ r ∧ r ≤ 2147483647) :
    Calls Try.prog 70 #[.int .i32 r] w fun e w' => e = .returned (.bool (pointB r)) ∧ w = w' := by
  obtain ⟨b, hb⟩ : ∃ b, pointB r = b := ⟨_, rfl⟩
  have HB := Lib.hid hb
  unfold pointB at hb
  cases g1 : decide (0 ≤ r) <;> cases g2 : decide (r ≤ 1114111) <;> cases g3 : decide (r < 55296) <;> cases g4 : decide (57343 < r)
  all_goals
    rw [g1, g2, g3, g4] at hb
    simp only [Bool.and_self, Bool.and_true, Bool.and_false, Bool.false_and, Bool.true_and, Bool.or_self, Bool.or_true, Bool.or_false, Bool.true_or, Bool.false_or] at hb
    subst hb
    rw [HB.out]
    clear h HB
    go_enter Try.func70, Try.ntmps70
    go_wp2
    go_ret
    exact ⟨rfl, rfl⟩

abbrev strV (l : List UInt8) : Value := .string ⟨l.toArray⟩
theorem convL (W : World) (xs : List Int) (cs : Array Value) (n : Nat) (hc : cs = (xs.map (Value.int .u8)).toArray) (hn : xs.length = n) (h0 : 0 < n) : (convert 44 9 (.slice (some ⟨W.heap.size, 0, none⟩) n n)).run Try.prog (W.alloc (.cells cs 5)) = .ok (strV (xs.map fun x => UInt8.ofNat x.toNat)) (W.alloc (.cells cs 5)) := by
  subst hc
  exact run_convert_bytes_arg (P := Try.prog) (W.alloc (.cells (xs.map (Value.int .u8)).toArray 5)) 44 5 Try.underlying44 Try.underlying5 W.heap.size 0 n n xs hn (fun i hi => by
    have := (Blk.new W 5 (xs.map (Value.int .u8)).toArray).cell i
    rw [Nat.zero_add]
    rw [this]
    simp
    rw [List.getElem?_eq_getElem (by omega)]
    rfl) _ Try.underlying9
/-- The bytes of a number. -/
def oneL (r : Int) : List UInt8 := (Lib.encodeRuneZ r).map fun x => UInt8.ofNat x.toNat
theorem ret_strV {a b : List UInt8} (h : a = b) : Ending.returned (strV a) = .returned (strV b) := by rw [h]
theorem u8_in {x : Int} (h : 0 ≤ x ∧ x ≤ 255) : IntKind.u8.wrap x = x := by
  simp only [IntKind.wrap, IntKind.bits, IntKind.signed]
  simp
  omega
theorem pointB_iff (r : Int) : pointB r = true ↔ (0 ≤ r ∧ r ≤ 1114111 ∧ (r < 55296 ∨ 57343 < r)) := by
  unfold pointB
  simp
  omega
set_option maxHeartbeats 4000000 in
set_option maxRecDepth 20000 in
theorem one_good (r : Int) (w : World) (h : 0 ≤ r ∧ r ≤ 1114111 ∧ (r < 55296 ∨ 57343 < r)) :
    Calls Try.prog 64 #[.int .i32 r] w fun e w' => e = .returned (strV (oneL r)) ∧ Below w.heap.size w w' := by
  have HP := Lib.hid (show ∀ W, Calls Try.prog 70 #[.int .i32 r] W fun e w' => e = .returned (.bool true) ∧ W = w' from fun W => by have := Point_any r W (by omega); rwa [(pointB_iff r).2 h] at this)
  have C1 := fun (W : World) (a : Int) => convL W [a] #[.int .u8 a] 1 rfl rfl (by omega)
  by_cases g1 : r < 128
  · have q1 : decide (r < 128) = true := decide_eq_true g1
    have v1 : IntKind.u8.wrap r = r := u8_in (by omega)
    have HO := Lib.hid (show oneL r = [UInt8.ofNat r.toNat] by unfold oneL Lib.encodeRuneZ; rw [if_pos (by omega)]; rfl)
    have HB := Lib.hid (bel_alloc (Below.refl w.heap.size w) (.cells #[.int .u8 r] 5))
    clear h g1
    go_enter Try.func64, Try.ntmps64
    go_wp2_with (go_at_call 70; (with_reducible refine (HP.out _).mono ?_); rintro e w' ⟨rfl, rfl⟩)
    go_ret
    exact ⟨ret_strV HO.out.symm, HB.out⟩
  have q1 : decide (r < 128) = false := decide_eq_false g1
  by_cases g2 : r < 2048
  · have q2 : decide (r < 2048) = true := decide_eq_true g2
    obtain ⟨a, ha⟩ : ∃ a, r / 64 = a := ⟨_, rfl⟩
    obtain ⟨b, hb⟩ : ∃ b, r % 64 = b := ⟨_, rfl⟩
    have t1 : IntKind.i32.wrap (r.tdiv 64) = a := by rw [Int.tdiv_eq_ediv_of_nonneg (by omega), ha]; exact wrap32_in (by omega)
    have t2 : IntKind.i32.wrap (192 + a) = 192 + a := wrap32_in (by omega)
    have t3 : IntKind.u8.wrap (192 + a) = 192 + a := u8_in (by omega)
    have t4 : r.tmod 64 = b := by rw [Int.tmod_eq_emod_of_nonneg (by omega), hb]
    have t5 : IntKind.i32.wrap (128 + b) = 128 + b := wrap32_in (by omega)
    have t6 : IntKind.u8.wrap (128 + b) = 128 + b := u8_in (by omega)
    have C2 := convL w [192 + a, 128 + b] #[.int .u8 (192 + a), .int .u8 (128 + b)] 2 rfl rfl (by omega)
    have HO := Lib.hid (show oneL r = [192 + a, 128 + b].map (fun x => UInt8.ofNat x.toNat) by unfold oneL Lib.encodeRuneZ; rw [if_neg (by omega), if_pos (by omega), ha, hb])
    have HB := Lib.hid (bel_alloc (Below.refl w.heap.size w) (.cells #[.int .u8 (192 + a), .int .u8 (128 + b)] 5))
    clear h g1 g2 ha hb
    go_enter Try.func64, Try.ntmps64
    go_wp2_with (go_at_call 70; (with_reducible refine (HP.out _).mono ?_); rintro e w' ⟨rfl, rfl⟩)
    go_ret
    exact ⟨ret_strV HO.out.symm, HB.out⟩
  have q2 : decide (r < 2048) = false := decide_eq_false g2
  by_cases g3 : r < 65536
  · have q3 : decide (r < 65536) = true := decide_eq_true g3
    obtain ⟨a, ha⟩ : ∃ x, r / 4096 = x := ⟨_, rfl⟩
    obtain ⟨a2, ha2⟩ : ∃ x, r / 64 = x := ⟨_, rfl⟩
    obtain ⟨c, hc⟩ : ∃ x, a2 % 64 = x := ⟨_, rfl⟩
    obtain ⟨b, hb⟩ : ∃ x, r % 64 = x := ⟨_, rfl⟩
    have ta : IntKind.i32.wrap (r.tdiv 4096) = a := by rw [Int.tdiv_eq_ediv_of_nonneg (by omega), ha]; exact wrap32_in (by omega)
    have ta2 : IntKind.i32.wrap (r.tdiv 64) = a2 := by rw [Int.tdiv_eq_ediv_of_nonneg (by omega), ha2]; exact wrap32_in (by omega)
    have tc : a2.tmod 64 = c := by rw [Int.tmod_eq_emod_of_nonneg (by omega), hc]
    have tb : r.tmod 64 = b := by rw [Int.tmod_eq_emod_of_nonneg (by omega), hb]
    have ua : IntKind.i32.wrap (224 + a) = 224 + a := wrap32_in (by omega)
    have va : IntKind.u8.wrap (224 + a) = 224 + a := u8_in (by omega)
    have uc : IntKind.i32.wrap (128 + c) = 128 + c := wrap32_in (by omega)
    have vc : IntKind.u8.wrap (128 + c) = 128 + c := u8_in (by omega)
    have ub : IntKind.i32.wrap (128 + b) = 128 + b := wrap32_in (by omega)
    have vb : IntKind.u8.wrap (128 + b) = 128 + b := u8_in (by omega)
    have C2 := convL w [224 + a, 128 + c, 128 + b] #[.int .u8 (224 + a), .int .u8 (128 + c), .int .u8 (128 + b)] 3 rfl rfl (by omega)
    have HO := Lib.hid (show oneL r = [224 + a, 128 + c, 128 + b].map (fun x => UInt8.ofNat x.toNat) by unfold oneL Lib.encodeRuneZ; rw [if_neg (by omega), if_neg (by omega), if_pos (by omega)]; simp only [ha, ha2, hc, hb])
    have HB := Lib.hid (bel_alloc (Below.refl w.heap.size w) (.cells #[.int .u8 (224 + a), .int .u8 (128 + c), .int .u8 (128 + b)] 5))
    clear h g1 g2 g3 ha ha2 hc hb
    go_enter Try.func64, Try.ntmps64
    go_wp2_with (go_at_call 70; (with_reducible refine (HP.out _).mono ?_); rintro e w' ⟨rfl, rfl⟩)
    go_ret
    exact ⟨ret_strV HO.out.symm, HB.out⟩
  · have q3 : decide (r < 65536) = false := decide_eq_false g3
    obtain ⟨a, ha⟩ : ∃ x, r / 262144 = x := ⟨_, rfl⟩
    obtain ⟨a1, ha1⟩ : ∃ x, r / 4096 = x := ⟨_, rfl⟩
    obtain ⟨a2, ha2⟩ : ∃ x, r / 64 = x := ⟨_, rfl⟩
    obtain ⟨d, hd⟩ : ∃ x, a1 % 64 = x := ⟨_, rfl⟩
    obtain ⟨c, hc⟩ : ∃ x, a2 % 64 = x := ⟨_, rfl⟩
    obtain ⟨b, hb⟩ : ∃ x, r % 64 = x := ⟨_, rfl⟩
    have ta : IntKind.i32.wrap (r.tdiv 262144) = a := by rw [Int.tdiv_eq_ediv_of_nonneg (by omega), ha]; exact wrap32_in (by omega)
    have ta1 : IntKind.i32.wrap (r.tdiv 4096) = a1 := by rw [Int.tdiv_eq_ediv_of_nonneg (by omega), ha1]; exact wrap32_in (by omega)
    have ta2 : IntKind.i32.wrap (r.tdiv 64) = a2 := by rw [Int.tdiv_eq_ediv_of_nonneg (by omega), ha2]; exact wrap32_in (by omega)
    have td : a1.tmod 64 = d := by rw [Int.tmod_eq_emod_of_nonneg (by omega), hd]
    have tc : a2.tmod 64 = c := by rw [Int.tmod_eq_emod_of_nonneg (by omega), hc]
    have tb : r.tmod 64 = b := by rw [Int.tmod_eq_emod_of_nonneg (by omega), hb]
    have ua : IntKind.i32.wrap (240 + a) = 240 + a := wrap32_in (by omega)
    have va : IntKind.u8.wrap (240 + a) = 240 + a := u8_in (by omega)
    have ud : IntKind.i32.wrap (128 + d) = 128 + d := wrap32_in (by omega)
    have vd : IntKind.u8.wrap (128 + d) = 128 + d := u8_in (by omega)
    have uc : IntKind.i32.wrap (128 + c) = 128 + c := wrap32_in (by omega)
    have vc : IntKind.u8.wrap (128 + c) = 128 + c := u8_in (by omega)
    have ub : IntKind.i32.wrap (128 + b) = 128 + b := wrap32_in (by omega)
    have vb : IntKind.u8.wrap (128 + b) = 128 + b := u8_in (by omega)
    have C2 := convL w [240 + a, 128 + d, 128 + c, 128 + b] #[.int .u8 (240 + a), .int .u8 (128 + d), .int .u8 (128 + c), .int .u8 (128 + b)] 4 rfl rfl (by omega)
    have HO := Lib.hid (show oneL r = [240 + a, 128 + d, 128 + c, 128 + b].map (fun x => UInt8.ofNat x.toNat) by unfold oneL Lib.encodeRuneZ; rw [if_neg (by omega), if_neg (by omega), if_neg (by omega), if_pos (by omega)]; simp only [ha, ha1, ha2, hd, hc, hb])
    have HB := Lib.hid (bel_alloc (Below.refl w.heap.size w) (.cells #[.int .u8 (240 + a), .int .u8 (128 + d), .int .u8 (128 + c), .int .u8 (128 + b)] 5))
    clear h g1 g2 g3 ha ha1 ha2 hd hc hb
    go_enter Try.func64, Try.ntmps64
    go_wp2_with (go_at_call 70; (with_reducible refine (HP.out _).mono ?_); rintro e w' ⟨rfl, rfl⟩)
    go_ret
    exact ⟨ret_strV HO.out.symm, HB.out⟩
theorem one_any (r : Int) (w : World) (hr : -2147483648 ≤ r ∧ r ≤ 2147483647) :
    Calls Try.prog 64 #[.int .i32 r] w fun e w' => e = .returned (strV (oneL r)) ∧ Below w.heap.size w w' := by
  by_cases h : 0 ≤ r ∧ r ≤ 1114111 ∧ (r < 55296 ∨ 57343 < r)
  · exact one_good r w h
  · have HP := Lib.hid (show ∀ W, Calls Try.prog 70 #[.int .i32 r] W fun e w' => e = .returned (.bool false) ∧ W = w' from fun W => by
      have := Point_any r W hr
      have e : pointB r = false := by
        cases hp : pointB r with
        | false => rfl
        | true => exact absurd ((pointB_iff r).1 hp) h
      rwa [e] at this)
    have C2 := convL w [239, 191, 189] #[.int .u8 239, .int .u8 191, .int .u8 189] 3 rfl rfl (by omega)
    have HO := Lib.hid (show oneL r = [239, 191, 189].map (fun x : Int => UInt8.ofNat x.toNat) by unfold oneL Lib.encodeRuneZ; rw [if_neg (by omega), if_neg (by omega), if_neg (by omega), if_neg (by omega)])
    have HB := Lib.hid (bel_alloc (Below.refl w.heap.size w) (.cells #[.int .u8 239, .int .u8 191, .int .u8 189] 5))
    clear h hr
    go_enter Try.func64, Try.ntmps64
    go_wp2_with (go_at_call 70; (with_reducible refine (HP.out _).mono ?_); rintro e w' ⟨rfl, rfl⟩)
    go_ret
    exact ⟨ret_strV HO.out.symm, HB.out⟩

theorem str_app (a b : List UInt8) : (⟨a.toArray⟩ : ByteArray) ++ ⟨b.toArray⟩ = ⟨(a ++ b).toArray⟩ := by
  apply ByteArray.ext
  simp
/-- The bytes of the first numbers. -/
def encN (xs : List Int) (j : Nat) : List UInt8 := (xs.take j).flatMap oneL
theorem encN_succ {xs : List Int} {j : Nat} {x : Int} (h : xs[j]? = some x) : encN xs (j + 1) = encN xs j ++ oneL x := by
  obtain ⟨hj, rfl⟩ := List.getElem?_eq_some_iff.1 h
  unfold encN
  rw [List.take_succ_eq_append_getElem hj, List.flatMap_append, List.flatMap_cons, List.flatMap_nil, List.append_nil]
theorem oneL_len (x : Int) : (oneL x).length ≤ 4 := by
  unfold oneL Lib.encodeRuneZ
  rw [List.length_map]
  repeat' split
  all_goals simp
theorem encN_len (xs : List Int) (j : Nat) : (encN xs j).length ≤ 4 * j := by
  have key : ∀ l : List Int, (l.flatMap oneL).length ≤ 4 * l.length := by
    intro l
    induction l with
    | nil => simp
    | cons x l ih => rw [List.flatMap_cons, List.length_append, List.length_cons]; have := oneL_len x; omega
  have := key (xs.take j)
  have h2 := List.length_take_le j xs
  unfold encN
  omega
set_option maxHeartbeats 4000000 in
theorem refEncode_any (A : Option Addr) (n c : Nat) (xs : List Int) (w : World) (hr : Reads w w.heap.size 1 A n (xs.map (Value.int .i32))) (hx : xs.length = n) (h0 : ∀ x ∈ xs, -2147483648 ≤ x ∧ x ≤ 2147483647) (hn : n ≤ 1000000) :
    Calls Try.prog 34 #[.slice A n c] w fun e w' => e = .returned (strV (encN xs n)) ∧ Below w.heap.size w w' := by
  have HR := Lib.hid hr
  have HX := Lib.hid hx
  have H0 := Lib.hid h0
  have hn1 : (n : Int) ≤ 1000000 := by omega
  have S1 := str_app
  clear hr hx h0
  go_enter Try.func34, Try.ntmps34
  go_wp2_with (fail)
  go_loopw [3, 4] (fun s i wr => ∃ j : Nat, i = .int .i64 j ∧ j ≤ n ∧ s = strV (encN xs j) ∧ Hid (Below w.heap.size w wr)) (fun _ i _ => n - (intOf i).toNat)
  case atStart => exact ⟨0, rfl, Nat.zero_le _, by simp [encN], Lib.hid (Below.refl _ _)⟩
  case round =>
    obtain ⟨j, rfl, hj, rfl, HB⟩ := hrel
    by_cases hlt : j < n
    · obtain ⟨ad, u, rfl, hb, hxu, hc⟩ := HR.out.at_ hlt
      rw [List.getElem?_map] at hxu
      obtain ⟨x, hxj, rfl⟩ := Option.map_eq_some_iff.1 hxu
      have c0 : wr.cell? (ad.add j) = some (.int .i32 x) := (HB.out.cell (by rw [block_of_add]; exact hb)).trans hc
      have HC := Lib.hid (fun W => one_any x W (H0.out x (List.mem_of_getElem? hxj)))
      have HS := Lib.hid (encN_succ hxj)
      have HL := encN_len xs (j + 1)
      rw [HS.out, List.length_append] at HL
      have l1 : (((encN xs j).length + (oneL x).length : Nat) : Int) ≤ 4000000 := by omega
      clear hxu hc hxj HL
      go_wp2_with (go_at_call 64; refine (HC.out _).mono ?_; rintro e w3 ⟨rfl, hb3⟩; have HB3 := Lib.hid (bel_trans HB.out hb3); clear hb3)
      go_roundw
      case rel => exact ⟨j + 1, by go_num, by omega, by rw [HS.out], HB3⟩
      case measure => simp [intOf]; omega
    · obtain rfl : j = n := by omega
      go_wp2_with (fail)
      go_ret
      exact ⟨rfl, HB.out⟩
open Go.Shelf

theorem sizeBuilder : (Try.prog.info? 61).map (·.size) = some 2 := by kernel_rfl
set_option maxHeartbeats 1000000 in
set_option maxRecDepth 100000 in
theorem copy_used (b : Nat) (w : World) (h0 : w.cell? ⟨b, 0, none⟩ = some (.pointer (some ⟨b, 0, none⟩))) :
    Calls Try.prog 62 #[.pointer (some ⟨b, 0, none⟩)] w fun e w' => e = .returned (.tuple #[]) ∧ w' = w := by
  obtain ⟨j, hj, _⟩ := Option.map_eq_some_iff.1 sizeBuilder
  go_enter Try.func62, Try.ntmps62
  go_wp2
  rw [Lib.run_neq_ptr_same w _ Try.underlying59 hj]
  go_wp2
  go_end0
  exact ⟨rfl, rfl⟩
theorem liesBuilder : liesAt Try.prog Try.prog.depth 61 (2 / Try.prog.cellsOf 61) 0 61 1 = true := by kernel_rfl
set_option maxHeartbeats 1000000 in
set_option maxRecDepth 100000 in
theorem copy_fresh (b : Nat) (w : World) (h0 : w.cell? ⟨b, 0, none⟩ = some (.pointer none)) (hsh : w.shape? b = some (61, 2)) (hfz : w.frozen? ⟨b, 0, none⟩ = false) :
    Calls Try.prog 62 #[.pointer (some ⟨b, 0, none⟩)] w fun e w' => e = .returned (.tuple #[]) ∧ w' = w.setCell ⟨b, 0, none⟩ (.pointer (some ⟨b, 0, none⟩)) := by
  obtain ⟨j, hj, hjs⟩ := Option.map_eq_some_iff.1 sizeBuilder
  go_enter Try.func62, Try.ntmps62
  go_wp2
  rw [Lib.run_to_unsafe w ⟨b, 0, none⟩ Try.underlying59 Try.underlying83 hj (by rw [hjs]; decide) hsh (Nat.zero_lt_succ 1)]
  simp only [Result.andThen]
  rw [Oper.upon_value]
  go_wp2
  rw [run_callFunc_extern Try.func68 (by kernel_rfl) (by kernel_rfl) (by kernel_rfl) (e := Extern.AbiNoEscape.same) (by kernel_rfl)]
  rw [Lib.run_noEscape]
  simp only [Result.andThen]
  rw [Oper.upon_value]
  go_wp2
  rw [Lib.run_from_unsafe w ⟨b, 0, none⟩ Try.underlying83 Try.underlying59 hj hsh liesBuilder]
  simp only [Result.andThen]
  rw [Oper.upon_value]
  go_wp2
  go_end0
  exact ⟨rfl, rfl⟩
theorem copyCheck_any (B b : Nat) (bs : List Value) (w : World) (h : Lib.IsBuilder 61 5 B b bs w) :
    Calls Try.prog 62 #[.pointer (some ⟨b, 0, none⟩)] w fun e w' => e = .returned (.tuple #[]) ∧ Lib.BuilderAt 61 5 B b (.pointer (some ⟨b, 0, none⟩)) bs w' ∧ Below B w w' := by
  rcases h with h | h
  · refine (copy_fresh b w h.cell0 h.shape h.frozen0).mono ?_
    rintro e w' ⟨rfl, rfl⟩
    exact ⟨rfl, h.used _, (Below.refl B w).setCell (p := ⟨b, 0, none⟩) h.1 _⟩
  · refine (copy_used b w h.cell0).mono ?_
    rintro e w' ⟨rfl, rfl⟩
    exact ⟨rfl, h, Below.refl B _⟩

set_option maxHeartbeats 4000000 in
set_option maxRecDepth 100000 in
theorem WriteRune_any (B b : Nat) (bs : List Value) (r : Int) (hr0 : -2147483648 ≤ r) (hr1 : r ≤ 2147483647) (w : World) (h : Lib.IsBuilder 61 5 B b bs w) (hlen : bs.length + 4 ≤ 140737488355328) (hBw : B ≤ w.heap.size) :
    Calls Try.prog 32 #[.pointer (some ⟨b, 0, none⟩), .int .i32 r] w fun e w' => e = .returned (.tuple #[.int .i64 (Lib.runeCells r).length, .nilIface]) ∧ Lib.IsBuilder 61 5 B b (bs ++ Lib.runeCells r) w' ∧ Below B w w' := by
  have hk4 := Lib.runeCells_le r
  go_enter Try.func32, Try.ntmps32
  go_wp2_with (go_at_call 62; refine (copyCheck_any B b bs _ h).mono ?_)
  rintro e w1 ⟨rfl, h1, hb1⟩
  obtain ⟨hB, v, hbk, hown, hne⟩ := h1
  obtain ⟨ao, cap, rfl⟩ : ∃ ao cap, v = .slice ao bs.length cap := by
    rcases hown.2 with ⟨hv, h0⟩ | ⟨g, cap, cur, hv, _⟩
    · exact ⟨none, 0, by rw [hv, h0]⟩
    · exact ⟨_, _, hv⟩
  have c0 : w1.cell? ⟨b, 0, none⟩ = some (.pointer (some ⟨b, 0, none⟩)) := by rw [Lib.cell_of_heap hbk]; rfl
  have c1 : w1.cell? ⟨b, 1, none⟩ = some (.slice ao bs.length cap) := by rw [Lib.cell_of_heap hbk]; rfl
  go_wp2_with (go_at_call 63; refine (Try.utf8_AppendRune_plain B _ bs.length bs r hr0 hr1 _ hown hlen (by have := hb1.size; omega)).mono ?_)
  rintro e w2 ⟨v', rfl, hown', o, hgrow⟩
  have hlt : b < w1.heap.size := by
    rcases Nat.lt_or_ge b w1.heap.size with h' | h'
    · exact h'
    · simp [Array.getElem?_eq_none h'] at hbk
  have hb2 : w2.heap[b]? = some (.cells #[.pointer (some ⟨b, 0, none⟩), .slice ao bs.length cap] 61 (0, 0)) := by
    rw [hgrow.block b (by simp; omega) (fun e => hne e.symm), Lib.alloc_old w1 _ b hlt]
    exact hbk
  have d0 : w2.cell? ⟨b, 0, none⟩ = some (.pointer (some ⟨b, 0, none⟩)) := by rw [Lib.cell_of_heap hb2]; rfl
  have d1 : w2.cell? ⟨b, 1, none⟩ = some (.slice ao bs.length cap) := by rw [Lib.cell_of_heap hb2]; rfl
  have f1 : w2.frozen? ⟨b, 1, none⟩ = false := Lib.frozen_of_heap hb2 1
  obtain ⟨g, cap', rfl⟩ : ∃ g cap', v' = .slice (some ⟨g, 0, none⟩) (bs.length + (Lib.runeCells r).length) cap' := by
    rcases hown'.2 with ⟨_, h0⟩ | ⟨g, cap', cur, hv, _⟩
    · omega
    · exact ⟨g, cap', hv⟩
  go_wp2
  go_ret2
  refine ⟨?_, .inr ?_, ?_⟩
  · have e : ((bs.length : Int) + ((Lib.runeCells r).length : Int) - (bs.length : Int)) = ((Lib.runeCells r).length : Int) := by omega
    simp [e]
  · exact Lib.BuilderAt.put (T := 61) (e := 5) hB hb2 (bs' := bs ++ Lib.runeCells r) (by simpa using hown') (by decide)
  · exact ((hb1.alloc (by have := hb1.size; omega) _).grown hgrow (by have := hb1.size; simp; omega) (fun k hk => (hown.lt k hk).1)).setCell (p := ⟨b, 1, none⟩) hB _
def encL (xs : List Int) : List UInt8 := xs.flatMap oneL
theorem encN_encL (xs : List Int) : encN xs xs.length = encL xs := by unfold encN encL; rw [List.take_length]

theorem cells_app (a b : List UInt8) : Lib.byteCells (a ++ b) = Lib.byteCells a ++ Lib.byteCells b := by unfold Lib.byteCells; rw [List.map_append]
theorem cells_one (x : Int) : Lib.runeCells x = Lib.byteCells (oneL x) := (Lib.byteCells_encodeRune x).symm
theorem cells_len (a : List UInt8) : (Lib.byteCells a).length = a.length := by unfold Lib.byteCells; rw [List.length_map]
theorem isB_fresh (w : World) : Lib.IsBuilder 61 5 w.heap.size w.heap.size (Lib.byteCells []) (w.alloc (.cells #[.pointer none, .slice none 0 0] 61)) := Lib.fresh_isBuilder _ _ w
end Go.Proofs.Ytmjacmjogckihaa.Utf

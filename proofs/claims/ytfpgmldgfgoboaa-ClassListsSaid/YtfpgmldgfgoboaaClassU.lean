/- class.All, class.Name, and the reference's Wide, Name, Same, walked. No condition. -/
import Derived.Test.YtfpgmldgfgoboaaClassV
namespace Go.Proofs.Ytfpgmldgfgoboaa.Class
open Go.RowKit
set_option linter.unusedVariables false

def inB (r a b : Int) : Bool := decide (a ≤ r) && decide (r ≤ b)
theorem in_any (r a b : Int) (w : World) : Calls Try.prog 39 #[.int .i32 r, .int .i32 a, .int .i32 b] w fun e w' => e = .returned (.bool (inB r a b)) ∧ w = w' := by
  rcases Int.lt_or_le r a with h | h
  · go_enter Try.func39, Try.ntmps39
    go_wp2
    go_ret
    exact ⟨ret_bool (by simp [inB]; omega), rfl⟩
  · rcases Int.lt_or_le b r with g | g
    · go_enter Try.func39, Try.ntmps39
      go_wp2
      go_ret
      exact ⟨ret_bool (by simp [inB]; omega), rfl⟩
    · go_enter Try.func39, Try.ntmps39
      go_wp2
      go_ret
      exact ⟨ret_bool (by simp [inB]; omega), rfl⟩
theorem wideB_or (r : Int) : wideB r = (inB r 4352 4447 || (inB r 11904 12350 || (inB r 12353 42191 || (inB r 44032 55203 || (inB r 63744 64255 || (inB r 65072 65103 || (inB r 65281 65376 || (inB r 65504 65510 || (inB r 127744 128591 || (inB r 129280 129535 || (inB r 131072 262141))))))))))) := by simp [wideB, wideT, hasW, inB]
set_option maxHeartbeats 2000000 in
theorem refWide_any (r : Int) (w : World) : Calls Try.prog 23 #[.int .i32 r] w fun e w' => e = .returned (.bool (wideB r)) ∧ Below w.heap.size w w' := by
  go_enter Try.func23, Try.ntmps23
  go_wp2_with (go_at_call 39; refine (in_any _ _ _ _).mono ?_; rintro e w' ⟨rfl, rfl⟩)
  all_goals
    go_ret
    refine ⟨ret_bool ?_, Below.refl _ _⟩
    rw [wideB_or]
    simp [*]

/-! ### the classes of a list -/
theorem infoU8 : (Try.prog.info? 5).map (fun i => (i.zero, i.size, i.bytes)) = some (some (.int .u8 0), 1, 1) := by kernel_rfl
theorem take_map_succ {α β : Type} (f : α → β) (l : List α) (k : Nat) (h : k < l.length) (d : α) : (l.take (k + 1)).map f = (l.take k).map f ++ [f (l[k]?.getD d)] := by
  rw [List.take_succ_eq_append_getElem h, List.map_append, List.getElem?_eq_getElem h]
  rfl
def clV (x : Int) : Value := .int .u8 (clsOf x)
set_option maxHeartbeats 2000000 in
theorem all_any (A : Option Addr) (n c : Nat) (xs : List Int) (w : World) (hl : xs.length = n) (hr : Reads w w.heap.size 1 A n (xs.map (Value.int .i32))) (hn : n ≤ 1000000000) :
    Calls Try.prog 25 #[.slice A n c] w fun e w' => ∃ A' c', e = .returned (.slice A' n c') ∧ Reads w' w'.heap.size 1 A' n (xs.map clV) ∧ Below w.heap.size w w' := by
  have HL := Lib.hid hl
  have HR := Lib.hid hr
  clear hl hr
  obtain ⟨i0, hi, hz0, hz1, hz2⟩ := info_parts infoU8
  have HI := Lib.hid hi
  have HZ0 := Lib.hid hz0
  have HZ1 := Lib.hid hz1
  have HZ2 := Lib.hid hz2
  clear hi hz0 hz1 hz2
  go_enter Try.func25, Try.ntmps25
  go_wp2
  go_loopw [3, 8] (fun v i wr => ∃ k : Nat, k ≤ n ∧ i = .int .i64 k ∧ Hid (wr.ownsRow w.heap.size 5 1 v k ((xs.take k).map clV)) ∧ Below w.heap.size w wr) (fun v i wr => n - (intOf i).toNat)
  case atStart => exact ⟨0, by omega, rfl, own_nil _ _ _ _, Below.refl _ _⟩
  case round =>
    obtain ⟨k, hk, rfl, HO, hb⟩ := hrel
    obtain ⟨A', c', hv⟩ := own_shape HO.out
    subst hv
    by_cases hlt : k < n
    · obtain ⟨ad, u, rfl, _, hu, hc0⟩ := HR.out.at_ hlt
      obtain rfl : u = .int .i32 (xs[k]?.getD 0) := by
        rw [List.getElem?_map, List.getElem?_eq_getElem (by rw [HL.out]; omega)] at hu
        rw [List.getElem?_eq_getElem (by rw [HL.out]; omega)]
        simpa using hu.symm
      have hc1 : wr.cell? (ad.add k) = some (.int .i32 (xs[k]?.getD 0)) := (hb.cell (by rw [block_of_add]; assumption)).trans hc0
      have TK := Lib.hid (take_map_succ clV xs k (by rw [HL.out]; exact hlt) 0)
      clear hc0 hu
      generalize xs[k]?.getD 0 = x at hc1 TK
      go_wp2_with (first
        | (go_at_call 19; refine (of_any _ _).mono ?_; rintro e w1 ⟨rfl, hb1⟩)
        | (at_builtin; refine wpList_append_own _ rfl _ _ 41 rfl w.heap.size 5 i0 (.int .u8 0) 1 1 Try.underlying41 HI.out HZ0.out HZ1.out HZ2.out rfl (by decide) (.slice A' k c') k ((xs.take k).map clV) rfl ((own_below HO.out hb1).alloc _) ⟨w1.heap.size, 0, none⟩ 1 1 [clV x] rfl rfl (cell_one_new _ _ _) ?c1 ?c2 ?c3 ?c4 ?_))
      case c1 => simp [clV, Value.oneCell']
      case c2 => unfold maxLen; omega
      case c3 => omega
      case c4 => have := hb.size; have := hb1.size; simp; omega
      intro v' w2 hown' hgrow _
      have hb2 := bel_grown (bel_alloc (bel_trans hb hb1) _) ((own_below HO.out hb1).alloc _) hgrow
      have HO2 := Lib.hid hown'
      clear hown' hgrow HO hc1
      go_wp2
      go_roundw
      case rel => exact ⟨k + 1, by omega, by go_num, by rw [TK.out]; first | exact HO2.out | (rw [List.map_take]; exact HO2.out), hb2⟩
      case measure => simp [intOf]; omega
    · obtain rfl : k = n := by omega
      go_wp2
      go_ret
      refine ⟨_, _, rfl, ?_, hb⟩
      have := own_reads HO.out
      rwa [List.take_of_length_le (by rw [HL.out]; omega)] at this

/-! ### names -/
def namesB : ByteArray := ⟨#[65, 76, 66, 75, 67, 82, 76, 70, 78, 76, 83, 80, 90, 87, 87, 74, 71, 76, 67, 77, 66, 65, 66, 66, 66, 50, 72, 89, 79, 80, 67, 76, 81, 85, 69, 88, 73, 83, 78, 83, 67, 74, 73, 78, 78, 85, 80, 82, 80, 79, 73, 68, 67, 66]⟩
def nameS (c : Int) : ByteArray := if c < 27 then namesB.extract (2 * c).toNat (2 * c + 2).toNat else ⟨#[]⟩
def nameCells : Array Value := #[.string ⟨#[65, 76]⟩, .string ⟨#[66, 75]⟩, .string ⟨#[67, 82]⟩, .string ⟨#[76, 70]⟩, .string ⟨#[78, 76]⟩, .string ⟨#[83, 80]⟩, .string ⟨#[90, 87]⟩, .string ⟨#[87, 74]⟩, .string ⟨#[71, 76]⟩, .string ⟨#[67, 77]⟩, .string ⟨#[66, 65]⟩, .string ⟨#[66, 66]⟩, .string ⟨#[66, 50]⟩, .string ⟨#[72, 89]⟩, .string ⟨#[79, 80]⟩, .string ⟨#[67, 76]⟩, .string ⟨#[81, 85]⟩, .string ⟨#[69, 88]⟩, .string ⟨#[73, 83]⟩, .string ⟨#[78, 83]⟩, .string ⟨#[67, 74]⟩, .string ⟨#[73, 78]⟩, .string ⟨#[78, 85]⟩, .string ⟨#[80, 82]⟩, .string ⟨#[80, 79]⟩, .string ⟨#[73, 68]⟩, .string ⟨#[67, 66]⟩]
theorem nameCells_get : ∀ c : Nat, c < 27 → nameCells[c]? = some (.string (nameS c)) := by
  intro c hc
  rcases (show c = 0 ∨ c = 1 ∨ c = 2 ∨ c = 3 ∨ c = 4 ∨ c = 5 ∨ c = 6 ∨ c = 7 ∨ c = 8 ∨ c = 9 ∨ c = 10 ∨ c = 11 ∨ c = 12 ∨ c = 13 ∨ c = 14 ∨ c = 15 ∨ c = 16 ∨ c = 17 ∨ c = 18 ∨ c = 19 ∨ c = 20 ∨ c = 21 ∨ c = 22 ∨ c = 23 ∨ c = 24 ∨ c = 25 ∨ c = 26 by omega) with rfl | rfl | rfl | rfl | rfl | rfl | rfl | rfl | rfl | rfl | rfl | rfl | rfl | rfl | rfl | rfl | rfl | rfl | rfl | rfl | rfl | rfl | rfl | rfl | rfl | rfl | rfl <;> kernel_rfl
theorem name_any (c : Int) (h0 : 0 ≤ c) (h1 : c ≤ 255) (w : World) : Calls Try.prog 26 #[.int .u8 c] w fun e w' => e = .returned (.string (nameS c)) ∧ w = w' := by
  rcases Int.lt_or_le c 27 with h | h
  · go_enter Try.func26, Try.ntmps26
    go_wp2
    go_ret
    exact ⟨by rw [nameS, if_pos h]; rfl, rfl⟩
  · go_enter Try.func26, Try.ntmps26
    go_wp2
    go_ret
    exact ⟨by rw [nameS, if_neg (by omega)]; rfl, rfl⟩

set_option maxHeartbeats 1000000 in
set_option maxRecDepth 100000 in
theorem refName_any (c : Int) (h0 : 0 ≤ c) (h1 : c ≤ 255) (w : World) : Calls Try.prog 27 #[.int .u8 c] w fun e w' => e = .returned (.string (nameS c)) ∧ Below w.heap.size w w' := by
  have B0 := Blk.boxed w 9 nameCells
  have bel0 := bel_alloc (Below.refl w.heap.size w) (.cells nameCells 9)
  go_enter Try.func27, Try.ntmps27
  apply wp_seq_k; intro K0 hK0
  apply wp_region_lit
  refine Great.wpList_runTo rfl (some 2) rfl (.string ⟨#[]⟩) w (by as_aux_lemma => kernel_rfl) ?_
  apply wpList_nil
  refine hK0 _ _ ?_
  clear hK0 K0
  apply wp_seq_k; intro K0 hK0
  apply wp_region_lit
  refine Great.wpList_buildSliceTo rfl 63 9 27 _ rfl w.heap.size rfl (some 4) rfl (by as_aux_lemma => kernel_rfl) nameCells (by as_aux_lemma => kernel_rfl) ?_
  generalize hW : w.alloc (.cells nameCells 9) = W at B0 bel0 ⊢
  clear hW
  refine Great.wpList_runTo rfl (some 3) rfl (.slice (some ⟨w.heap.size, 0, none⟩) 27 27) W (by as_aux_lemma => kernel_rfl) ?_
  apply wpList_nil
  refine hK0 _ _ ?_
  clear hK0 K0
  rcases Int.lt_or_le c 27 with h | h
  · obtain ⟨k, rfl⟩ := Int.eq_ofNat_of_zero_le h0
    have l0 : W.cell? ⟨w.heap.size, k, none⟩ = some (.string (nameS k)) := by rw [B0.cell, nameCells_get k (by omega)]
    generalize nameS k = s at l0 ⊢
    clear B0
    go_wp2
    go_ret
    exact ⟨rfl, bel0⟩
  · have hs := Lib.hid (show nameS c = ⟨#[]⟩ by rw [nameS, if_neg (by omega)])
    clear B0
    go_wp2
    go_ret
    exact ⟨by rw [hs.out]; rfl, bel0⟩

/-! ### same lists -/
theorem same_step (xs ys : List Int) (k : Nat) (h : k < xs.length) (g : k < ys.length) : (xs.drop k = ys.drop k) ↔ (xs[k]?.getD 0 = ys[k]?.getD 0 ∧ xs.drop (k + 1) = ys.drop (k + 1)) := by
  rw [List.drop_eq_getElem_cons h, List.drop_eq_getElem_cons g, List.getElem?_eq_getElem h, List.getElem?_eq_getElem g, List.cons.injEq]
  rfl
def sameB (xs ys : List Int) : Bool := decide (xs = ys)
set_option maxHeartbeats 1000000 in
theorem same_any (A B : Option Addr) (n m c d : Nat) (xs ys : List Int) (w : World) (hl : xs.length = n) (hm : ys.length = m) (hr : Reads w w.heap.size 1 A n (xs.map (Value.int .u8))) (hs : Reads w w.heap.size 1 B m (ys.map (Value.int .u8))) (hn : n ≤ 1000000000) (hn2 : m ≤ 1000000000) :
    Calls Try.prog 40 #[.slice A n c, .slice B m d] w fun e w' => e = .returned (.bool (sameB xs ys)) ∧ Drawn w w' := by
  by_cases hnm : n = m
  · subst hnm
    have HL := Lib.hid hl
    have HM := Lib.hid hm
    have HR := Lib.hid hr
    have HS := Lib.hid hs
    clear hl hr hm hs
    have q0 : ((n : Int) != (n : Int)) = false := by simp
    go_enter Try.func40, Try.ntmps40
    go_wp2
    go_loopw [5] (fun i wr => ∃ k : Nat, k ≤ n ∧ i = .int .i64 k ∧ Hid (xs = ys ↔ xs.drop k = ys.drop k) ∧ Drawn w wr) (fun i wr => n - (intOf i).toNat)
    case atStart => exact ⟨0, by omega, rfl, Iff.rfl, Drawn.refl _⟩
    case round =>
      obtain ⟨k, hk, rfl, HK, ⟨m, rfl⟩⟩ := hrel
      by_cases hlt : k < n
      · obtain ⟨ad, u, rfl, _, hu, hc0⟩ := HR.out.at_ hlt
        obtain rfl : u = .int .u8 (xs[k]?.getD 0) := by
          rw [List.getElem?_map, List.getElem?_eq_getElem (by rw [HL.out]; omega)] at hu
          rw [List.getElem?_eq_getElem (by rw [HL.out]; omega)]
          simpa using hu.symm
        obtain ⟨ad2, u, rfl, _, hu2, hc2⟩ := HS.out.at_ hlt
        obtain rfl : u = .int .u8 (ys[k]?.getD 0) := by
          rw [List.getElem?_map, List.getElem?_eq_getElem (by rw [HM.out]; omega)] at hu2
          rw [List.getElem?_eq_getElem (by rw [HM.out]; omega)]
          simpa using hu2.symm
        have ST := Lib.hid (same_step xs ys k (by rw [HL.out]; exact hlt) (by rw [HM.out]; exact hlt))
        clear hu hu2
        generalize xs[k]?.getD 0 = x at hc0 ST
        generalize ys[k]?.getD 0 = y at hc2 ST
        have q1 : (k : Int) < (n : Int) := by omega
        have q2 : (0 : Int) ≤ k := by omega
        by_cases hxy : x = y
        · have q3 : (x != y) = false := by simp [hxy]
          have HX := Lib.hid hxy
          clear hxy
          go_wp2
          go_quiet (fail)
          go_wp2
          go_roundw
          case rel => exact ⟨k + 1, by omega, by go_num, HK.out.trans (ST.out.trans ⟨fun h => h.2, fun h => ⟨HX.out, h⟩⟩), ⟨⟨_, rfl⟩⟩⟩
          case measure => simp [intOf]; omega
        · have q3 : (x != y) = true := by simp [hxy]
          have HX := Lib.hid hxy
          clear hxy
          go_wp2
          go_quiet (fail)
          go_wp2
          go_ret
          exact ⟨ret_bool (by rw [sameB, decide_eq_false]; exact fun h => HX.out (ST.out.1 (HK.out.1 h)).1), by first | exact ⟨⟨_, rfl⟩⟩ | exact Drawn.two _ _ _⟩
      · obtain rfl : k = n := by omega
        go_wp2
        go_ret
        exact ⟨ret_bool (by rw [sameB, decide_eq_true]; exact HK.out.2 (by rw [List.drop_of_length_le (by rw [HL.out]; omega), List.drop_of_length_le (by rw [HM.out]; omega)])), ⟨⟨_, rfl⟩⟩⟩
  · have q0 : ((n : Int) != (m : Int)) = true := by rw [bne_iff_ne]; omega
    have HF := Lib.hid (show sameB xs ys = false from decide_eq_false fun h => hnm (by rw [← hl, ← hm, h]))
    clear hr hs
    go_enter Try.func40, Try.ntmps40
    go_wp2
    go_ret
    exact ⟨ret_bool HF.out.symm, Drawn.refl _⟩
end Go.Proofs.Ytfpgmldgfgoboaa.Class

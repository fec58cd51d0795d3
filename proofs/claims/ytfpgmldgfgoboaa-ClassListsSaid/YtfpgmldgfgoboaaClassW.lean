/- The functions of package class, and of its reference, walked: what each returns, for every input. No condition. -/
import Derived.Test.YtfpgmldgfgoboaaClassB
import Derived.Deep.WholeRow
namespace Go.Proofs.Ytfpgmldgfgoboaa.Class
open Go.RowKit
set_option linter.unusedVariables false

set_option maxHeartbeats 1000000 in
theorem search36_any (n : Nat) (hn : n ≤ 1000) (c1 c2 : Value) (p : Nat → Bool) (w : World)
    (hf : ∀ i, i < n → ∀ W, Drawn w W → Calls Try.prog 36 #[.int .i64 i, c1, c2] W fun e W' => e = .returned (.bool (p i)) ∧ Drawn W W') :
    Calls Try.prog 35 #[.int .i64 n, .func (.func 36) #[] #[c1, c2]] w fun e w' => ∃ i : Nat, e = .returned (.int .i64 i) ∧ i ≤ n ∧ (i < n → p i = true) ∧ (0 < i → p (i - 1) = false) ∧ Drawn w w' := by
  have HF := Lib.hid hf
  clear hf
  go_enter Try.func35, Try.ntmps35
  go_wp2
  go_loopw [5, 6] (fun i j wr => ∃ a b : Nat, i = .int .i64 a ∧ j = .int .i64 b ∧ a ≤ b ∧ b ≤ n ∧ Hid (b < n → p b = true) ∧ Hid (0 < a → p (a - 1) = false) ∧ Drawn w wr) (fun i j wr => (intOf j).toNat - (intOf i).toNat)
  case atStart => exact ⟨0, n, rfl, rfl, by omega, by omega, fun h => absurd h (by omega), fun h => absurd h (by omega), Drawn.refl _⟩
  case round =>
    obtain ⟨a, b, rfl, rfl, hab, hbn, HB, HA, hd⟩ := hrel
    by_cases hlt : a < b
    · obtain ⟨h, hh⟩ : ∃ h : Nat, h = (a + b) / 2 := ⟨_, rfl⟩
      have h1 : a ≤ h := by omega
      have h2 : h < b := by omega
      have e0 : ((a : Int) + (b : Int)) / 2 = (h : Int) := by omega
      clear hh
      cases hp : p h with
      | true =>
        have HP := Lib.hid hp
        clear hp
        go_wp2_with (go_at_call 36; refine (HF.out h (by omega) _ hd).mono ?_; rintro e W' ⟨rfl, hd'⟩; rw [HP.out])
        go_roundw
        case rel => exact ⟨a, h, rfl, rfl, by omega, by omega, fun _ => HP.out, HA, hd.trans hd'⟩
        case measure => simp [intOf]; omega
      | false =>
        have HP := Lib.hid hp
        clear hp
        go_wp2_with (go_at_call 36; refine (HF.out h (by omega) _ hd).mono ?_; rintro e W' ⟨rfl, hd'⟩; rw [HP.out])
        go_roundw
        case rel => exact ⟨h + 1, b, by go_num, rfl, by omega, by omega, HB, fun _ => HP.out, hd.trans hd'⟩
        case measure => simp [intOf]; omega
    · obtain rfl : a = b := by omega
      go_wp2
      go_ret
      exact ⟨a, rfl, by omega, HB.out, HA.out, hd⟩

set_option maxHeartbeats 1000000 in
theorem search38_any (n : Nat) (hn : n ≤ 1000) (c1 c2 : Value) (p : Nat → Bool) (w : World)
    (hf : ∀ i, i < n → ∀ W, Drawn w W → Calls Try.prog 38 #[.int .i64 i, c1, c2] W fun e W' => e = .returned (.bool (p i)) ∧ Drawn W W') :
    Calls Try.prog 35 #[.int .i64 n, .func (.func 38) #[] #[c1, c2]] w fun e w' => ∃ i : Nat, e = .returned (.int .i64 i) ∧ i ≤ n ∧ (i < n → p i = true) ∧ (0 < i → p (i - 1) = false) ∧ Drawn w w' := by
  have HF := Lib.hid hf
  clear hf
  go_enter Try.func35, Try.ntmps35
  go_wp2
  go_loopw [5, 6] (fun i j wr => ∃ a b : Nat, i = .int .i64 a ∧ j = .int .i64 b ∧ a ≤ b ∧ b ≤ n ∧ Hid (b < n → p b = true) ∧ Hid (0 < a → p (a - 1) = false) ∧ Drawn w wr) (fun i j wr => (intOf j).toNat - (intOf i).toNat)
  case atStart => exact ⟨0, n, rfl, rfl, by omega, by omega, fun h => absurd h (by omega), fun h => absurd h (by omega), Drawn.refl _⟩
  case round =>
    obtain ⟨a, b, rfl, rfl, hab, hbn, HB, HA, hd⟩ := hrel
    by_cases hlt : a < b
    · obtain ⟨h, hh⟩ : ∃ h : Nat, h = (a + b) / 2 := ⟨_, rfl⟩
      have h1 : a ≤ h := by omega
      have h2 : h < b := by omega
      have e0 : ((a : Int) + (b : Int)) / 2 = (h : Int) := by omega
      clear hh
      cases hp : p h with
      | true =>
        have HP := Lib.hid hp
        clear hp
        go_wp2_with (go_at_call 38; refine (HF.out h (by omega) _ hd).mono ?_; rintro e W' ⟨rfl, hd'⟩; rw [HP.out])
        go_roundw
        case rel => exact ⟨a, h, rfl, rfl, by omega, by omega, fun _ => HP.out, HA, hd.trans hd'⟩
        case measure => simp [intOf]; omega
      | false =>
        have HP := Lib.hid hp
        clear hp
        go_wp2_with (go_at_call 38; refine (HF.out h (by omega) _ hd).mono ?_; rintro e W' ⟨rfl, hd'⟩; rw [HP.out])
        go_roundw
        case rel => exact ⟨h + 1, b, by go_num, rfl, by omega, by omega, HB, fun _ => HP.out, hd.trans hd'⟩
        case measure => simp [intOf]; omega
    · obtain rfl : a = b := by omega
      go_wp2
      go_ret
      exact ⟨a, rfl, by omega, HB.out, HA.out, hd⟩


theorem flat3_get (f : Int × Int × Int → List Value) (hf : ∀ x, (f x).length = 3) (d : Nat) (hd : d < 3) : ∀ (l : List (Int × Int × Int)) (i : Nat) (h : i < l.length), (l.flatMap f)[i * 3 + d]? = (f l[i])[d]?
  | x :: l, 0, _ => by
    rw [List.flatMap_cons, List.getElem?_append_left (by rw [hf]; omega)]
    simp
  | x :: l, i + 1, h => by
    rw [List.flatMap_cons, List.getElem?_append_right (by rw [hf]; omega), hf]
    have := flat3_get f hf d hd l i (by simpa using h)
    rw [show (i + 1) * 3 + d - 3 = i * 3 + d by omega, this]
    rfl
theorem spanCells_get (i : Nat) (h : i < 188) (d : Nat) (hd : d < 3) : spanCells[i * 3 + d]? = (cellsS (spanT[i]'(by rw [spanT_length]; exact h)))[d]? := by
  rw [spanCells, List.getElem?_toArray]
  exact flat3_get cellsS (fun _ => rfl) d hd spanT i _
theorem rowCells_get (i : Nat) (h : i < 188) (d : Nat) (hd : d < 3) : rowCells[i * 3 + d]? = (cellsR (rowT[i]'(by rw [rowT_length]; exact h)))[d]? := by
  rw [rowCells, List.getElem?_toArray]
  exact flat3_get cellsR (fun _ => rfl) d hd rowT i _

def toOf (i : Nat) : Int := (spanT[i]?.getD (0, 0, 0)).2.1
def fromOf (i : Nat) : Int := (spanT[i]?.getD (0, 0, 0)).1
def clOf (i : Nat) : Int := (spanT[i]?.getD (0, 0, 0)).2.2
def toB (r : Int) (i : Nat) : Bool := decide (r ≤ toOf i)

set_option maxHeartbeats 400000 in
theorem of1_any (r : Int) (i g g2 : Nat) (hi : i < 188) (w : World) (hb : Blk w g 52 spanCells) (hr : w.cell? ⟨g2, 0, none⟩ = some (.int .i32 r)) :
    Calls Try.prog 36 #[.int .i64 i, .pointer (some ⟨g, 0, none⟩), .pointer (some ⟨g2, 0, none⟩)] w fun e w' => e = .returned (.bool (toB r i)) ∧ Drawn w w' := by
  have h1 : w.cell? ⟨g, i * 3 + 1, none⟩ = some (.int .i32 (toOf i)) := by
    rw [hb.cell, spanCells_get i hi 1 (by omega), toOf]
    simp [cellsS, List.getElem?_eq_getElem (show i < spanT.length by rw [spanT_length]; exact hi)]
  have b1 : (i : Int) < 188 := by omega
  have b0 : (0 : Int) ≤ i := by omega
  clear hb
  go_enter Try.func36, Try.ntmps36
  go_wp2
  go_quiet (fail)
  go_wp2
  go_ret
  exact ⟨rfl, ⟨⟨_, rfl⟩⟩⟩

theorem clsOf_found (r : Int) (i : Nat) (hi : i ≤ 188) (h1 : i < 188 → toB r i = true) (h0 : 0 < i → toB r (i - 1) = false) :
    (i = 188 → clsOf r = 0) ∧ (i < 188 → (r < fromOf i → clsOf r = 0) ∧ (fromOf i ≤ r → clsOf r = clOf i)) := by
  have hl := spanT_length
  have e : ∀ (j : Nat) (hj : j < spanT.length), (spanT[j]?).getD ((0, 0, 0) : Int × Int × Int) = spanT[j]'hj := fun j hj => by rw [List.getElem?_eq_getElem hj]; rfl
  have := clsOf_at r i hi (fun h => by have := h1 h; rw [toB, toOf, e i (by omega)] at this; exact of_decide_eq_true this) (fun h => by have := h0 h; rw [toB, toOf, e (i - 1) (by omega)] at this; exact Int.not_le.1 (of_decide_eq_false this))
  refine ⟨this.1, fun h => ?_⟩
  rw [fromOf, clOf, e i (by omega)]
  exact this.2 h

set_option maxHeartbeats 2000000 in
set_option maxRecDepth 1000000 in
theorem of_any (r : Int) (w : World) : Calls Try.prog 19 #[.int .i32 r] w fun e w' => e = .returned (.int .u8 (clsOf r)) ∧ Below w.heap.size w w' := by
  have K0 := Blk.boxed w 21 #[.int .i32 r]
  have bel0 := bel_alloc (Below.refl w.heap.size w) (.cells #[.int .i32 r] 21)
  go_enter Try.func19, Try.ntmps19
  go_wp2_with fail
  refine (spans_any _).mono ?_
  rintro e w2 ⟨rfl, hb2⟩
  rename_i hK
  refine hK _ _ ?_
  clear hK
  have K2 := K0.keep hb2
  have bel2 := bel_trans bel0 hb2
  clear K0 bel0 hb2
  have hlt := K2.lt
  refine Great.wpList_runTo rfl (some 3) rfl (.pointer (some ⟨w2.heap.size, 0, none⟩)) (w2.alloc (.cells spanZ 52)) (by kernel_rfl) ?_
  refine wpList_store_rowTo rfl 52 _ _ rfl rfl w2.heap.size spanCells rfl rfl 52 spanZ (heap_alloc_new w2 _) (by kernel_rfl) (by kernel_rfl) (by kernel_rfl) ?_
  rw [World.setRow_alloc_new]
  have B3 := Blk.boxed w2 52 spanCells
  have K3 := K2.alloc (.cells spanCells 52)
  have bel3 := bel_alloc bel2 (.cells spanCells 52)
  clear K2 bel2
  generalize hW : w2.alloc (.cells spanCells 52) = W at B3 K3 bel3 ⊢
  clear hW
  go_wp2_with fail
  refine (search36_any 188 (by omega) _ _ (toB r) _ ?_).mono ?_
  · rintro i hi W' ⟨m, rfl⟩
    exact of1_any r i _ _ hi _ (B3.drewN m) ((K3.drewN m).cell 0)
  rintro e w3 ⟨i, rfl, hi, h1, h0, ⟨m, rfl⟩⟩
  have hc := clsOf_found r i hi h1 h0
  clear h1 h0
  rename_i hK
  refine hK _ _ ?_
  clear hK
  rcases Nat.lt_or_ge i 188 with g | g
  · have hc := hc.2 g
    have l0 : W.cell? ⟨w2.heap.size, i * 3, none⟩ = some (.int .i32 (fromOf i)) := by
      have := spanCells_get i g 0 (by omega)
      rw [B3.cell, ← Nat.add_zero (i * 3), this, fromOf]
      simp [cellsS, List.getElem?_eq_getElem (show i < spanT.length by rw [spanT_length]; exact g)]
    have l2 : W.cell? ⟨w2.heap.size, i * 3 + 2, none⟩ = some (.int .u8 (clOf i)) := by
      have := spanCells_get i g 2 (by omega)
      rw [B3.cell, this, clOf]
      simp [cellsS, List.getElem?_eq_getElem (show i < spanT.length by rw [spanT_length]; exact g)]
    have lr : W.cell? ⟨w.heap.size, 0, none⟩ = some (.int .i32 r) := K3.cell 0
    have q0 : ((i : Int) == 188) = false := by rw [beq_eq_false_iff_ne]; omega
    have q1 : (i : Int) < 188 := by omega
    have q2 : (0 : Int) ≤ i := by omega
    have Q0 := Lib.hid hc
    clear hc K3 B3 hi
    rcases Int.lt_or_le r (fromOf i) with f | f
    · go_wp2
      go_quiet (fail)
      go_wp2
      go_ret
      exact ⟨ret_int (Q0.out.1 f).symm, (by first | exact bel_drewN bel3 _ | exact bel_drewN (bel_drewN bel3 _) _)⟩
    · go_wp2
      go_quiet (fail)
      go_wp2
      go_ret
      exact ⟨ret_int (Q0.out.2 f).symm, (by first | exact bel_drewN bel3 _ | exact bel_drewN (bel_drewN bel3 _) _)⟩
  · obtain rfl : i = 188 := by omega
    have HC := Lib.hid (hc.1 rfl)
    clear hc
    clear K3 B3 hi
    go_wp2
    go_quiet (fail)
    go_wp2
    go_ret
    exact ⟨ret_int HC.out.symm, (by first | exact bel_drewN bel3 _ | exact bel_drewN (bel_drewN bel3 _) _)⟩

theorem mark_any (r : Int) (w : World) : Calls Try.prog 21 #[.int .i32 r] w fun e w' => e = .returned (.bool (clsOf r == 9)) ∧ Below w.heap.size w w' := by
  go_enter Try.func21, Try.ntmps21
  go_wp2_with (go_at_call 19; refine (of_any _ _).mono ?_; rintro e w' ⟨rfl, hb⟩)
  go_ret
  exact ⟨rfl, hb⟩

theorem rowOf_get (i : Nat) (g : i < 188) (d : Nat) (hd : d < 3) : rowCells[i * 3 + d]? = (cellsR (rowT[i]?.getD (0, 0, 0)))[d]? := by
  rw [rowCells_get i g d hd, List.getElem?_eq_getElem (show i < rowT.length by rw [rowT_length]; exact g)]
  rfl

/-- The rows from the i-th on. -/
theorem find_step (p : Int × Int × Int → Bool) (l : List (Int × Int × Int)) (i : Nat) (h : i < l.length) : (l.drop i).find? p = if p (l[i]?.getD (0, 0, 0)) then some (l[i]?.getD (0, 0, 0)) else (l.drop (i + 1)).find? p := by
  rw [List.drop_eq_getElem_cons h, List.find?_cons, List.getElem?_eq_getElem h]
  cases hp : p l[i] <;> simp [hp]

set_option maxHeartbeats 1000000 in
set_option maxRecDepth 100000 in
theorem refOf_any (r : Int) (w : World) : Calls Try.prog 20 #[.int .i32 r] w fun e w' => e = .returned (.int .u8 (clsOf r)) ∧ Below w.heap.size w w' := by
  have B0 := Blk.boxed w 58 rowCells
  have bel0 := bel_alloc (Below.refl w.heap.size w) (.cells rowCells 58)
  generalize hW : w.alloc (.cells rowCells 58) = W at B0 bel0
  have HW := Lib.hid hW
  clear hW
  go_enter Try.func20, Try.ntmps20
  go_wp2_with (go_at_call 37; refine (rows_any _).mono ?_; rintro e w' ⟨rfl, rfl⟩; rw [HW.out])
  go_loopw [4] (fun i wr => ∃ k : Nat, i = .int .i64 k ∧ k ≤ 188 ∧ Hid (refOf r = (((rowT.drop k).find? (has r)).map (·.2.2)).getD 0) ∧ Drawn W wr) (fun i wr => 188 - (intOf i).toNat)
  case atStart => exact ⟨0, rfl, by omega, rfl, Drawn.refl _⟩
  case round =>
    obtain ⟨k, rfl, hk, HK, ⟨m, rfl⟩⟩ := hrel
    by_cases hlt : k < 188
    · have l0 : W.cell? ⟨w.heap.size, k * 3, none⟩ = some (.int .i32 (rowT[k]?.getD (0, 0, 0)).1) := by
        rw [B0.cell, ← Nat.add_zero (k * 3), rowOf_get k hlt 0 (by omega)]; rfl
      have l1 : W.cell? ⟨w.heap.size, k * 3 + 1, none⟩ = some (.int .i32 (rowT[k]?.getD (0, 0, 0)).2.1) := by
        rw [B0.cell, rowOf_get k hlt 1 (by omega)]; rfl
      have l2 : W.cell? ⟨w.heap.size, k * 3 + 2, none⟩ = some (.int .i32 (rowT[k]?.getD (0, 0, 0)).2.2) := by
        rw [B0.cell, rowOf_get k hlt 2 (by omega)]; rfl
      have st := find_step (has r) rowT k (by rw [rowT_length]; exact hlt)
      have hm : 0 ≤ (rowT[k]?.getD (0, 0, 0)).2.2 ∧ (rowT[k]?.getD (0, 0, 0)).2.2 ≤ 26 := by
        have hk2 : k < rowT.length := by rw [rowT_length]; exact hlt
        rw [List.getElem?_eq_getElem hk2]
        exact (spanT_rows _ (rowT_perm.mem_iff.1 (List.getElem_mem hk2))).2
      generalize rowT[k]?.getD (0, 0, 0) = x at *
      obtain ⟨a, b, c⟩ := x
      simp only at l0 l1 l2 hm st
      have q1 : (k : Int) < 188 := by omega
      have q2 : (0 : Int) ≤ k := by omega
      have ST := Lib.hid st
      clear st
      rcases Int.lt_or_le r a with f | f
      · go_wp2
        go_roundw
        case rel => exact ⟨k + 1, by go_num, by omega, by (show _ = _); rw [HK.out, ST.out, if_neg (by simp [has]; omega)], ⟨⟨_, rfl⟩⟩⟩
        case measure => simp [intOf]; omega
      · rcases Int.lt_or_le b r with f2 | f2
        · go_wp2
          go_roundw
          case rel => exact ⟨k + 1, by go_num, by omega, by (show _ = _); rw [HK.out, ST.out, if_neg (by simp [has]; omega)], ⟨⟨_, rfl⟩⟩⟩
          case measure => simp [intOf]; omega
        · go_wp2
          go_ret
          exact ⟨ret_int (by rw [← refOf_eq, HK.out, ST.out, if_pos (by simp [has]; omega)]; rfl), bel_drewN bel0 _⟩
    · obtain rfl : k = 188 := by omega
      go_wp2
      go_ret
      exact ⟨ret_int (by rw [← refOf_eq, HK.out, List.drop_eq_nil_of_le (by rw [rowT_length]; omega)]; rfl), bel_drewN bel0 _⟩
end Go.Proofs.Ytfpgmldgfgoboaa.Class

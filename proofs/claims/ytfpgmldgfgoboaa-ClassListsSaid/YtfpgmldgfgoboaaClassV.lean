/- The other functions of package class, and of its reference, walked. No condition. -/
import Derived.Test.YtfpgmldgfgoboaaClassW
import Derived.Test.YtfpgmldgfgoboaaMore
namespace Go.Proofs.Ytfpgmldgfgoboaa.Class
open Go.RowKit
set_option linter.unusedVariables false

theorem count_step (p : Int × Int × Int → Bool) (l : List (Int × Int × Int)) (i : Nat) (h : i < l.length) : (l.take (i + 1)).countP p = (l.take i).countP p + if p (l[i]?.getD (0, 0, 0)) then 1 else 0 := by
  rw [List.take_succ_eq_append_getElem h, List.countP_append, List.getElem?_eq_getElem h]
  simp [List.countP_cons]

set_option maxHeartbeats 1000000 in
set_option maxRecDepth 100000 in
theorem many_any (r : Int) (w : World) : Calls Try.prog 28 #[.int .i32 r] w fun e w' => e = .returned (.int .i64 (manyOf r : Nat)) ∧ Below w.heap.size w w' := by
  have B0 := Blk.boxed w 58 rowCells
  have bel0 := bel_alloc (Below.refl w.heap.size w) (.cells rowCells 58)
  generalize hW : w.alloc (.cells rowCells 58) = W at B0 bel0
  have HW := Lib.hid hW
  clear hW
  go_enter Try.func28, Try.ntmps28
  go_wp2_with (go_at_call 37; refine (rows_any _).mono ?_; rintro e w' ⟨rfl, rfl⟩; rw [HW.out])
  go_loopw [4, 5] (fun c i wr => ∃ k n : Nat, i = .int .i64 k ∧ k ≤ 188 ∧ c = .int .i64 n ∧ n ≤ k ∧ Hid (n = (rowT.take k).countP (has r)) ∧ Drawn W wr) (fun c i wr => 188 - (intOf i).toNat)
  case atStart => exact ⟨0, 0, rfl, by omega, rfl, by omega, rfl, Drawn.refl _⟩
  case round =>
    obtain ⟨k, n, rfl, hk, rfl, hn, HK, ⟨m, rfl⟩⟩ := hrel
    by_cases hlt : k < 188
    · have l0 : W.cell? ⟨w.heap.size, k * 3, none⟩ = some (.int .i32 (rowT[k]?.getD (0, 0, 0)).1) := by
        rw [B0.cell, ← Nat.add_zero (k * 3), rowOf_get k hlt 0 (by omega)]; rfl
      have l1 : W.cell? ⟨w.heap.size, k * 3 + 1, none⟩ = some (.int .i32 (rowT[k]?.getD (0, 0, 0)).2.1) := by
        rw [B0.cell, rowOf_get k hlt 1 (by omega)]; rfl
      have st := count_step (has r) rowT k (by rw [rowT_length]; exact hlt)
      generalize rowT[k]?.getD (0, 0, 0) = x at *
      obtain ⟨a, b, c⟩ := x
      simp only at l0 l1 st
      have q1 : (k : Int) < 188 := by omega
      have q2 : (0 : Int) ≤ k := by omega
      have ST := Lib.hid st
      clear st
      rcases Int.lt_or_le r a with f | f
      · go_wp2
        go_roundw
        case rel => exact ⟨k + 1, n, by go_num, by omega, rfl, by omega, by (show _ = _); rw [ST.out, ← HK.out, if_neg (by simp [has]; omega)]; rfl, ⟨⟨_, rfl⟩⟩⟩
        case measure => simp [intOf]; omega
      · rcases Int.lt_or_le b r with f2 | f2
        · go_wp2
          go_roundw
          case rel => exact ⟨k + 1, n, by go_num, by omega, rfl, by omega, by (show _ = _); rw [ST.out, ← HK.out, if_neg (by simp [has]; omega)]; rfl, ⟨⟨_, rfl⟩⟩⟩
          case measure => simp [intOf]; omega
        · go_wp2
          go_roundw
          case rel => exact ⟨k + 1, n + 1, by go_num, by omega, by go_num, by omega, by (show _ = _); rw [ST.out, ← HK.out, if_pos (by simp [has]; omega)], ⟨⟨_, rfl⟩⟩⟩
          case measure => simp [intOf]; omega
    · obtain rfl : k = 188 := by omega
      go_wp2
      go_ret
      exact ⟨ret_int (by rw [HK.out, manyOf, List.take_of_length_le (by rw [rowT_length]; omega)]), bel_drewN bel0 _⟩

/-! ### wide -/
def cellsW (x : Int × Int) : List Value := [.int .i32 x.1, .int .i32 x.2]
def wideCells : Array Value := #[.int .i32 4352, .int .i32 4447, .int .i32 11904, .int .i32 12350, .int .i32 12353, .int .i32 42191, .int .i32 44032, .int .i32 55203, .int .i32 63744, .int .i32 64255, .int .i32 65072, .int .i32 65103, .int .i32 65281, .int .i32 65376, .int .i32 65504, .int .i32 65510, .int .i32 127744, .int .i32 128591, .int .i32 129280, .int .i32 129535, .int .i32 131072, .int .i32 262141]
def wto (i : Nat) : Int := (wideT[i]?.getD (0, 0)).2
def wfrom (i : Nat) : Int := (wideT[i]?.getD (0, 0)).1
def wtoB (r : Int) (i : Nat) : Bool := decide (r ≤ wto i)
theorem wideCells_get : ∀ i, i < 11 → wideCells[i * 2]? = some (.int .i32 (wfrom i)) ∧ wideCells[i * 2 + 1]? = some (.int .i32 (wto i)) := by
  intro i hi
  match i, hi with
  | 0, _ => exact ⟨rfl, rfl⟩
  | 1, _ => exact ⟨rfl, rfl⟩
  | 2, _ => exact ⟨rfl, rfl⟩
  | 3, _ => exact ⟨rfl, rfl⟩
  | 4, _ => exact ⟨rfl, rfl⟩
  | 5, _ => exact ⟨rfl, rfl⟩
  | 6, _ => exact ⟨rfl, rfl⟩
  | 7, _ => exact ⟨rfl, rfl⟩
  | 8, _ => exact ⟨rfl, rfl⟩
  | 9, _ => exact ⟨rfl, rfl⟩
  | 10, _ => exact ⟨rfl, rfl⟩

set_option maxHeartbeats 400000 in
theorem wide1_any (r : Int) (i g g2 : Nat) (hi : i < 11) (w : World) (hb : Blk w g 60 wideCells) (hr : w.cell? ⟨g2, 0, none⟩ = some (.int .i32 r)) :
    Calls Try.prog 38 #[.int .i64 i, .pointer (some ⟨g, 0, none⟩), .pointer (some ⟨g2, 0, none⟩)] w fun e w' => e = .returned (.bool (wtoB r i)) ∧ Drawn w w' := by
  have h1 : w.cell? ⟨g, i * 2 + 1, none⟩ = some (.int .i32 (wto i)) := by rw [hb.cell, (wideCells_get i hi).2]
  have b1 : (i : Int) < 11 := by omega
  have b0 : (0 : Int) ≤ i := by omega
  clear hb
  go_enter Try.func38, Try.ntmps38
  go_wp2
  go_quiet (fail)
  go_wp2
  go_ret
  exact ⟨rfl, ⟨⟨_, rfl⟩⟩⟩

theorem wideB_found (r : Int) (i : Nat) (hi : i ≤ 11) (h1 : i < 11 → wtoB r i = true) (h0 : 0 < i → wtoB r (i - 1) = false) :
    (i = 11 → wideB r = false) ∧ (i < 11 → wideB r = decide (wfrom i ≤ r)) := by
  have e : ∀ (j : Nat) (hj : j < wideT.length), (wideT[j]?).getD ((0, 0) : Int × Int) = wideT[j]'hj := fun j hj => by rw [List.getElem?_eq_getElem hj]; rfl
  have hl : wideT.length = 11 := rfl
  have := wideB_at r i hi (fun h => by have := h1 h; rw [wtoB, wto, e i (by omega)] at this; exact of_decide_eq_true this) (fun h => by have := h0 h; rw [wtoB, wto, e (i - 1) (by omega)] at this; exact Int.not_le.1 (of_decide_eq_false this))
  refine ⟨this.1, fun h => ?_⟩
  rw [wfrom, e i (by omega)]
  exact this.2 h

def wideZ : Array Value := (List.replicate 22 (Value.int .i32 0)).toArray

set_option maxHeartbeats 2000000 in
set_option maxRecDepth 1000000 in
theorem wide_any (r : Int) (w : World) : Calls Try.prog 22 #[.int .i32 r] w fun e w' => e = .returned (.bool (wideB r)) ∧ Below w.heap.size w w' := by
  have K0 := Blk.boxed w 21 #[.int .i32 r]
  have bel0 := bel_alloc (Below.refl w.heap.size w) (.cells #[.int .i32 r] 21)
  have B3 := Blk.boxed (w.alloc (.cells #[.int .i32 r] 21)) 60 wideCells
  have K3 := K0.alloc (.cells wideCells 60)
  have bel3 := bel_alloc bel0 (.cells wideCells 60)
  have hz : (w.alloc (.cells #[.int .i32 r] 21)).heap.size = w.heap.size + 1 := by simp
  generalize hW : (w.alloc (.cells #[.int .i32 r] 21)).alloc (.cells wideCells 60) = W at B3 K3 bel3
  clear K0 bel0
  go_enter Try.func22, Try.ntmps22
  apply wp_seq_k; intro K0 hK0
  apply wp_region_lit
  refine Great.wpList_boxTo rfl 21 _ rfl (some 1) rfl w.heap.size rfl #[.int .i32 r] rfl ?_
  refine Great.wpList_runTo rfl (some 2) rfl (.bool false) (w.alloc (.cells #[.int .i32 r] 21)) (by as_aux_lemma => kernel_rfl) ?_
  apply wpList_nil
  refine hK0 _ _ ?_
  clear hK0 K0
  apply wp_seq_k; intro K0 hK0
  apply wp_region_lit
  refine wpList_buildTo rfl 59 _ rfl (some 5) rfl #[.int .i32 4352, .int .i32 4447] (by as_aux_lemma => kernel_rfl) ?_
  refine wpList_buildTo rfl 59 _ rfl (some 6) rfl #[.int .i32 11904, .int .i32 12350] (by as_aux_lemma => kernel_rfl) ?_
  refine wpList_buildTo rfl 59 _ rfl (some 7) rfl #[.int .i32 12353, .int .i32 42191] (by as_aux_lemma => kernel_rfl) ?_
  refine wpList_buildTo rfl 59 _ rfl (some 8) rfl #[.int .i32 44032, .int .i32 55203] (by as_aux_lemma => kernel_rfl) ?_
  refine wpList_buildTo rfl 59 _ rfl (some 9) rfl #[.int .i32 63744, .int .i32 64255] (by as_aux_lemma => kernel_rfl) ?_
  refine wpList_buildTo rfl 59 _ rfl (some 10) rfl #[.int .i32 65072, .int .i32 65103] (by as_aux_lemma => kernel_rfl) ?_
  refine wpList_buildTo rfl 59 _ rfl (some 11) rfl #[.int .i32 65281, .int .i32 65376] (by as_aux_lemma => kernel_rfl) ?_
  refine wpList_buildTo rfl 59 _ rfl (some 12) rfl #[.int .i32 65504, .int .i32 65510] (by as_aux_lemma => kernel_rfl) ?_
  refine wpList_buildTo rfl 59 _ rfl (some 13) rfl #[.int .i32 127744, .int .i32 128591] (by as_aux_lemma => kernel_rfl) ?_
  refine wpList_buildTo rfl 59 _ rfl (some 14) rfl #[.int .i32 129280, .int .i32 129535] (by as_aux_lemma => kernel_rfl) ?_
  refine wpList_buildTo rfl 59 _ rfl (some 15) rfl #[.int .i32 131072, .int .i32 262141] (by as_aux_lemma => kernel_rfl) ?_
  refine wpList_buildTo rfl 60 _ rfl (some 16) rfl wideCells (by as_aux_lemma => kernel_rfl) ?_
  refine wpList_frame (a' := ⟨#[.int .i32 r, .pointer (some ⟨w.heap.size, 0, none⟩), .bool false, undef, undef, .agg #[.int .i32 4352, .int .i32 4447], .agg #[.int .i32 11904, .int .i32 12350], .agg #[.int .i32 12353, .int .i32 42191], .agg #[.int .i32 44032, .int .i32 55203], .agg #[.int .i32 63744, .int .i32 64255], .agg #[.int .i32 65072, .int .i32 65103], .agg #[.int .i32 65281, .int .i32 65376], .agg #[.int .i32 65504, .int .i32 65510], .agg #[.int .i32 127744, .int .i32 128591], .agg #[.int .i32 129280, .int .i32 129535], .agg #[.int .i32 131072, .int .i32 262141], .agg wideCells, undef, undef, undef, undef, undef, undef, undef, undef, undef, undef, undef, undef], []⟩) (by as_aux_lemma => kernel_rfl) ?_
  refine Great.wpList_runTo rfl (some 3) rfl (.pointer (some ⟨(w.alloc (.cells #[.int .i32 r] 21)).heap.size, 0, none⟩)) ((w.alloc (.cells #[.int .i32 r] 21)).alloc (.cells wideZ 60)) (by as_aux_lemma => kernel_rfl) ?_
  refine wpList_frame (a' := ⟨#[.int .i32 r, .pointer (some ⟨w.heap.size, 0, none⟩), .bool false, .pointer (some ⟨w.heap.size + 1, 0, none⟩), undef, .agg #[.int .i32 4352, .int .i32 4447], .agg #[.int .i32 11904, .int .i32 12350], .agg #[.int .i32 12353, .int .i32 42191], .agg #[.int .i32 44032, .int .i32 55203], .agg #[.int .i32 63744, .int .i32 64255], .agg #[.int .i32 65072, .int .i32 65103], .agg #[.int .i32 65281, .int .i32 65376], .agg #[.int .i32 65504, .int .i32 65510], .agg #[.int .i32 127744, .int .i32 128591], .agg #[.int .i32 129280, .int .i32 129535], .agg #[.int .i32 131072, .int .i32 262141], .agg wideCells, undef, undef, undef, undef, undef, undef, undef, undef, undef, undef, undef, undef], []⟩) (by as_aux_lemma => (rw [hz]; kernel_rfl)) ?_
  rw [hz] at B3
  have hset : ((w.alloc (.cells #[.int .i32 r] 21)).alloc (.cells wideZ 60)).setRow (w.heap.size + 1) wideCells = W := by rw [← hW, ← hz, World.setRow_alloc_new]
  refine wpList_store_rowTo rfl 60 _ _ rfl rfl (w.heap.size + 1) wideCells (by as_aux_lemma => kernel_rfl) (by as_aux_lemma => kernel_rfl) 60 wideZ (hz ▸ heap_alloc_new _ _) (by as_aux_lemma => kernel_rfl) (by as_aux_lemma => kernel_rfl) (by as_aux_lemma => kernel_rfl) ?_
  rw [hset]
  apply wpList_nil
  refine hK0 _ _ ?_
  clear hK0 K0 hz hW hset
  go_wp2_with fail
  refine (search38_any 11 (by omega) _ _ (wtoB r) _ ?_).mono ?_
  · rintro i hi W' ⟨m, rfl⟩
    exact wide1_any r i _ _ hi _ (B3.drewN m) ((K3.drewN m).cell 0)
  rintro e w3 ⟨i, rfl, hi, h1, h0, ⟨m, rfl⟩⟩
  have hc := wideB_found r i hi h1 h0
  clear h1 h0
  rename_i hK
  refine hK _ _ ?_
  clear hK
  rcases Nat.lt_or_ge i 11 with g | g
  · have hc := hc.2 g
    have l0 : W.cell? ⟨w.heap.size + 1, i * 2, none⟩ = some (.int .i32 (wfrom i)) := by rw [B3.cell, (wideCells_get i g).1]
    have lr : W.cell? ⟨w.heap.size, 0, none⟩ = some (.int .i32 r) := K3.cell 0
    have q1 : (i : Int) < 11 := by omega
    have q3 : decide ((i : Int) < 11) = true := decide_eq_true q1
    have q2 : (0 : Int) ≤ i := by omega
    have Q0 := Lib.hid hc
    clear hc K3 B3 hi
    go_wp2
    go_quiet (fail)
    go_wp2
    go_ret
    exact ⟨ret_bool Q0.out.symm, (by first | exact bel_drewN bel3 _ | exact bel_drewN (bel_drewN bel3 _) _)⟩
  · obtain rfl : i = 11 := by omega
    have HC := Lib.hid (hc.1 rfl)
    clear hc K3 B3 hi
    go_wp2
    go_quiet (fail)
    go_wp2
    go_ret
    exact ⟨ret_bool HC.out.symm, (by first | exact bel_drewN bel3 _ | exact bel_drewN (bel_drewN bel3 _) _)⟩
end Go.Proofs.Ytfpgmldgfgoboaa.Class

/- Wide characters, by the program and by the reference, walked: for seats that reach these of package class alone. No condition. -/
import Derived.Test.YtmjacmjogckihaaBase
import Derived.Test.YtmjacmjogckihaaMore
import Derived.Test.YtmjacmjogckihaaChecked
import Derived.Deep.WholeRow
import Derived.Great.CaseRows
import Derived.Great.Walk
namespace Go.Proofs.Ytmjacmjogckihaa.Class
open Go.RowKit
set_option linter.unusedVariables false
set_option linter.unusedSimpArgs false

def wideT : List (Int × Int) := [(4352, 4447), (11904, 12350), (12353, 42191), (44032, 55203), (63744, 64255), (65072, 65103), (65281, 65376), (65504, 65510), (127744, 128591), (129280, 129535), (131072, 262141)]

def hasW (r : Int) (x : Int × Int) : Bool := decide (x.1 ≤ r) && decide (r ≤ x.2)
def wideB (r : Int) : Bool := wideT.any (hasW r)

theorem wideT_apart : wideT.Pairwise (fun x y => x.2 < y.1) := by decide +kernel
theorem wideT_rows : ∀ x ∈ wideT, x.1 ≤ x.2 := by decide +kernel
theorem hasW_iff {r : Int} {x : Int × Int} : hasW r x = true ↔ x.1 ≤ r ∧ r ≤ x.2 := by simp [hasW]
theorem wideT_lt {i j : Nat} (hij : i < j) (hj : j < wideT.length) : (wideT[i]'(by omega)).2 < wideT[j].1 := List.pairwise_iff_getElem.1 wideT_apart i j (by omega) hj hij
theorem wideB_at (r : Int) (i : Nat) (hi : i ≤ 11) (h1 : ∀ h : i < 11, r ≤ (wideT[i]'(h)).2) (h0 : ∀ h : 0 < i, (wideT[i - 1]'(show i - 1 < 11 by omega)).2 < r) :
    (i = 11 → wideB r = false) ∧ (∀ h : i < 11, wideB r = decide ((wideT[i]'(h)).1 ≤ r)) := by
  have hl : wideT.length = 11 := rfl
  have low : ∀ j (hj : j < i), hasW r (wideT[j]'(by omega)) = false := by
    intro j hj
    have h2 := h0 (by omega)
    rw [Bool.eq_false_iff, Ne, hasW_iff]
    rcases Nat.lt_or_ge j (i - 1) with g | g
    · have := wideT_lt g (by omega)
      have := wideT_rows (wideT[i - 1]'(by omega)) (List.getElem_mem _)
      omega
    · obtain rfl : j = i - 1 := by omega
      omega
  have none_of : (∀ x ∈ wideT, hasW r x = false) → wideB r = false := fun h => by
    rw [wideB, List.any_eq_false]
    exact fun x hx => by rw [h x hx]; simp
  refine ⟨fun e => none_of fun x hx => ?_, fun hlt => ?_⟩
  · obtain ⟨j, hj, rfl⟩ := List.mem_iff_getElem.1 hx
    exact low j (by omega)
  · by_cases hr : (wideT[i]'(hlt)).1 ≤ r
    · rw [decide_eq_true hr, wideB, List.any_eq_true]
      exact ⟨_, List.getElem_mem _, hasW_iff.2 ⟨hr, h1 hlt⟩⟩
    · rw [decide_eq_false hr]
      refine none_of fun x hx => ?_
      obtain ⟨j, hj, rfl⟩ := List.mem_iff_getElem.1 hx
      rcases Nat.lt_trichotomy j i with g | g | g
      · exact low j g
      · subst g
        rw [Bool.eq_false_iff, Ne, hasW_iff]
        omega
      · have h2 := wideT_lt g hj
        have h3 := h1 hlt
        rw [Bool.eq_false_iff, Ne, hasW_iff]
        omega
set_option maxHeartbeats 1000000 in
theorem search38_any (n : Nat) (hn : n ≤ 1000) (c1 c2 : Value) (p : Nat → Bool) (w : World)
    (hf : ∀ i, i < n → ∀ W, Drawn w W → Calls Try.prog 66 #[.int .i64 i, c1, c2] W fun e W' => e = .returned (.bool (p i)) ∧ Drawn W W') :
    Calls Try.prog 65 #[.int .i64 n, .func (.func 66) #[] #[c1, c2]] w fun e w' => ∃ i : Nat, e = .returned (.int .i64 i) ∧ i ≤ n ∧ (i < n → p i = true) ∧ (0 < i → p (i - 1) = false) ∧ Drawn w w' := by
  have HF := Lib.hid hf
  clear hf
  go_enter Try.func65, Try.ntmps65
  go_wp2
  go_loopw [5, 6] (fun i j wr => ∃ a b : Nat, i = .int .i64 a ∧ j = .int .i64 b ∧ a ≤ b ∧ b ≤ n ∧ Hid (b < n → p b = true) ∧ Hid (0 < a → p (a - 1) = false) ∧ Drawn w wr) (fun i j wr => (intOf j).toNat - (intOf i).toNat)
  case atStart => exact ⟨0, n, rfl, rfl, by omega, by omega, fun h => absurd h (by omega), fun h => absurd h (by omega), Drawn.refl _⟩
  case round =>
    obtain ⟨a, b, rfl, rfl, hab, hbn, HB, HA, hd⟩ := hrel
    by_cases hlt : a < b
    · obtain ⟨h, hh⟩ : ∃ h : Nat, h = (a + b) / 2 := ⟨_, rfl⟩
      have h1 : a ≤ h := by omega
      have h2 : h < b := by omega
      have e0 : ((a : Int) + (b : Int)) / 2 = (h : Int) := by omega
      clear hh
      cases hp : p h with
      | true =>
        have HP := Lib.hid hp
        clear hp
        go_wp2_with (go_at_call 66; refine (HF.out h (by omega) _ hd).mono ?_; rintro e W' ⟨rfl, hd'⟩; rw [HP.out])
        go_roundw
        case rel => exact ⟨a, h, rfl, rfl, by omega, by omega, fun _ => HP.out, HA, hd.trans hd'⟩
        case measure => simp [intOf]; omega
      | false =>
        have HP := Lib.hid hp
        clear hp
        go_wp2_with (go_at_call 66; refine (HF.out h (by omega) _ hd).mono ?_; rintro e W' ⟨rfl, hd'⟩; rw [HP.out])
        go_roundw
        case rel => exact ⟨h + 1, b, by go_num, rfl, by omega, by omega, HB, fun _ => HP.out, hd.trans hd'⟩
        case measure => simp [intOf]; omega
    · obtain rfl : a = b := by omega
      go_wp2
      go_ret
      exact ⟨a, rfl, by omega, HB.out, HA.out, hd⟩
def wideCells : Array Value := #[.int .i32 4352, .int .i32 4447, .int .i32 11904, .int .i32 12350, .int .i32 12353, .int .i32 42191, .int .i32 44032, .int .i32 55203, .int .i32 63744, .int .i32 64255, .int .i32 65072, .int .i32 65103, .int .i32 65281, .int .i32 65376, .int .i32 65504, .int .i32 65510, .int .i32 127744, .int .i32 128591, .int .i32 129280, .int .i32 129535, .int .i32 131072, .int .i32 262141]
def wto (i : Nat) : Int := (wideT[i]?.getD (0, 0)).2
def wfrom (i : Nat) : Int := (wideT[i]?.getD (0, 0)).1
def wtoB (r : Int) (i : Nat) : Bool := decide (r ≤ wto i)
theorem wideCells_get : ∀ i, i < 11 → wideCells[i * 2]? = some (.int .i32 (wfrom i)) ∧ wideCells[i * 2 + 1]? = some (.int .i32 (wto i)) := by
  intro i hi
  match i, hi with
  | 0, _ => exact ⟨rfl, rfl⟩
  | 1, _ => exact ⟨rfl, rfl⟩
  | 2, _ => exact ⟨rfl, rfl⟩
  | 3, _ => exact ⟨rfl, rfl⟩
  | 4, _ => exact ⟨rfl, rfl⟩
  | 5, _ => exact ⟨rfl, rfl⟩
  | 6, _ => exact ⟨rfl, rfl⟩
  | 7, _ => exact ⟨rfl, rfl⟩
  | 8, _ => exact ⟨rfl, rfl⟩
  | 9, _ => exact ⟨rfl, rfl⟩
  | 10, _ => exact ⟨rfl, rfl⟩

set_option maxHeartbeats 400000 in
theorem wide1_any (r : Int) (i g g2 : Nat) (hi : i < 11) (w : World) (hb : Blk w g 81 wideCells) (hr : w.cell? ⟨g2, 0, none⟩ = some (.int .i32 r)) :
    Calls Try.prog 66 #[.int .i64 i, .pointer (some ⟨g, 0, none⟩), .pointer (some ⟨g2, 0, none⟩)] w fun e w' => e = .returned (.bool (wtoB r i)) ∧ Drawn w w' := by
  have h1 : w.cell? ⟨g, i * 2 + 1, none⟩ = some (.int .i32 (wto i)) := by rw [hb.cell, (wideCells_get i hi).2]
  have b1 : (i : Int) < 11 := by omega
  have b0 : (0 : Int) ≤ i := by omega
  clear hb
  go_enter Try.func66, Try.ntmps66
  go_wp2
  go_quiet (fail)
  go_wp2
  go_ret
  exact ⟨rfl, ⟨⟨_, rfl⟩⟩⟩

theorem wideB_found (r : Int) (i : Nat) (hi : i ≤ 11) (h1 : i < 11 → wtoB r i = true) (h0 : 0 < i → wtoB r (i - 1) = false) :
    (i = 11 → wideB r = false) ∧ (i < 11 → wideB r = decide (wfrom i ≤ r)) := by
  have e : ∀ (j : Nat) (hj : j < wideT.length), (wideT[j]?).getD ((0, 0) : Int × Int) = wideT[j]'hj := fun j hj => by rw [List.getElem?_eq_getElem hj]; rfl
  have hl : wideT.length = 11 := rfl
  have := wideB_at r i hi (fun h => by have := h1 h; rw [wtoB, wto, e i (by omega)] at this; exact of_decide_eq_true this) (fun h => by have := h0 h; rw [wtoB, wto, e (i - 1) (by omega)] at this; exact Int.not_le.1 (of_decide_eq_false this))
  refine ⟨this.1, fun h => ?_⟩
  rw [wfrom, e i (by omega)]
  exact this.2 h

def wideZ : Array Value := (List.replicate 22 (Value.int .i32 0)).toArray

set_option maxHeartbeats 2000000 in
set_option maxRecDepth 1000000 in
theorem wide_any (r : Int) (w : World) : Calls Try.prog 37 #[.int .i32 r] w fun e w' => e = .returned (.bool (wideB r)) ∧ Below w.heap.size w w' := by
  have K0 := Blk.boxed w 21 #[.int .i32 r]
  have bel0 := bel_alloc (Below.refl w.heap.size w) (.cells #[.int .i32 r] 21)
  have B3 := Blk.boxed (w.alloc (.cells #[.int .i32 r] 21)) 81 wideCells
  have K3 := K0.alloc (.cells wideCells 81)
  have bel3 := bel_alloc bel0 (.cells wideCells 81)
  have hz : (w.alloc (.cells #[.int .i32 r] 21)).heap.size = w.heap.size + 1 := by simp
  generalize hW : (w.alloc (.cells #[.int .i32 r] 21)).alloc (.cells wideCells 81) = W at B3 K3 bel3
  clear K0 bel0
  go_enter Try.func37, Try.ntmps37
  apply wp_seq_k; intro K0 hK0
  apply wp_region_lit
  refine Great.wpList_boxTo rfl 21 _ rfl (some 1) rfl w.heap.size rfl #[.int .i32 r] rfl ?_
  refine Great.wpList_runTo rfl (some 2) rfl (.bool false) (w.alloc (.cells #[.int .i32 r] 21)) (by as_aux_lemma => kernel_rfl) ?_
  apply wpList_nil
  refine hK0 _ _ ?_
  clear hK0 K0
  apply wp_seq_k; intro K0 hK0
  apply wp_region_lit
  refine wpList_buildTo rfl 80 _ rfl (some 5) rfl #[.int .i32 4352, .int .i32 4447] (by as_aux_lemma => kernel_rfl) ?_
  refine wpList_buildTo rfl 80 _ rfl (some 6) rfl #[.int .i32 11904, .int .i32 12350] (by as_aux_lemma => kernel_rfl) ?_
  refine wpList_buildTo rfl 80 _ rfl (some 7) rfl #[.int .i32 12353, .int .i32 42191] (by as_aux_lemma => kernel_rfl) ?_
  refine wpList_buildTo rfl 80 _ rfl (some 8) rfl #[.int .i32 44032, .int .i32 55203] (by as_aux_lemma => kernel_rfl) ?_
  refine wpList_buildTo rfl 80 _ rfl (some 9) rfl #[.int .i32 63744, .int .i32 64255] (by as_aux_lemma => kernel_rfl) ?_
  refine wpList_buildTo rfl 80 _ rfl (some 10) rfl #[.int .i32 65072, .int .i32 65103] (by as_aux_lemma => kernel_rfl) ?_
  refine wpList_buildTo rfl 80 _ rfl (some 11) rfl #[.int .i32 65281, .int .i32 65376] (by as_aux_lemma => kernel_rfl) ?_
  refine wpList_buildTo rfl 80 _ rfl (some 12) rfl #[.int .i32 65504, .int .i32 65510] (by as_aux_lemma => kernel_rfl) ?_
  refine wpList_buildTo rfl 80 _ rfl (some 13) rfl #[.int .i32 127744, .int .i32 128591] (by as_aux_lemma => kernel_rfl) ?_
  refine wpList_buildTo rfl 80 _ rfl (some 14) rfl #[.int .i32 129280, .int .i32 129535] (by as_aux_lemma => kernel_rfl) ?_
  refine wpList_buildTo rfl 80 _ rfl (some 15) rfl #[.int .i32 131072, .int .i32 262141] (by as_aux_lemma => kernel_rfl) ?_
  refine wpList_buildTo rfl 81 _ rfl (some 16) rfl wideCells (by as_aux_lemma => kernel_rfl) ?_
  refine wpList_frame (a' := ⟨#[.int .i32 r, .pointer (some ⟨w.heap.size, 0, none⟩), .bool false, undef, undef, .agg #[.int .i32 4352, .int .i32 4447], .agg #[.int .i32 11904, .int .i32 12350], .agg #[.int .i32 12353, .int .i32 42191], .agg #[.int .i32 44032, .int .i32 55203], .agg #[.int .i32 63744, .int .i32 64255], .agg #[.int .i32 65072, .int .i32 65103], .agg #[.int .i32 65281, .int .i32 65376], .agg #[.int .i32 65504, .int .i32 65510], .agg #[.int .i32 127744, .int .i32 128591], .agg #[.int .i32 129280, .int .i32 129535], .agg #[.int .i32 131072, .int .i32 262141], .agg wideCells, undef, undef, undef, undef, undef, undef, undef, undef, undef, undef, undef, undef], []⟩) (by as_aux_lemma => kernel_rfl) ?_
  refine Great.wpList_runTo rfl (some 3) rfl (.pointer (some ⟨(w.alloc (.cells #[.int .i32 r] 21)).heap.size, 0, none⟩)) ((w.alloc (.cells #[.int .i32 r] 21)).alloc (.cells wideZ 81)) (by as_aux_lemma => kernel_rfl) ?_
  refine wpList_frame (a' := ⟨#[.int .i32 r, .pointer (some ⟨w.heap.size, 0, none⟩), .bool false, .pointer (some ⟨w.heap.size + 1, 0, none⟩), undef, .agg #[.int .i32 4352, .int .i32 4447], .agg #[.int .i32 11904, .int .i32 12350], .agg #[.int .i32 12353, .int .i32 42191], .agg #[.int .i32 44032, .int .i32 55203], .agg #[.int .i32 63744, .int .i32 64255], .agg #[.int .i32 65072, .int .i32 65103], .agg #[.int .i32 65281, .int .i32 65376], .agg #[.int .i32 65504, .int .i32 65510], .agg #[.int .i32 127744, .int .i32 128591], .agg #[.int .i32 129280, .int .i32 129535], .agg #[.int .i32 131072, .int .i32 262141], .agg wideCells, undef, undef, undef, undef, undef, undef, undef, undef, undef, undef, undef, undef], []⟩) (by as_aux_lemma => (rw [hz]; kernel_rfl)) ?_
  rw [hz] at B3
  have hset : ((w.alloc (.cells #[.int .i32 r] 21)).alloc (.cells wideZ 81)).setRow (w.heap.size + 1) wideCells = W := by rw [← hW, ← hz, World.setRow_alloc_new]
  refine wpList_store_rowTo rfl 81 _ _ rfl rfl (w.heap.size + 1) wideCells (by as_aux_lemma => kernel_rfl) (by as_aux_lemma => kernel_rfl) 81 wideZ (hz ▸ heap_alloc_new _ _) (by as_aux_lemma => kernel_rfl) (by as_aux_lemma => kernel_rfl) (by as_aux_lemma => kernel_rfl) ?_
  rw [hset]
  apply wpList_nil
  refine hK0 _ _ ?_
  clear hK0 K0 hz hW hset
  go_wp2_with fail
  refine (search38_any 11 (by omega) _ _ (wtoB r) _ ?_).mono ?_
  · rintro i hi W' ⟨m, rfl⟩
    exact wide1_any r i _ _ hi _ (B3.drewN m) ((K3.drewN m).cell 0)
  rintro e w3 ⟨i, rfl, hi, h1, h0, ⟨m, rfl⟩⟩
  have hc := wideB_found r i hi h1 h0
  clear h1 h0
  rename_i hK
  refine hK _ _ ?_
  clear hK
  rcases Nat.lt_or_ge i 11 with g | g
  · have hc := hc.2 g
    have l0 : W.cell? ⟨w.heap.size + 1, i * 2, none⟩ = some (.int .i32 (wfrom i)) := by rw [B3.cell, (wideCells_get i g).1]
    have lr : W.cell? ⟨w.heap.size, 0, none⟩ = some (.int .i32 r) := K3.cell 0
    have q1 : (i : Int) < 11 := by omega
    have q3 : decide ((i : Int) < 11) = true := decide_eq_true q1
    have q2 : (0 : Int) ≤ i := by omega
    have Q0 := Lib.hid hc
    clear hc K3 B3 hi
    go_wp2
    go_quiet (fail)
    go_wp2
    go_ret
    exact ⟨ret_bool Q0.out.symm, (by first | exact bel_drewN bel3 _ | exact bel_drewN (bel_drewN bel3 _) _)⟩
  · obtain rfl : i = 11 := by omega
    have HC := Lib.hid (hc.1 rfl)
    clear hc K3 B3 hi
    go_wp2
    go_quiet (fail)
    go_wp2
    go_ret
    exact ⟨ret_bool HC.out.symm, (by first | exact bel_drewN bel3 _ | exact bel_drewN (bel_drewN bel3 _) _)⟩
def inB (r a b : Int) : Bool := decide (a ≤ r) && decide (r ≤ b)
theorem in_any (r a b : Int) (w : World) : Calls Try.prog 72 #[.int .i32 r, .int .i32 a, .int .i32 b] w fun e w' => e = .returned (.bool (inB r a b)) ∧ w = w' := by
  rcases Int.lt_or_le r a with h | h
  · go_enter Try.func72, Try.ntmps72
    go_wp2
    go_ret
    exact ⟨ret_bool (by simp [inB]; omega), rfl⟩
  · rcases Int.lt_or_le b r with g | g
    · go_enter Try.func72, Try.ntmps72
      go_wp2
      go_ret
      exact ⟨ret_bool (by simp [inB]; omega), rfl⟩
    · go_enter Try.func72, Try.ntmps72
      go_wp2
      go_ret
      exact ⟨ret_bool (by simp [inB]; omega), rfl⟩
theorem wideB_or (r : Int) : wideB r = (inB r 4352 4447 || (inB r 11904 12350 || (inB r 12353 42191 || (inB r 44032 55203 || (inB r 63744 64255 || (inB r 65072 65103 || (inB r 65281 65376 || (inB r 65504 65510 || (inB r 127744 128591 || (inB r 129280 129535 || (inB r 131072 262141))))))))))) := by simp [wideB, wideT, hasW, inB]
set_option maxHeartbeats 2000000 in
theorem refWide_any (r : Int) (w : World) : Calls Try.prog 71 #[.int .i32 r] w fun e w' => e = .returned (.bool (wideB r)) ∧ Below w.heap.size w w' := by
  go_enter Try.func71, Try.ntmps71
  go_wp2_with (go_at_call 72; refine (in_any _ _ _ _).mono ?_; rintro e w' ⟨rfl, rfl⟩)
  all_goals
    go_ret
    refine ⟨ret_bool ?_, Below.refl _ _⟩
    rw [wideB_or]
    simp [*]

end Go.Proofs.Ytmjacmjogckihaa.Class

/- The tables of line breaking's classes, and what is true of them: plain Lean, no program. No condition. -/
import Derived.Test.YtfpgmldgfgoboaaBase
namespace Go.Proofs.Ytfpgmldgfgoboaa.Class
set_option linter.unusedVariables false

def spanT : List (Int × Int × Int) := [(0, 8, 9), (9, 9, 10), (10, 10, 3), (11, 12, 1), (13, 13, 2), (14, 31, 9), (32, 32, 5), (33, 33, 17), (34, 34, 16), (36, 36, 23), (37, 37, 24), (39, 39, 16), (40, 40, 14), (41, 41, 15), (43, 43, 23), (44, 44, 18), (45, 45, 13), (46, 47, 18), (48, 57, 22), (58, 59, 18), (63, 63, 17), (91, 91, 14), (92, 92, 23), (93, 93, 15), (123, 123, 14), (124, 124, 10), (125, 125, 15), (127, 132, 9), (133, 133, 4), (134, 159, 9), (160, 160, 8), (161, 161, 14), (162, 162, 24), (163, 165, 23), (171, 171, 16), (173, 173, 10), (176, 176, 24), (177, 177, 23), (180, 180, 11), (187, 187, 16), (191, 191, 14), (712, 712, 11), (716, 716, 11), (768, 879, 9), (1155, 1161, 9), (1425, 1469, 9), (1552, 1562, 9), (1611, 1631, 9), (1632, 1641, 22), (2406, 2415, 22), (4352, 4607, 25), (6832, 6911, 9), (7616, 7679, 9), (8192, 8198, 10), (8199, 8199, 8), (8200, 8202, 10), (8203, 8203, 6), (8204, 8207, 9), (8208, 8208, 10), (8209, 8209, 8), (8210, 8211, 10), (8212, 8212, 12), (8216, 8217, 16), (8218, 8218, 14), (8220, 8221, 16), (8222, 8222, 14), (8228, 8230, 21), (8232, 8233, 1), (8234, 8238, 9), (8239, 8239, 8), (8240, 8247, 24), (8249, 8250, 16), (8252, 8253, 19), (8260, 8260, 18), (8261, 8261, 14), (8262, 8262, 15), (8288, 8288, 7), (8352, 8399, 23), (8400, 8447, 9), (8451, 8451, 24), (8470, 8470, 23), (8722, 8723, 23), (11904, 12287, 25), (12288, 12288, 10), (12289, 12290, 15), (12291, 12292, 25), (12293, 12293, 19), (12294, 12295, 25), (12296, 12296, 14), (12297, 12297, 15), (12298, 12298, 14), (12299, 12299, 15), (12300, 12300, 14), (12301, 12301, 15), (12302, 12302, 14), (12303, 12303, 15), (12304, 12304, 14), (12305, 12305, 15), (12306, 12307, 25), (12308, 12308, 14), (12309, 12309, 15), (12310, 12310, 14), (12311, 12311, 15), (12312, 12312, 14), (12313, 12313, 15), (12314, 12314, 14), (12315, 12315, 15), (12316, 12316, 19), (12317, 12317, 14), (12318, 12319, 15), (12320, 12329, 25), (12330, 12335, 9), (12336, 12352, 25), (12353, 12353, 20), (12354, 12354, 25), (12355, 12355, 20), (12356, 12356, 25), (12357, 12357, 20), (12358, 12358, 25), (12359, 12359, 20), (12360, 12360, 25), (12361, 12361, 20), (12362, 12386, 25), (12387, 12387, 20), (12388, 12418, 25), (12419, 12419, 20), (12420, 12420, 25), (12421, 12421, 20), (12422, 12422, 25), (12423, 12423, 20), (12424, 12429, 25), (12430, 12430, 20), (12431, 12436, 25), (12437, 12438, 20), (12439, 12440, 25), (12441, 12442, 9), (12443, 12446, 19), (12447, 12447, 25), (12448, 12448, 19), (12449, 12449, 20), (12450, 12450, 25), (12451, 12451, 20), (12452, 12452, 25), (12453, 12453, 20), (12454, 12454, 25), (12455, 12455, 20), (12456, 12456, 25), (12457, 12457, 20), (12458, 12482, 25), (12483, 12483, 20), (12484, 12514, 25), (12515, 12515, 20), (12516, 12516, 25), (12517, 12517, 20), (12518, 12518, 25), (12519, 12519, 20), (12520, 12525, 25), (12526, 12526, 20), (12527, 12532, 25), (12533, 12534, 20), (12535, 12538, 25), (12539, 12539, 19), (12540, 12540, 20), (12541, 12542, 19), (12543, 19903, 25), (19968, 42191, 25), (44032, 55203, 25), (63744, 64255, 25), (65024, 65039, 9), (65056, 65071, 9), (65279, 65279, 7), (65281, 65281, 17), (65282, 65287, 25), (65288, 65288, 14), (65289, 65289, 15), (65290, 65291, 25), (65292, 65292, 15), (65293, 65293, 25), (65294, 65294, 15), (65295, 65305, 25), (65306, 65307, 19), (65308, 65310, 25), (65311, 65311, 17), (65312, 65376, 25), (65532, 65532, 26), (126976, 129791, 25), (131072, 262141, 25), (917505, 917999, 9)]
def rowT : List (Int × Int × Int) := [(11, 12, 1), (8232, 8233, 1), (13, 13, 2), (10, 10, 3), (133, 133, 4), (32, 32, 5), (8203, 8203, 6), (8288, 8288, 7), (65279, 65279, 7), (160, 160, 8), (8199, 8199, 8), (8209, 8209, 8), (8239, 8239, 8), (0, 8, 9), (14, 31, 9), (127, 132, 9), (134, 159, 9), (768, 879, 9), (1155, 1161, 9), (1425, 1469, 9), (1552, 1562, 9), (1611, 1631, 9), (6832, 6911, 9), (7616, 7679, 9), (8204, 8207, 9), (8234, 8238, 9), (8400, 8447, 9), (12330, 12335, 9), (12441, 12442, 9), (65024, 65039, 9), (65056, 65071, 9), (917505, 917999, 9), (9, 9, 10), (124, 124, 10), (173, 173, 10), (8192, 8198, 10), (8200, 8202, 10), (8208, 8208, 10), (8210, 8211, 10), (12288, 12288, 10), (180, 180, 11), (712, 712, 11), (716, 716, 11), (8212, 8212, 12), (45, 45, 13), (40, 40, 14), (91, 91, 14), (123, 123, 14), (161, 161, 14), (191, 191, 14), (8218, 8218, 14), (8222, 8222, 14), (8261, 8261, 14), (12296, 12296, 14), (12298, 12298, 14), (12300, 12300, 14), (12302, 12302, 14), (12304, 12304, 14), (12308, 12308, 14), (12310, 12310, 14), (12312, 12312, 14), (12314, 12314, 14), (12317, 12317, 14), (65288, 65288, 14), (41, 41, 15), (93, 93, 15), (125, 125, 15), (8262, 8262, 15), (12289, 12290, 15), (12297, 12297, 15), (12299, 12299, 15), (12301, 12301, 15), (12303, 12303, 15), (12305, 12305, 15), (12309, 12309, 15), (12311, 12311, 15), (12313, 12313, 15), (12315, 12315, 15), (12318, 12319, 15), (65289, 65289, 15), (65292, 65292, 15), (65294, 65294, 15), (34, 34, 16), (39, 39, 16), (171, 171, 16), (187, 187, 16), (8216, 8217, 16), (8220, 8221, 16), (8249, 8250, 16), (33, 33, 17), (63, 63, 17), (65281, 65281, 17), (65311, 65311, 17), (44, 44, 18), (46, 47, 18), (58, 59, 18), (8260, 8260, 18), (8252, 8253, 19), (12293, 12293, 19), (12316, 12316, 19), (12443, 12446, 19), (12448, 12448, 19), (12539, 12539, 19), (12541, 12542, 19), (65306, 65307, 19), (12353, 12353, 20), (12355, 12355, 20), (12357, 12357, 20), (12359, 12359, 20), (12361, 12361, 20), (12387, 12387, 20), (12419, 12419, 20), (12421, 12421, 20), (12423, 12423, 20), (12430, 12430, 20), (12437, 12438, 20), (12449, 12449, 20), (12451, 12451, 20), (12453, 12453, 20), (12455, 12455, 20), (12457, 12457, 20), (12483, 12483, 20), (12515, 12515, 20), (12517, 12517, 20), (12519, 12519, 20), (12526, 12526, 20), (12533, 12534, 20), (12540, 12540, 20), (8228, 8230, 21), (48, 57, 22), (1632, 1641, 22), (2406, 2415, 22), (36, 36, 23), (43, 43, 23), (92, 92, 23), (163, 165, 23), (177, 177, 23), (8352, 8399, 23), (8470, 8470, 23), (8722, 8723, 23), (37, 37, 24), (162, 162, 24), (176, 176, 24), (8240, 8247, 24), (8451, 8451, 24), (4352, 4607, 25), (11904, 12287, 25), (12291, 12292, 25), (12294, 12295, 25), (12306, 12307, 25), (12320, 12329, 25), (12336, 12352, 25), (12354, 12354, 25), (12356, 12356, 25), (12358, 12358, 25), (12360, 12360, 25), (12362, 12386, 25), (12388, 12418, 25), (12420, 12420, 25), (12422, 12422, 25), (12424, 12429, 25), (12431, 12436, 25), (12439, 12440, 25), (12447, 12447, 25), (12450, 12450, 25), (12452, 12452, 25), (12454, 12454, 25), (12456, 12456, 25), (12458, 12482, 25), (12484, 12514, 25), (12516, 12516, 25), (12518, 12518, 25), (12520, 12525, 25), (12527, 12532, 25), (12535, 12538, 25), (12543, 19903, 25), (19968, 42191, 25), (44032, 55203, 25), (63744, 64255, 25), (65282, 65287, 25), (65290, 65291, 25), (65293, 65293, 25), (65295, 65305, 25), (65308, 65310, 25), (65312, 65376, 25), (126976, 129791, 25), (131072, 262141, 25), (65532, 65532, 26)]
def wideT : List (Int × Int) := [(4352, 4447), (11904, 12350), (12353, 42191), (44032, 55203), (63744, 64255), (65072, 65103), (65281, 65376), (65504, 65510), (127744, 128591), (129280, 129535), (131072, 262141)]

def has (r : Int) (x : Int × Int × Int) : Bool := decide (x.1 ≤ r) && decide (r ≤ x.2.1)
def clsOf (r : Int) : Int := ((spanT.find? (has r)).map (·.2.2)).getD 0
def refOf (r : Int) : Int := ((rowT.find? (has r)).map (·.2.2)).getD 0
def hasW (r : Int) (x : Int × Int) : Bool := decide (x.1 ≤ r) && decide (r ≤ x.2)
def wideB (r : Int) : Bool := wideT.any (hasW r)

theorem spanT_length : spanT.length = 188 := by decide +kernel
theorem rowT_length : rowT.length = 188 := by decide +kernel
theorem spanT_apart : spanT.Pairwise (fun x y => x.2.1 < y.1) := by decide +kernel
theorem spanT_rows : ∀ x ∈ spanT, x.1 ≤ x.2.1 ∧ 0 ≤ x.2.2 ∧ x.2.2 ≤ 26 := by decide +kernel
theorem rowT_perm : rowT.Perm spanT := by
  rw [← List.isPerm_iff]
  decide +kernel
theorem wideT_apart : wideT.Pairwise (fun x y => x.2 < y.1) := by decide +kernel
theorem wideT_rows : ∀ x ∈ wideT, x.1 ≤ x.2 := by decide +kernel

theorem has_iff {r : Int} {x : Int × Int × Int} : has r x = true ↔ x.1 ≤ r ∧ r ≤ x.2.1 := by simp [has]
theorem hasW_iff {r : Int} {x : Int × Int} : hasW r x = true ↔ x.1 ≤ r ∧ r ≤ x.2 := by simp [hasW]

theorem spanT_lt {i j : Nat} (hij : i < j) (hj : j < spanT.length) : (spanT[i]'(by omega)).2.1 < spanT[j].1 := List.pairwise_iff_getElem.1 spanT_apart i j (by omega) hj hij
theorem spanT_one {r : Int} {x y : Int × Int × Int} (hx : x ∈ spanT) (hy : y ∈ spanT) (h : has r x = true) (g : has r y = true) : x = y := by
  obtain ⟨i, hi, rfl⟩ := List.mem_iff_getElem.1 hx
  obtain ⟨j, hj, rfl⟩ := List.mem_iff_getElem.1 hy
  rw [has_iff] at h g
  rcases Nat.lt_trichotomy i j with h1 | h1 | h1
  · have := spanT_lt h1 hj
    omega
  · subst h1; rfl
  · have := spanT_lt h1 hi
    omega
theorem refOf_eq (r : Int) : refOf r = clsOf r := by
  unfold refOf clsOf
  congr 2
  cases h : spanT.find? (has r) with
  | none =>
    rw [List.find?_eq_none] at h ⊢
    exact fun x hx => h x (rowT_perm.mem_iff.1 hx)
  | some x =>
    have hx := List.find?_some h
    have hm := List.mem_of_find?_eq_some h
    cases g : rowT.find? (has r) with
    | none => exact absurd hx (List.find?_eq_none.1 g x (rowT_perm.mem_iff.2 hm))
    | some y =>
      have hy := List.find?_some g
      have hn := rowT_perm.mem_iff.1 (List.mem_of_find?_eq_some g)
      rw [spanT_one hn hm hy hx]
theorem clsOf_rng (r : Int) : 0 ≤ clsOf r ∧ clsOf r ≤ 26 := by
  unfold clsOf
  cases h : spanT.find? (has r) with
  | none => simp
  | some x =>
    have := spanT_rows x (List.mem_of_find?_eq_some h)
    simp
    omega
/-- What the binary search finds. -/
theorem clsOf_at (r : Int) (i : Nat) (hi : i ≤ 188) (h1 : ∀ h : i < 188, r ≤ (spanT[i]'(by rw [spanT_length]; exact h)).2.1) (h0 : ∀ h : 0 < i, (spanT[i - 1]'(by rw [spanT_length]; omega)).2.1 < r) :
    (i = 188 → clsOf r = 0) ∧ (∀ h : i < 188, (r < (spanT[i]'(by rw [spanT_length]; exact h)).1 → clsOf r = 0) ∧ ((spanT[i]'(by rw [spanT_length]; exact h)).1 ≤ r → clsOf r = (spanT[i]'(by rw [spanT_length]; exact h)).2.2)) := by
  have hl := spanT_length
  have low : ∀ j (hj : j < i), has r (spanT[j]'(by omega)) = false := by
    intro j hj
    have h2 := h0 (by omega)
    rw [Bool.eq_false_iff, Ne, has_iff]
    rcases Nat.lt_or_ge j (i - 1) with g | g
    · have := spanT_lt g (by omega)
      have := (spanT_rows (spanT[i - 1]'(by omega)) (List.getElem_mem _)).1
      omega
    · obtain rfl : j = i - 1 := by omega
      omega
  have none_of : (∀ x ∈ spanT, has r x = false) → clsOf r = 0 := fun h => by
    have : spanT.find? (has r) = none := List.find?_eq_none.2 fun x hx => by rw [h x hx]; simp
    rw [clsOf, this]; rfl
  refine ⟨fun e => none_of fun x hx => ?_, fun hlt => ⟨fun hr => none_of fun x hx => ?_, fun hr => ?_⟩⟩
  · obtain ⟨j, hj, rfl⟩ := List.mem_iff_getElem.1 hx
    exact low j (by omega)
  · obtain ⟨j, hj, rfl⟩ := List.mem_iff_getElem.1 hx
    rcases Nat.lt_trichotomy j i with g | g | g
    · exact low j g
    · subst g
      rw [Bool.eq_false_iff, Ne, has_iff]
      omega
    · have h2 := spanT_lt g hj
      have h3 := h1 hlt
      rw [Bool.eq_false_iff, Ne, has_iff]
      omega
  · have hm : spanT[i]'(by omega) ∈ spanT := List.getElem_mem _
    have hh : has r (spanT[i]'(by omega)) = true := has_iff.2 ⟨hr, h1 hlt⟩
    cases g : spanT.find? (has r) with
    | none => exact absurd hh (List.find?_eq_none.1 g _ hm)
    | some y =>
      have hy := List.find?_some g
      rw [clsOf, g, spanT_one (List.mem_of_find?_eq_some g) hm hy hh]; rfl

theorem wideT_lt {i j : Nat} (hij : i < j) (hj : j < wideT.length) : (wideT[i]'(by omega)).2 < wideT[j].1 := List.pairwise_iff_getElem.1 wideT_apart i j (by omega) hj hij
theorem wideB_at (r : Int) (i : Nat) (hi : i ≤ 11) (h1 : ∀ h : i < 11, r ≤ (wideT[i]'(h)).2) (h0 : ∀ h : 0 < i, (wideT[i - 1]'(show i - 1 < 11 by omega)).2 < r) :
    (i = 11 → wideB r = false) ∧ (∀ h : i < 11, wideB r = decide ((wideT[i]'(h)).1 ≤ r)) := by
  have hl : wideT.length = 11 := rfl
  have low : ∀ j (hj : j < i), hasW r (wideT[j]'(by omega)) = false := by
    intro j hj
    have h2 := h0 (by omega)
    rw [Bool.eq_false_iff, Ne, hasW_iff]
    rcases Nat.lt_or_ge j (i - 1) with g | g
    · have := wideT_lt g (by omega)
      have := wideT_rows (wideT[i - 1]'(by omega)) (List.getElem_mem _)
      omega
    · obtain rfl : j = i - 1 := by omega
      omega
  have none_of : (∀ x ∈ wideT, hasW r x = false) → wideB r = false := fun h => by
    rw [wideB, List.any_eq_false]
    exact fun x hx => by rw [h x hx]; simp
  refine ⟨fun e => none_of fun x hx => ?_, fun hlt => ?_⟩
  · obtain ⟨j, hj, rfl⟩ := List.mem_iff_getElem.1 hx
    exact low j (by omega)
  · by_cases hr : (wideT[i]'(hlt)).1 ≤ r
    · rw [decide_eq_true hr, wideB, List.any_eq_true]
      exact ⟨_, List.getElem_mem _, hasW_iff.2 ⟨hr, h1 hlt⟩⟩
    · rw [decide_eq_false hr]
      refine none_of fun x hx => ?_
      obtain ⟨j, hj, rfl⟩ := List.mem_iff_getElem.1 hx
      rcases Nat.lt_trichotomy j i with g | g | g
      · exact low j g
      · subst g
        rw [Bool.eq_false_iff, Ne, hasW_iff]
        omega
      · have h2 := wideT_lt g hj
        have h3 := h1 hlt
        rw [Bool.eq_false_iff, Ne, hasW_iff]
        omega

/-- A list in which at most one stands. -/
theorem count_le_one {p : Int × Int × Int → Bool} : ∀ {l : List (Int × Int × Int)}, l.Pairwise (fun x y => ¬ (p x = true ∧ p y = true)) → l.countP p ≤ 1
  | [], _ => by simp
  | x :: l, h => by
    rw [List.pairwise_cons] at h
    have ih := count_le_one h.2
    cases hx : p x with
    | false => simpa [List.countP_cons, hx] using ih
    | true =>
      have : l.countP p = 0 := by
        rw [List.countP_eq_zero]
        intro y hy hp
        exact h.1 y hy ⟨hx, hp⟩
      simp [List.countP_cons, hx, this]
def manyOf (r : Int) : Nat := rowT.countP (has r)
theorem manyOf_le (r : Int) : manyOf r ≤ 1 := by
  rw [manyOf, rowT_perm.countP_eq]
  apply count_le_one
  refine List.pairwise_iff_getElem.2 fun i j hi hj hij => ?_
  have := spanT_lt hij hj
  rw [has_iff, has_iff]
  omega
theorem manyOf_zero (r : Int) (h : manyOf r = 0) : clsOf r = 0 := by
  rw [manyOf, rowT_perm.countP_eq, List.countP_eq_zero] at h
  have : spanT.find? (has r) = none := List.find?_eq_none.2 fun x hx => h x hx
  rw [clsOf, this]; rfl
theorem marks_wide : ∀ x ∈ spanT, x.2.2 = 9 → ∀ y ∈ wideT, max x.1 y.1 ≤ min x.2.1 y.2 → (12330 ≤ max x.1 y.1 ∧ min x.2.1 y.2 ≤ 12335) ∨ (12441 ≤ max x.1 y.1 ∧ min x.2.1 y.2 ≤ 12442) := by decide +kernel
theorem mark_wide (r : Int) (h : clsOf r = 9) (g : wideB r = true) : (12330 ≤ r ∧ r ≤ 12335) ∨ (12441 ≤ r ∧ r ≤ 12442) := by
  rw [wideB, List.any_eq_true] at g
  obtain ⟨y, hy, hw⟩ := g
  unfold clsOf at h
  cases hf : spanT.find? (has r) with
  | none => rw [hf] at h; simp at h
  | some x =>
    have hx := List.find?_some hf
    have hm := List.mem_of_find?_eq_some hf
    rw [hf] at h
    rw [has_iff] at hx
    rw [hasW_iff] at hw
    have := marks_wide x hm (by simpa using h) y hy (by omega)
    omega
end Go.Proofs.Ytfpgmldgfgoboaa.Class

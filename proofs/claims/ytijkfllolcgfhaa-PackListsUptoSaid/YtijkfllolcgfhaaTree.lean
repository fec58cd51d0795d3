/- Arguments opened to the bottom, with the bounds on what was read: strings, slices, structs, arrays, one within the other. Plain laws of readings; no condition. -/
import Derived.Test.YtijkfllolcgfhaaOpen
namespace Go.Proofs.Ytijkfllolcgfhaa
open Go.Joins Go.ChangeShapes Go.WideShapes Go.RowKit Go.Deep
set_option linter.unusedVariables false
set_option linter.unusedSimpArgs false

section
variable {H : Type} {enc : TypeId × Value → H} {P : Program} {w : World} {base : Nat} {held : Bool}
/-- All that a datum weighs is within reach. -/
def Lim (P : Program) (t : TypeId) (d : DataW H) : Prop := ∀ k ∈ d.weights P t, k ≤ 140737488351232
theorem lim_each : ∀ (ts : List TypeId) (ds : List (DataW H)) (j : Nat) (t : TypeId) (d : DataW H), (∀ k ∈ DataW.weightsEach P ts ds, k ≤ 140737488351232) → ts[j]? = some t → ds[j]? = some d → Lim P t d
  | [], _, j, t, d, _, ht, _ => by simp at ht
  | _ :: _, [], j, t, d, _, _, hd => by simp at hd
  | t0 :: ts, d0 :: ds, 0, t, d, h, ht, hd => by
    simp at ht hd
    subst ht hd
    intro k hk
    exact h k (by rw [DataW.weightsEach]; exact List.mem_append_left _ hk)
  | t0 :: ts, d0 :: ds, j + 1, t, d, h, ht, hd => by
    refine lim_each ts ds j t d (fun k hk => h k ?_) (by simpa using ht) (by simpa using hd)
    rw [DataW.weightsEach]
    exact List.mem_append_right _ hk
theorem lim_all : ∀ (e : TypeId) (ds : List (DataW H)), (∀ k ∈ DataW.weightsAll P e ds, k ≤ 140737488351232) → ∀ d ∈ ds, Lim P e d
  | e, [], _, d, hd => by cases hd
  | e, d0 :: ds, h, d, hd => by
    rcases List.mem_cons.1 hd with rfl | hd
    · intro k hk
      exact h k (by rw [DataW.weightsAll]; exact List.mem_append_left _ hk)
    · exact lim_all e ds (fun k hk => h k (by rw [DataW.weightsAll]; exact List.mem_append_right _ hk)) d hd
theorem lim_args {ts : List TypeId} {ds : List (DataW H)} (hsz : (DataW.weightsEach P ts ds).all (· ≤ reachBytes) = true) {j : Nat} {t : TypeId} {d : DataW H} (ht : ts[j]? = some t) (hd : ds[j]? = some d) : Lim P t d :=
  lim_each ts ds j t d (fun k hk => by
    have := List.all_eq_true.1 hsz k hk
    exact of_decide_eq_true this) ht hd
theorem tree_string {t : TypeId} {fuel : Nat} {cs : List Value} {x : DataW H × List MemPlace} (ht : P.underlying t = some .string) (h : DataW.trod enc P w base (fun _ => true) held fuel t cs = some x) (hw : Lim P t x.1) :
    ∃ s : ByteArray, cs = [.string s] ∧ s.size ≤ 140737488351232 := by
  obtain ⟨s, rfl, rfl, _⟩ := DataW.trod_string ht h
  refine ⟨s, rfl, ?_⟩
  have := hw s.data.toList.length (by simp [DataW.weights])
  rwa [Array.length_toList] at this
theorem tree_struct {t : TypeId} {fs : Array Field} {fuel : Nat} {cs : List Value} {x : DataW H × List MemPlace} (ht : P.underlying t = some (.struct fs)) (h : DataW.trod enc P w base (fun _ => true) held fuel t cs = some x) (hw : Lim P t x.1) :
    cs.length = P.cellsOf t ∧ ∀ (i : Nat) (f : Field), fs[i]? = some f → ∃ (n : Nat) (y : DataW H × List MemPlace), DataW.trod enc P w base (fun _ => true) held n f.type ((cs.drop f.offset).take (P.cellsOf f.type)) = some y ∧ Lim P f.type y.1 := by
  obtain ⟨xs, n, _, rfl, hl, hlen, hf⟩ := DataW.trod_struct ht h
  refine ⟨hl, fun i f hi => ?_⟩
  have hlt : i < fs.size := (Array.getElem?_eq_some_iff.1 hi).1
  have hx : xs[i]? = some (xs[i]'(by omega)) := List.getElem?_eq_getElem (by omega)
  refine ⟨n, _, (hf i f hi).trans hx, ?_⟩
  have hw' : ∀ k ∈ DataW.weightsEach P (fs.toList.map (·.type)) (xs.map (·.1)), k ≤ 140737488351232 := by
    intro k hk
    exact hw k (by simp only [DataW.weights, ht]; exact hk)
  exact lim_each _ _ i _ _ hw' (by rw [List.getElem?_map, Array.getElem?_toList, hi]; rfl) (by rw [List.getElem?_map, hx]; rfl)
theorem tree_array {t e : TypeId} {m : Nat} {fuel : Nat} {cs : List Value} {x : DataW H × List MemPlace} (ht : P.underlying t = some (.array m e)) (h : DataW.trod enc P w base (fun _ => true) held fuel t cs = some x) (hw : Lim P t x.1) :
    cs.length = P.cellsOf t ∧ ∀ i, i < m → ∃ (n : Nat) (y : DataW H × List MemPlace), DataW.trod enc P w base (fun _ => true) held n e ((cs.drop (i * P.cellsOf e)).take (P.cellsOf e)) = some y ∧ Lim P e y.1 := by
  obtain ⟨xs, n, _, rfl, hl, hlen, hf⟩ := DataW.trod_array ht h
  refine ⟨hl, fun i hi => ?_⟩
  have hx : xs[i]? = some (xs[i]'(by omega)) := List.getElem?_eq_getElem (by omega)
  refine ⟨n, _, (hf i hi).trans hx, ?_⟩
  refine lim_all e (xs.map (·.1)) (fun k hk => hw k (by simp only [DataW.weights, ht]; exact hk)) _ ?_
  exact List.mem_map_of_mem (List.getElem_mem _)
theorem tree_slice {t e : TypeId} {fuel : Nat} {v : Value} {x : DataW H × List MemPlace} (ht : P.underlying t = some (.slice e)) (h : DataW.trod enc P w base (fun _ => true) held fuel t [v] = some x) (hw : Lim P t x.1) :
    ∃ (A : Option Addr) (len cap : Nat), v = .slice A len cap ∧ len ≤ cap ∧ cap ≤ maxLen ∧ len * P.bytesOf e ≤ 140737488351232 ∧ cap * P.bytesOf e ≤ 140737488351232 ∧ (A = none → len = 0 ∧ cap = 0) ∧
      ∀ i, i < len → ∃ (ad : Addr) (cs : List Value) (n : Nat) (y : DataW H × List MemPlace), A = some ad ∧ cs.length = P.cellsOf e ∧ (∀ j, j < P.cellsOf e → w.cell? (ad.add (i * P.cellsOf e + j)) = cs[j]?) ∧
        DataW.trod enc P w base (fun _ => true) held n e cs = some y ∧ Lim P e y.1 := by
  rcases open_slice ht h with ⟨h0, _⟩ | ⟨a, len, cap, m, n, D, Pl, hcs, hb, hl, hm, hmm, rfl, hi⟩
  · simp only [List.cons.injEq, and_true] at h0
    exact ⟨none, 0, 0, h0, Nat.le_refl _, Nat.zero_le _, by omega, by omega, fun _ => ⟨rfl, rfl⟩, fun i hi => absurd hi (by omega)⟩
  · simp only [List.cons.injEq, and_true] at hcs
    simp only [if_true] at hmm
    subst hmm
    have hwt := hw
    unfold Lim at hwt
    simp only [DataW.weights, ht, List.length_map, List.length_range] at hwt
    have h1 := hwt _ (List.mem_cons_self ..)
    have hD := lim_all e ((List.range len).map D) (fun k hk => hwt k (List.mem_cons_of_mem _ (List.mem_append_left _ hk)))
    rw [show len + (m - len) = m by omega] at h1
    refine ⟨some a, len, m, hcs, hl, hm, Nat.le_trans (Nat.mul_le_mul_right _ hl) h1, h1, (fun e => by cases e), fun i hil => ?_⟩
    obtain ⟨cs', hc, ht'⟩ := hi i (by omega)
    obtain ⟨_, hcl, hat⟩ := World.cells?_some hc
    exact ⟨a, cs', n, _, rfl, hcl, fun j hj => by rw [← Go.Deep.add_add]; exact hat j hj, ht', hD (D i) (List.mem_map_of_mem (List.mem_range.2 hil))⟩
theorem okWide_array {r : Reach} {b0 m : Nat} {t e : TypeId} {v : Value} (ht : P.underlying t = some (.array m e)) (h : Value.okWide P w r b0 t v) : ∃ cs, v = .agg cs ∧ cs.size = P.cellsOf t := by
  simp only [Value.okWide, ht] at h
  obtain ⟨cs, h1, h2, _⟩ := h
  exact ⟨cs, h1, h2⟩
/-- An array of two strings, by value. -/
theorem tree_str2 {r : Reach} {b0 : Nat} {t e : TypeId} {v : Value} {d : DataW H} {ps : List MemPlace} (ht : P.underlying t = some (.array 2 e)) (he : P.underlying e = some .string) (hc : P.cellsOf e = 1) (hc2 : P.cellsOf t = 2)
    (hv : Value.okWide P w r b0 t v) (h : DataW.Trod enc P w base (fun _ => true) held t v d ps) (hw : Lim P t d) : ∃ s0 s1 : ByteArray, v = .agg #[.string s0, .string s1] ∧ s0.size ≤ 140737488351232 ∧ s1.size ≤ 140737488351232 := by
  obtain ⟨cs, rfl, hsz⟩ := okWide_array ht hv
  obtain ⟨l⟩ := cs
  obtain ⟨fuel, hf⟩ := h
  match l, hsz.trans hc2 with
  | [c0, c1], _ =>
    obtain ⟨_, hi⟩ := tree_array ht hf hw
    obtain ⟨n0, y0, h0, l0⟩ := hi 0 (by omega)
    obtain ⟨n1, y1, h1, l1⟩ := hi 1 (by omega)
    rw [hc] at h0 h1
    obtain ⟨s0, e0, b0⟩ := tree_string he h0 l0
    obtain ⟨s1, e1, b1⟩ := tree_string he h1 l1
    simp [Value.cells] at e0 e1
    subst e0 e1
    exact ⟨s0, s1, rfl, b0, b1⟩
/-- A struct of one-cell fields: each field's cell. -/
theorem tree_fields {t : TypeId} {fs : Array Field} {fuel : Nat} {cs : List Value} {x : DataW H × List MemPlace} (ht : P.underlying t = some (.struct fs)) (hone : oneCellFields P fs = true) (h : DataW.trod enc P w base (fun _ => true) held fuel t cs = some x) (hw : Lim P t x.1) :
    cs.length = P.cellsOf t ∧ ∀ (i : Nat) (f : Field), fs[i]? = some f → i < cs.length → ∃ (c : Value) (n : Nat) (y : DataW H × List MemPlace), cs[i]? = some c ∧ DataW.trod enc P w base (fun _ => true) held n f.type [c] = some y ∧ Lim P f.type y.1 := by
  obtain ⟨hl, hf⟩ := tree_struct ht h hw
  refine ⟨hl, fun i f hi hlt => ?_⟩
  obtain ⟨n, y, h1, h2⟩ := hf i f hi
  obtain ⟨ho, hk⟩ := hone_of hone i f hi
  rw [ho, hk, List.drop_eq_getElem_cons hlt] at h1
  exact ⟨_, n, y, List.getElem?_eq_getElem hlt, h1, h2⟩
theorem list_of {α : Type} {k : Nat} {f : α → List Value} {Ok : α → Prop} (hf : ∀ x, (f x).length = k) {c : Nat → Option Value} : ∀ (len : Nat), (∀ i, i < len → ∃ x : α, Ok x ∧ ∀ j, j < k → c (i * k + j) = (f x)[j]?) →
    ∃ xs : List α, xs.length = len ∧ (∀ x ∈ xs, Ok x) ∧ ∀ (i : Nat) (h : i < xs.length) (j : Nat), j < k → c (i * k + j) = (f xs[i])[j]? := by
  intro len
  induction len with
  | zero => intro _; exact ⟨[], rfl, by simp, fun i h => by simp at h⟩
  | succ len ih =>
    intro hc
    obtain ⟨xs, hl, hw, hx⟩ := ih (fun i hi => hc i (by omega))
    obtain ⟨x, ho, hxc⟩ := hc len (by omega)
    refine ⟨xs ++ [x], by simp [hl], fun y hy => ?_, fun i h j hj => ?_⟩
    · rcases List.mem_append.1 hy with h1 | h1
      · exact hw y h1
      · rw [List.mem_singleton] at h1; rw [h1]; exact ho
    · rcases Nat.lt_or_ge i xs.length with hi | hi
      · rw [List.getElem_append_left hi]
        exact hx i hi j hj
      · obtain rfl : i = xs.length := by simp at h; omega
        simp
        rw [hl]
        exact hxc j hj
theorem flat_len {α β : Type} {f : α → List β} {k : Nat} (hf : ∀ x, (f x).length = k) (l : List α) : (l.flatMap f).length = l.length * k := by
  induction l with
  | nil => simp
  | cons x l ih => rw [List.flatMap_cons, List.length_append, ih, hf, List.length_cons, Nat.succ_mul]; omega
theorem flat_at {α β : Type} {f : α → List β} {k : Nat} (hf : ∀ x, (f x).length = k) (d : Nat) (hd : d < k) : ∀ (l : List α) (i : Nat) (h : i < l.length), (l.flatMap f)[i * k + d]? = (f l[i])[d]?
  | x :: l, 0, _ => by
    rw [List.flatMap_cons, List.getElem?_append_left (by rw [hf]; omega)]
    simp
  | x :: l, i + 1, h => by
    rw [List.flatMap_cons, List.getElem?_append_right (by rw [hf, Nat.succ_mul]; omega), hf]
    have := flat_at hf d hd l i (by simpa using h)
    rw [show (i + 1) * k + d - k = i * k + d by rw [Nat.succ_mul]; omega, this]
    rfl
theorem flat_cut {k i n : Nat} (h : i < n * k) : ∃ q d, i = q * k + d ∧ d < k ∧ q < n := by
  have hk : 0 < k := by
    rcases Nat.eq_zero_or_pos k with h0 | h0
    · rw [h0] at h; omega
    · exact h0
  refine ⟨i / k, i % k, ?_, Nat.mod_lt _ hk, (Nat.div_lt_iff_lt_mul hk).2 h⟩
  rw [Nat.mul_comm]
  exact (Nat.div_add_mod i k).symm
/-- A slice as a list of things, each with its own law. -/
theorem tree_list {α : Type} {k : Nat} (f : α → List Value) (Ok : α → Prop) (hf : ∀ x, (f x).length = k) {t e : TypeId} {fuel : Nat} {v : Value} {x : DataW H × List MemPlace} (ht : P.underlying t = some (.slice e)) (hk : P.cellsOf e = k) (hk0 : 0 < k) {B : Nat} (hB : P.bytesOf e = B)
    (hd : ∀ cs n y, cs.length = k → DataW.trod enc P w base (fun _ => true) held n e cs = some y → Lim P e y.1 → ∃ a : α, cs = f a ∧ Ok a)
    (h : DataW.trod enc P w base (fun _ => true) held fuel t [v] = some x) (hw : Lim P t x.1) :
    ∃ (A : Option Addr) (len cap : Nat) (xs : List α), v = .slice A len cap ∧ xs.length = len ∧ len ≤ cap ∧ cap ≤ maxLen ∧ len * B ≤ 140737488351232 ∧ cap * B ≤ 140737488351232 ∧ (A = none → len = 0 ∧ cap = 0) ∧ (∀ a ∈ xs, Ok a) ∧ Reads w w.heap.size k A len (xs.flatMap f) := by
  obtain ⟨A, len, cap, rfl, hl, hm, hb, hb', hA, hi⟩ := tree_slice ht h hw
  rw [hB] at hb hb'
  rw [hk] at hi
  cases A with
  | none =>
    obtain ⟨rfl, rfl⟩ := hA rfl
    exact ⟨none, 0, 0, [], rfl, rfl, hl, hm, hb, hb', fun _ => ⟨rfl, rfl⟩, by simp, by simp [Reads]⟩
  | some a =>
    have hc : ∀ i, i < len → ∃ z : α, Ok z ∧ ∀ j, j < k → w.cell? (a.add (i * k + j)) = (f z)[j]? := by
      intro i hil
      obtain ⟨ad, cs, n, y, e1, hcl, hcell, htr, hlim⟩ := hi i hil
      cases e1
      obtain ⟨z, rfl, hz⟩ := hd cs n y hcl htr hlim
      exact ⟨z, hz, hcell⟩
    obtain ⟨xs, hxl, hxo, hxc⟩ := list_of (c := fun q => w.cell? (a.add q)) hf len hc
    refine ⟨some a, len, cap, xs, rfl, hxl, hl, hm, hb, hb', (fun e => by cases e), hxo, by rw [flat_len hf, hxl], fun hn => ⟨a, rfl, ?_, fun j u hu => ?_⟩⟩
    · have h1 := hxc 0 (by omega) 0 hk0
      have h2 : (f (xs[0]'(by omega)))[0]? = some ((f (xs[0]'(by omega)))[0]'(by rw [hf]; exact hk0)) := List.getElem?_eq_getElem _
      have := World.block_lt_of_cell? w _ (h1.trans h2)
      rwa [block_of_add] at this
    · have hlt := (List.getElem?_eq_some_iff.1 hu).1
      rw [flat_len hf] at hlt
      obtain ⟨q, d, rfl, hdk, hq⟩ := flat_cut hlt
      rw [flat_at hf d hdk xs q hq] at hu
      exact (hxc q hq d hdk).trans hu
theorem flat_one {α : Type} (h : α → Value) (xs : List α) : xs.flatMap (fun x => [h x]) = xs.map h := by
  induction xs with
  | nil => rfl
  | cons x l ih => rw [List.flatMap_cons, ih, List.map_cons]; rfl
/-- A slice of things of one cell. -/
theorem tree_list1 {α : Type} (f : α → Value) (Ok : α → Prop) {t e : TypeId} {fuel : Nat} {v : Value} {x : DataW H × List MemPlace} (ht : P.underlying t = some (.slice e)) (hk : P.cellsOf e = 1) {B : Nat} (hB : P.bytesOf e = B)
    (hd : ∀ cs n y, DataW.trod enc P w base (fun _ => true) held n e cs = some y → Lim P e y.1 → ∃ a : α, cs = [f a] ∧ Ok a)
    (h : DataW.trod enc P w base (fun _ => true) held fuel t [v] = some x) (hw : Lim P t x.1) :
    ∃ (A : Option Addr) (len cap : Nat) (xs : List α), v = .slice A len cap ∧ xs.length = len ∧ len ≤ cap ∧ cap ≤ maxLen ∧ len * B ≤ 140737488351232 ∧ cap * B ≤ 140737488351232 ∧ (A = none → len = 0 ∧ cap = 0) ∧ (∀ a ∈ xs, Ok a) ∧ Reads w w.heap.size 1 A len (xs.map f) := by
  have := tree_list (k := 1) (fun a => [f a]) Ok (fun _ => rfl) ht hk (by omega) hB (fun cs n y _ h1 h2 => hd cs n y h1 h2) h hw
  simpa only [flat_one] using this
theorem tree_ints {k : IntKind} {t e : TypeId} {fuel : Nat} {v : Value} {x : DataW H × List MemPlace} (ht : P.underlying t = some (.slice e)) (he : P.underlying e = some (.int k)) (hk : P.cellsOf e = 1) {B : Nat} (hB : P.bytesOf e = B)
    (h : DataW.trod enc P w base (fun _ => true) held fuel t [v] = some x) (hw : Lim P t x.1) :
    ∃ (A : Option Addr) (len cap : Nat) (xs : List Int), v = .slice A len cap ∧ xs.length = len ∧ len ≤ cap ∧ cap ≤ maxLen ∧ len * B ≤ 140737488351232 ∧ cap * B ≤ 140737488351232 ∧ (A = none → len = 0 ∧ cap = 0) ∧ (∀ a ∈ xs, (Lit.int k a).wf = true) ∧ Reads w w.heap.size 1 A len (xs.map (Value.int k)) :=
  tree_list1 (Value.int k) _ ht hk hB (fun cs n y h1 _ => by
    obtain ⟨z, rfl, _, hz⟩ := DataW.trod_int he h1
    exact ⟨z, rfl, hz⟩) h hw
theorem tree_strings {t e : TypeId} {fuel : Nat} {v : Value} {x : DataW H × List MemPlace} (ht : P.underlying t = some (.slice e)) (he : P.underlying e = some .string) (hk : P.cellsOf e = 1) {B : Nat} (hB : P.bytesOf e = B)
    (h : DataW.trod enc P w base (fun _ => true) held fuel t [v] = some x) (hw : Lim P t x.1) :
    ∃ (A : Option Addr) (len cap : Nat) (xs : List ByteArray), v = .slice A len cap ∧ xs.length = len ∧ len ≤ cap ∧ cap ≤ maxLen ∧ len * B ≤ 140737488351232 ∧ cap * B ≤ 140737488351232 ∧ (A = none → len = 0 ∧ cap = 0) ∧ (∀ a ∈ xs, ByteArray.size a ≤ 140737488351232) ∧ Reads w w.heap.size 1 A len (xs.map Value.string) :=
  tree_list1 Value.string _ ht hk hB (fun cs n y h1 h2 => by
    obtain ⟨z, rfl, hz⟩ := tree_string he h1 h2
    exact ⟨z, rfl, hz⟩) h hw
end
end Go.Proofs.Ytijkfllolcgfhaa

/- Arguments opened: slices of structs of whole numbers, as lists of rows of numbers; a slice in a struct's field. Plain laws of readings; no condition. -/
import Derived.Test.YtglomkpnbdnnoaaOpen
namespace Go.Proofs.Ytglomkpnbdnnoaa
open Go.Joins Go.ChangeShapes Go.WideShapes Go.RowKit Go.Deep
set_option linter.unusedVariables false

/-- A struct of whole numbers, its fields' kinds given: its cells. -/
def encR (ks : List IntKind) (x : List Int) : List Value := List.zipWith Value.int ks x
def wfR (ks : List IntKind) (x : List Int) : Prop := x.length = ks.length ∧ ∀ (j : Nat) (k : IntKind) (a : Int), ks[j]? = some k → x[j]? = some a → (Lit.int k a).wf = true
theorem encR_length {ks : List IntKind} {x : List Int} (h : x.length = ks.length) : (encR ks x).length = ks.length := by simp [encR, h]
theorem flat_length {α β : Type} {f : α → List β} {k : Nat} (l : List α) (h : ∀ x ∈ l, (f x).length = k) : (l.flatMap f).length = l.length * k := by
  induction l with
  | nil => simp
  | cons x l ih =>
    rw [List.flatMap_cons, List.length_append, ih (fun y hy => h y (by simp [hy])), h x (by simp), List.length_cons, Nat.succ_mul]
    omega
theorem flat_get {α β : Type} {f : α → List β} {k : Nat} (d : Nat) (hd : d < k) : ∀ (l : List α) (i : Nat) (hl : ∀ x ∈ l, (f x).length = k) (h : i < l.length), (l.flatMap f)[i * k + d]? = (f l[i])[d]?
  | x :: l, 0, hl, _ => by
    rw [List.flatMap_cons, List.getElem?_append_left (by rw [hl x (by simp)]; omega)]
    simp
  | x :: l, i + 1, hl, h => by
    have hx := hl x (by simp)
    rw [List.flatMap_cons, List.getElem?_append_right (by rw [hx, Nat.succ_mul]; omega), hx]
    have := flat_get d hd l i (fun y hy => hl y (by simp [hy])) (by simpa using h)
    rw [show (i + 1) * k + d - k = i * k + d by rw [Nat.succ_mul]; omega, this]
    rfl
theorem flat_split {k i n : Nat} (h : i < n * k) : ∃ q d, i = q * k + d ∧ d < k ∧ q < n := by
  have hk : 0 < k := by
    rcases Nat.eq_zero_or_pos k with h0 | h0
    · rw [h0] at h; omega
    · exact h0
  refine ⟨i / k, i % k, ?_, Nat.mod_lt _ hk, (Nat.div_lt_iff_lt_mul hk).2 h⟩
  rw [Nat.mul_comm]
  exact (Nat.div_add_mod i k).symm

section
variable {H : Type} {enc : TypeId × Value → H} {P : Program} {w : World} {base : Nat} {spare : Nat → Bool} {held : Bool}
/-- The guide's law on slices of structs. -/
theorem open_slice_recs {t e : TypeId} {fs : Array Field} {fuel : Nat} {cs : List Value} {x : DataW H × List MemPlace} (ht : P.underlying t = some (.slice e)) (he : P.underlying e = some (.struct fs))
    (hone : oneCellFields P fs = true) (hC : P.cellsOf e = fs.size) (h : DataW.trod enc P w base spare held fuel t cs = some x) :
    (cs = [.slice none 0 0]) ∨
    ∃ (a : Addr) (len cap m : Nat), cs = [.slice (some a) len cap] ∧ len ≤ cap ∧ cap ≤ maxLen ∧ m = (if spare a.block then cap else len) ∧
      ∀ i, i < m → ∀ (j : Nat) (f : Field), fs[j]? = some f → ∃ (v : Value) (y : DataW H × List MemPlace) (n : Nat), w.cell? (a.add (i * fs.size + j)) = some v ∧ DataW.trod enc P w base spare held n f.type [v] = some y := by
  rcases open_slice ht h with ⟨h0, _⟩ | ⟨a, len, cap, m, n, D, Pl, hcs, hb, hl, hm, hmm, hx, hi⟩
  · exact .inl h0
  · refine .inr ⟨a, len, cap, m, hcs, hl, hm, hmm, fun i him j f hj => ?_⟩
    obtain ⟨cs', hc, ht'⟩ := hi i him
    rw [hC] at hc
    obtain ⟨ys, n', hn', hy, hlen, hyl, hf⟩ := DataW.trod_struct he ht'
    obtain ⟨_, hcl, hat⟩ := World.cells?_some hc
    obtain ⟨ho, hk⟩ := hone_of hone j f hj
    have hjl : j < fs.size := (Array.getElem?_eq_some_iff.1 hj).1
    have hcell := hat j hjl
    have hv : cs'[j]? = some (cs'[j]'(by omega)) := List.getElem?_eq_getElem (by omega)
    have h1 := hf j f hj
    rw [ho, hk] at h1
    have hone' : (cs'.drop j).take 1 = [cs'[j]'(by omega)] := by
      rw [List.drop_eq_getElem_cons (by omega)]
      rfl
    rw [hone'] at h1
    have hys : ys[j]? = some (ys[j]'(by omega)) := List.getElem?_eq_getElem (by omega)
    exact ⟨_, _, n', by rw [← Go.Deep.add_add, hcell, hv], h1.trans hys⟩

theorem recs_of {ks : List IntKind} {a : Addr} : ∀ (len : Nat), (∀ i, i < len → ∀ (j : Nat) (k : IntKind), ks[j]? = some k → ∃ z, w.cell? (a.add (i * ks.length + j)) = some (.int k z) ∧ (Lit.int k z).wf = true) →
    ∃ xs : List (List Int), xs.length = len ∧ (∀ x ∈ xs, wfR ks x) ∧ ∀ (i : Nat) (h : i < xs.length) (j : Nat) (v : Value), (encR ks xs[i])[j]? = some v → w.cell? (a.add (i * ks.length + j)) = some v := by
  intro len
  induction len with
  | zero => intro _; exact ⟨[], rfl, by simp, fun i h => by simp at h⟩
  | succ len ih =>
    intro hc
    obtain ⟨xs, hl, hw, hx⟩ := ih (fun i hi => hc i (by omega))
    have hrow : ∃ r : List Int, wfR ks r ∧ ∀ (j : Nat) (v : Value), (encR ks r)[j]? = some v → w.cell? (a.add (len * ks.length + j)) = some v := by
      have key : ∀ m, m ≤ ks.length → ∃ r : List Int, r.length = m ∧ ∀ (j : Nat) (k : IntKind) (z : Int), ks[j]? = some k → r[j]? = some z → (Lit.int k z).wf = true ∧ w.cell? (a.add (len * ks.length + j)) = some (.int k z) := by
        intro m
        induction m with
        | zero => intro _; exact ⟨[], rfl, by simp⟩
        | succ m ihm =>
          intro hm
          obtain ⟨r, hr, hr2⟩ := ihm (by omega)
          obtain ⟨z, hz, hwz⟩ := hc len (by omega) m (ks[m]'(by omega)) (List.getElem?_eq_getElem (by omega))
          refine ⟨r ++ [z], by simp [hr], fun j k u hk hu => ?_⟩
          rcases Nat.lt_or_ge j m with hj | hj
          · rw [List.getElem?_append_left (by omega)] at hu
            exact hr2 j k u hk hu
          · rw [List.getElem?_append_right (by omega)] at hu
            obtain rfl : j = m := by
              have := (List.getElem?_eq_some_iff.1 hu).1
              simp at this
              omega
            rw [hr, Nat.sub_self] at hu
            obtain rfl : z = u := by simpa using hu
            rw [List.getElem?_eq_getElem (by omega)] at hk
            obtain rfl : ks[j] = k := by simpa using hk
            exact ⟨hwz, hz⟩
      obtain ⟨r, hr, hr2⟩ := key ks.length (Nat.le_refl _)
      refine ⟨r, ⟨hr, fun j k u hk hu => (hr2 j k u hk hu).1⟩, fun j v hv => ?_⟩
      rw [encR, List.getElem?_zipWith] at hv
      cases hk : ks[j]? with
      | none => rw [hk] at hv; simp at hv
      | some k =>
        cases hu : r[j]? with
        | none => rw [hk, hu] at hv; simp at hv
        | some u =>
          rw [hk, hu] at hv
          obtain rfl : Value.int k u = v := by simpa using hv
          exact (hr2 j k u hk hu).2
    obtain ⟨r, hwr, hr⟩ := hrow
    refine ⟨xs ++ [r], by simp [hl], fun x hx' => ?_, fun i h j v hv => ?_⟩
    · rcases List.mem_append.1 hx' with h1 | h1
      · exact hw x h1
      · rw [List.mem_singleton] at h1; rw [h1]; exact hwr
    · rcases Nat.lt_or_ge i xs.length with hi | hi
      · rw [List.getElem_append_left hi] at hv
        exact hx i hi j v hv
      · obtain rfl : i = xs.length := by simp at h; omega
        simp at hv
        rw [hl]
        exact hr j v hv

/-- A slice of structs of whole numbers, as a list of rows of numbers. -/
theorem reads_recs {ks : List IntKind} {t e : TypeId} {fs : Array Field} {fuel : Nat} {v : Value} {x : DataW H × List MemPlace} (ht : P.underlying t = some (.slice e)) (he : P.underlying e = some (.struct fs))
    (hone : oneCellFields P fs = true) (hC : P.cellsOf e = fs.size) (hks : ks.length = fs.size) (hk0 : 0 < ks.length) (hk : ∀ (j : Nat) (k : IntKind), ks[j]? = some k → ∃ f : Field, fs[j]? = some f ∧ P.underlying f.type = some (.int k))
    (h : DataW.trod enc P w base (fun _ => true) held fuel t [v] = some x) :
    ∃ (A : Option Addr) (len cap : Nat) (xs : List (List Int)), v = .slice A len cap ∧ xs.length = len ∧ len ≤ cap ∧ cap ≤ maxLen ∧ (∀ y ∈ xs, wfR ks y) ∧ Reads w w.heap.size ks.length A len (xs.flatMap (encR ks)) := by
  rcases open_slice_recs ht he hone hC h with h0 | ⟨a, len, cap, m, hcs, hl, hm, hmm, hi⟩
  · simp only [List.cons.injEq, and_true] at h0
    exact ⟨none, 0, 0, [], h0, rfl, Nat.le_refl _, Nat.zero_le _, by simp, by simp [Reads]⟩
  · simp only [List.cons.injEq, and_true] at hcs
    simp only [if_true] at hmm
    have hc : ∀ i, i < len → ∀ (j : Nat) (k : IntKind), ks[j]? = some k → ∃ z, w.cell? (a.add (i * ks.length + j)) = some (.int k z) ∧ (Lit.int k z).wf = true := fun i hil j k hj => by
      obtain ⟨f, hf, hu⟩ := hk j k hj
      obtain ⟨u, y, n, hcell, htr⟩ := hi i (by omega) j f hf
      obtain ⟨z, q, _, hw⟩ := DataW.trod_int hu htr
      rw [hks]
      simp only [List.cons.injEq, and_true] at q
      rw [q] at hcell
      exact ⟨z, hcell, hw⟩
    obtain ⟨xs, hxl, hxw, hxc⟩ := recs_of len hc
    have hfl : ∀ y ∈ xs, (encR ks y).length = ks.length := fun y hy => encR_length (hxw y hy).1
    refine ⟨some a, len, cap, xs, hcs, hxl, hl, hm, hxw, by rw [flat_length xs hfl, hxl], fun hn => ⟨a, rfl, ?_, fun i u hu => ?_⟩⟩
    · obtain ⟨z, hz, _⟩ := hc 0 hn 0 (ks[0]'hk0) (List.getElem?_eq_getElem hk0)
      have := World.block_lt_of_cell? w _ hz
      rwa [block_of_add] at this
    · have hlt := (List.getElem?_eq_some_iff.1 hu).1
      rw [flat_length xs hfl] at hlt
      obtain ⟨q, d, rfl, hd, hq⟩ := flat_split hlt
      rw [flat_get d hd xs q hfl hq] at hu
      exact hxc q hq d u hu
end
end Go.Proofs.Ytglomkpnbdnnoaa

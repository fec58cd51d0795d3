/- Chapter 3: texts of a reading of small bulk. Plain. -/
import Derived.Test.YtijkfllolcgfhaaRows
import Derived.Test.YtijkfllolcgfhaaTree
import Derived.Test.YtijkfllolcgfhaaPackLs
namespace Go.Proofs.Ytijkfllolcgfhaa.Pack
open Go.Joins Go.ChangeShapes Go.WideShapes Go.RowKit Go.Deep
set_option linter.unusedVariables false
set_option linter.unusedSimpArgs false

section
variable {H : Type} {enc : TypeId × Value → H} {P : Program} {w : World} {base : Nat} {held : Bool}
theorem bulk_all : ∀ (ds : List (DataW H)) (d : DataW H), d ∈ ds → Rows.uptoBulk d ≤ Rows.uptoBulkAll ds
  | [], d, h => by cases h
  | d0 :: ds, d, h => by
    rw [Rows.uptoBulkAll]
    rcases List.mem_cons.1 h with rfl | h
    · exact Nat.le_add_right _ _
    · exact Nat.le_trans (bulk_all ds d h) (Nat.le_add_left _ _)
theorem texts_few {t e : TypeId} {N fuel : Nat} {v : Value} {x : DataW H × List MemPlace} (ht : P.underlying t = some (.slice e)) (he : P.underlying e = some .string) (hk : P.cellsOf e = 1)
    (h : DataW.trod enc P w base (fun _ => true) held fuel t [v] = some x) (hw : Rows.uptoBulk x.1 ≤ N) :
    ∃ (A : Option Addr) (len cap : Nat) (xs : List ByteArray), v = .slice A len cap ∧ xs.length = len ∧ len ≤ cap ∧ cap ≤ maxLen ∧ (∀ a ∈ xs, ByteArray.size a ≤ N) ∧ Reads w w.heap.size 1 A len (xs.map Value.string) := by
  rcases open_slice ht h with ⟨h0, _⟩ | ⟨a, len, cap, m, n, D, Pl, hcs, hb, hl, hm, hmm, rfl, hi⟩
  · simp only [List.cons.injEq, and_true] at h0
    exact ⟨none, 0, 0, [], h0, rfl, Nat.le_refl _, Nat.zero_le _, by simp, Reads.none_⟩
  · simp only [List.cons.injEq, and_true] at hcs
    simp only [if_true] at hmm
    subst hmm
    simp only [Rows.uptoBulk] at hw
    have hc : ∀ i, i < len → ∃ z : ByteArray, ByteArray.size z ≤ N ∧ ∀ j, j < 1 → w.cell? (a.add (i * 1 + j)) = [Value.string z][j]? := by
      intro i hil
      obtain ⟨cs', hc, ht'⟩ := hi i (by omega)
      obtain ⟨s, rfl, e2, _⟩ := DataW.trod_string he ht'
      obtain ⟨_, hcl, hat⟩ := World.cells?_some hc
      have hD := bulk_all ((List.range len).map D) (D i) (List.mem_map_of_mem (List.mem_range.2 hil))
      have e3 : D i = .lit (.string s.data.toList) := by first | exact e2 | exact congrArg Prod.fst e2
      rw [e3] at hD
      simp only [Rows.uptoBulk] at hD
      refine ⟨s, by have : s.data.toList.length = s.size := Array.length_toList; omega, fun j hj => ?_⟩
      have := hat j (by rw [hk]; exact hj)
      rwa [Go.Deep.add_add, hk] at this
    obtain ⟨xs, hxl, hxo, hxc⟩ := list_of (k := 1) (c := fun q => w.cell? (a.add q)) (f := fun s : ByteArray => [Value.string s]) (fun _ => rfl) len hc
    refine ⟨some a, len, m, xs, hcs, hxl, hl, hm, hxo, by rw [List.length_map, hxl, Nat.mul_one], fun hn => ⟨a, rfl, ?_, fun j u hu => ?_⟩⟩
    · have h1 := hxc 0 (by omega) 0 (by omega)
      have := World.block_lt_of_cell? w _ (h1.trans rfl)
      rwa [block_of_add] at this
    · rw [List.getElem?_map] at hu
      obtain ⟨s, hs, rfl⟩ := Option.map_eq_some_iff.1 hu
      obtain ⟨hj, rfl⟩ := List.getElem?_eq_some_iff.1 hs
      have := hxc j hj 0 (by omega)
      rw [Nat.mul_one, Nat.add_zero] at this
      exact this
end
end Go.Proofs.Ytijkfllolcgfhaa.Pack

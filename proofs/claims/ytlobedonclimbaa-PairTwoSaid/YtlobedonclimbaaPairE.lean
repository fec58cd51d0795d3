/- Chapter 9: rows of one class: in plain words; rows that lie apart. No condition. -/
import Derived.Test.YtlobedonclimbaaPairY
namespace Go.Proofs.Ytlobedonclimbaa.Pair
open Go.RowKit
set_option linter.unusedVariables false
set_option linter.unusedSimpArgs false

theorem own_kept' {W W' : World} {b e s n : Nat} {v v2 : Value} {xs : List Value} (h : W.ownsRow b e s v n xs) (hg : W.grownBy W' v2.ownBlock) (hd : ∀ r, v.ownBlock = some r → v2.ownBlock ≠ some r) : W'.ownsRow b e s v n xs :=
  h.kept hg (by cases hv : v.ownBlock with
    | none => exact .inl rfl
    | some r => exact .inr (fun e => hd r hv e.symm))
theorem apart_more' {W : World} {b e s n : Nat} {v v2 v3 : Value} {xs : List Value} (h : W.ownsRow b e s v3 n xs) (hb : v2.ownBlock = v.ownBlock ∨ v2.ownBlock = some W.heap.size) (hd : ∀ r, v.ownBlock = some r → v3.ownBlock ≠ some r) :
    ∀ r, v2.ownBlock = some r → v3.ownBlock ≠ some r := fun r hr e => by
  rcases hb with h2 | h2
  · exact hd r (h2 ▸ hr) e
  · rw [h2] at hr
    injection hr with hr
    subst hr
    exact Nat.lt_irrefl _ (h.lt _ e).2
theorem reads_go {w w' : World} {n : Nat} {A : Option Addr} {xs : List Value} (h : Reads w w.heap.size 1 A n xs) (hb : Below w.heap.size w w') : Reads w' w'.heap.size 1 A n xs := (h.below hb).more hb.size
theorem bel_al {w w' : World} {o : Obj} (hb : Below (w.alloc o).heap.size (w.alloc o) w') : Below w.heap.size w w' := bel_trans (bel_alloc (Below.refl _ _) o) hb
theorem same_final (c : Int) (h : stepP (stepP pl0 c) c = ⟨c, c, c, false⟩) (h2 : stepP ⟨c, c, c, false⟩ c = ⟨c, c, c, false⟩) (i : Nat) : finalP pl0 (List.replicate (i + 2) c) = ⟨c, c, c, false⟩ := by
  induction i with
  | zero => exact h
  | succ i ih => rw [show i + 1 + 2 = (i + 2) + 1 by omega, List.replicate_succ', finalP_snoc, ih, h2]
theorem same_at (c : Int) (h : stepP (stepP pl0 c) c = ⟨c, c, c, false⟩) (h2 : stepP ⟨c, c, c, false⟩ c = ⟨c, c, c, false⟩) (n i : Nat) (hi : i < n) (h0 : ¬ i = 0) : (pAt (List.replicate n c) i).2 = ⟨c, c, c, false⟩ := by
  show finalP pl0 ((List.replicate n c).take (i + 1)) = _
  rw [List.take_replicate, Nat.min_eq_left (by omega), show i + 1 = (i - 1) + 2 by omega]
  exact same_final c h h2 (i - 1)
theorem alike_cells {w : World} {B1 B2 n j : Nat} {A1 A2 : Option Addr} (h1 : Reads w B1 1 A1 n ((tellL false mayR (List.replicate n 0)).map Value.bool)) (h2 : Reads w B2 1 A2 n ((tellL false mayR (List.replicate n 25)).map Value.bool)) (hi : j < n) :
    ∃ ad1 ad2, A1 = some ad1 ∧ A2 = some ad2 ∧ w.cell? (ad1.add j) = some (.bool false) ∧ ((j = 0 ∧ w.cell? (ad2.add j) = some (.bool false)) ∨ (0 < j ∧ w.cell? (ad2.add j) = some (.bool true))) := by
  obtain ⟨ad1, e1, _, g1⟩ := tell_cell Value.bool false mayR _ (by simp) h1 hi
  obtain ⟨ad2, e2, _, g2⟩ := tell_cell Value.bool false mayR _ (by simp) h2 hi
  refine ⟨ad1, ad2, e1, e2, ?_, ?_⟩
  · rw [g1]
    by_cases h0 : j = 0
    · rw [if_pos h0]
    · rw [if_neg h0, same_at 0 (by decide) (by decide) n j hi h0]
      rfl
  · by_cases h0 : j = 0
    · exact .inl ⟨h0, by rw [g2, if_pos h0]⟩
    · refine .inr ⟨by omega, ?_⟩
      rw [g2, if_neg h0, same_at 25 (by decide) (by decide) n j hi h0]
      rfl
theorem t05 : tellL false mayR [0, 5] = [false, false] := by decide
theorem tOP (x : Int) (h0 : 0 ≤ x) (h1 : x < 27) : tellL false mayR [14, x] = [false, false] := by
  have h : ∀ k : Nat, k < 27 → tellL false mayR [14, (k : Int)] = [false, false] := by decide
  have := h x.toNat (by omega)
  rwa [Int.toNat_of_nonneg h0] at this
theorem tBK (x : Int) (h0 : 0 ≤ x) (h1 : x < 27) : tellL false mustR [1, x] = [false, true] := by
  have h : ∀ k : Nat, k < 27 → tellL false mustR [1, (k : Int)] = [false, true] := by decide
  have := h x.toNat (by omega)
  rwa [Int.toNat_of_nonneg h0] at this
end Go.Proofs.Ytlobedonclimbaa.Pair

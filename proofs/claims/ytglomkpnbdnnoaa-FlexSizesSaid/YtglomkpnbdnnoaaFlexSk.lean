/- Chapter 23: a round of the reference's shrinking, plain: how it answers to the numbers of FlexR. Rows that grow side by side. No condition but bounds. -/
import Derived.Test.YtglomkpnbdnnoaaFlexSh
import Derived.Test.YtglomkpnbdnnoaaFlexP
namespace Go.Proofs.Ytglomkpnbdnnoaa.Flex
open Go.RowKit Go.Proofs.Ytglomkpnbdnnoaa.Unit Go.Proofs.Ytglomkpnbdnnoaa.Div
set_option linter.unusedVariables false
set_option linter.unusedSimpArgs false
section
variable {xs : List It} {room : Int} {fz : List Bool} {n : Nat}
theorem nx_false (h : fz.length = n) : List.zipWith (fun a b => a || b) fz (List.replicate n false) = fz := by
  subst h
  induction fz with
  | nil => rfl
  | cons b fz ih => simp only [List.length_cons, List.replicate_succ, List.zipWith_cons_cons, Bool.or_false, ih]
theorem any_repF (n : Nat) : (List.replicate n false).any id = false := by
  rw [List.any_eq_false]
  intro b hb
  rw [(List.mem_replicate.1 hb).2]
  simp
theorem lo_none (h : ∀ x ∈ xs, okI x) (hl : xs.length = n) (hf : fz.length = n) : List.zipWith loI (szL xs fz) xs = List.replicate n false := by
  apply List.ext_getElem?
  intro i
  by_cases hi : i < n
  · obtain ⟨x, hx⟩ := at_len hl hi
    obtain ⟨b, hb⟩ := at_len hf hi
    rw [zip_at loI _ _ i _ _ (szL_at hx hb) hx, List.getElem?_replicate, if_pos hi]
    have := (szI_bd (h x (List.mem_of_getElem? hx)) b).2.2
    unfold loI
    rw [decide_eq_false (by omega)]
  · rw [List.getElem?_eq_none (by rw [List.length_zipWith, szL_len hl hf]; omega), List.getElem?_eq_none (by rw [List.length_replicate]; omega)]
theorem calm (h : ∀ x ∈ xs, okI x) (hl : xs.length = n) (hf : fz.length = n) (hc : (wtL xs fz).sum = 0 ∨ ovN xs room fz ≤ 0) : yL xs room fz = szL xs fz ∧ moB xs room fz = false ∧ nxL xs room fz = fz := by
  have hlo : yL xs room fz = szL xs fz ∧ loL xs room fz = List.replicate n false := by
    by_cases hz : (wtL xs fz).sum = 0
    · refine ⟨by unfold yL; rw [if_pos hz], by unfold loL; rw [if_pos hz, hl]⟩
    · have ho : ovN xs room fz ≤ 0 := by rcases hc with h | h; exact absurd h hz; exact h
      have hm : mxV (ovN xs room fz) 0 = 0 := by unfold mxV; split <;> omega
      have hy : yL xs room fz = szL xs fz := by
        unfold yL
        rw [if_neg hz]
        apply List.ext_getElem?
        intro i
        by_cases hi : i < n
        · obtain ⟨s, hs⟩ := at_len (szL_len hl hf) hi
          have hp : (ptL xs room fz)[i]? = some 0 := by
            unfold ptL
            rw [hm, shareL_at 0 _ i (by rw [wtL_len hl hf]; exact hi), shareL_zero _ (wt_pos h hz)]
          rw [zip_at _ _ _ i _ _ hs hp, hs, Int.sub_zero]
        · rw [List.getElem?_eq_none (by rw [List.length_zipWith, szL_len hl hf]; omega), List.getElem?_eq_none (by rw [szL_len hl hf]; omega)]
      exact ⟨hy, by unfold loL; rw [if_neg hz, hy]; exact lo_none h hl hf⟩
  refine ⟨hlo.1, ?_, ?_⟩
  · unfold moB
    rw [hlo.2]
    exact any_repF n
  · unfold nxL
    rw [hlo.2]
    exact nx_false hf
/-- A busy round, place by place. -/
theorem busy_at (h : ∀ x ∈ xs, okI x) (hl : xs.length = n) (hf : fz.length = n) (hz : ¬ (wtL xs fz).sum = 0) {i : Nat} {x : It} {b : Bool} (hx : xs[i]? = some x) (hb : fz[i]? = some b) :
    ∃ p, (ptL xs room fz)[i]? = some p ∧ (b = true → p = 0) ∧ (yL xs room fz)[i]? = some (szI x b - p) ∧ (loL xs room fz)[i]? = some (decide (szI x b - p < x.least)) ∧ (nxL xs room fz)[i]? = some (b || decide (szI x b - p < x.least)) := by
  have hi : i < n := by have := (List.getElem?_eq_some_iff.1 hx).1; omega
  obtain ⟨p, hp⟩ := at_len (ptL_len (room := room) hl hf) hi
  have hy : (yL xs room fz)[i]? = some (szI x b - p) := by
    unfold yL
    rw [if_neg hz]
    exact zip_at _ _ _ i _ _ (szL_at hx hb) hp
  have hlo : (loL xs room fz)[i]? = some (decide (szI x b - p < x.least)) := by
    unfold loL
    rw [if_neg hz]
    exact zip_at loI _ _ i _ _ hy hx
  refine ⟨p, hp, fun hbt => ?_, hy, hlo, by unfold nxL; exact zip_at _ _ _ i _ _ hb hlo⟩
  subst hbt
  have hw := wtL_at hx hb
  have hw0 : wtI x true = 0 := rfl
  rw [hw0] at hw
  unfold ptL at hp
  rw [shareL_at _ _ i (by rw [wtL_len hl hf]; exact hi)] at hp
  injection hp with hp
  rw [← hp]
  exact shN_none _ _ i hw
end
/-- Two rows that grow side by side. -/
structure Two (w V : World) (v1 v2 : Value) (n1 n2 : Nat) (l1 l2 : List Int) : Prop where
  o1 : V.ownsRow w.heap.size 2 1 v1 n1 (l1.map (Value.int .i64))
  o2 : V.ownsRow w.heap.size 2 1 v2 n2 (l2.map (Value.int .i64))
  ap : ∀ r, v1.ownBlock = some r → v2.ownBlock ≠ some r
  b : Below w.heap.size w V
section
variable {w V V' : World} {v1 v2 v' : Value} {n1 n2 : Nat} {l1 l2 : List Int} {x : Int}
theorem own_kept_ {W W' : World} {b e s n : Nat} {v v2 : Value} {xs : List Value} (h : W.ownsRow b e s v n xs) (hg : W.grownBy W' v2.ownBlock) (hd : ∀ r, v.ownBlock = some r → v2.ownBlock ≠ some r) : W'.ownsRow b e s v n xs :=
  h.kept hg (by cases hv : v.ownBlock with
    | none => exact .inl rfl
    | some r => exact .inr (fun e => hd r hv e.symm))
theorem apart_more_ {W : World} {b e s n : Nat} {v v2 v3 : Value} {xs : List Value} (h : W.ownsRow b e s v3 n xs) (hb : v2.ownBlock = v.ownBlock ∨ v2.ownBlock = some W.heap.size) (hd : ∀ r, v.ownBlock = some r → v3.ownBlock ≠ some r) :
    ∀ r, v2.ownBlock = some r → v3.ownBlock ≠ some r := fun r hr e => by
  rcases hb with h2 | h2
  · exact hd r (h2 ▸ hr) e
  · rw [h2] at hr
    injection hr with hr
    subst hr
    exact Nat.lt_irrefl _ (h.lt _ e).2
theorem apart_symm {v v2 : Value} (h : ∀ r, v.ownBlock = some r → v2.ownBlock ≠ some r) : ∀ r, v2.ownBlock = some r → v.ownBlock ≠ some r := fun r hr e => h r e hr
theorem Two.nil (w : World) : Two w w (.slice none 0 0) (.slice none 0 0) 0 0 [] [] := ⟨own_nil _ _ _ _, own_nil _ _ _ _, fun r h => by simp [Value.ownBlock] at h, Below.refl _ _⟩
theorem Two.below (h : Two w V v1 v2 n1 n2 l1 l2) (hb : Below V.heap.size V V') : Two w V' v1 v2 n1 n2 l1 l2 := ⟨own_below h.o1 hb, own_below h.o2 hb, h.ap, bel_trans h.b hb⟩
theorem Two.left (h : Two w V v1 v2 n1 n2 l1 l2) (hown : V'.ownsRow w.heap.size 2 1 v' (n1 + 1) (l1.map (Value.int .i64) ++ [Value.int .i64 x])) (hg : V.grownBy V' v1.ownBlock) (hb : v'.ownBlock = v1.ownBlock ∨ v'.ownBlock = some V.heap.size) : Two w V' v' v2 (n1 + 1) n2 (l1 ++ [x]) l2 :=
  ⟨by rw [List.map_append]; exact hown, own_kept_ h.o2 hg (apart_symm h.ap), apart_more_ h.o2 hb h.ap, bel_grown h.b h.o1 hg⟩
theorem Two.right (h : Two w V v1 v2 n1 n2 l1 l2) (hown : V'.ownsRow w.heap.size 2 1 v' (n2 + 1) (l2.map (Value.int .i64) ++ [Value.int .i64 x])) (hg : V.grownBy V' v2.ownBlock) (hb : v'.ownBlock = v2.ownBlock ∨ v'.ownBlock = some V.heap.size) : Two w V' v1 v' n1 (n2 + 1) l1 (l2 ++ [x]) :=
  ⟨own_kept_ h.o1 hg h.ap, by rw [List.map_append]; exact hown, apart_symm (apart_more_ h.o1 hb (apart_symm h.ap)), bel_grown h.b h.o2 hg⟩
end
theorem take_add {α : Type} {l : List α} {j : Nat} {x : α} (h : l[j]? = some x) : l.take (j + 1) = l.take j ++ [x] := by
  obtain ⟨hj, rfl⟩ := List.getElem?_eq_some_iff.1 h
  rw [List.take_succ_eq_append_getElem hj]
end Go.Proofs.Ytglomkpnbdnnoaa.Flex

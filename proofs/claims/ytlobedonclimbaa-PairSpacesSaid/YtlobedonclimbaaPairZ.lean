/- Chapter 9: one more mark, one more space: in plain words. No condition. -/
import Derived.Test.YtlobedonclimbaaPairY
namespace Go.Proofs.Ytlobedonclimbaa.Pair
open Go.RowKit
set_option linter.unusedVariables false
set_option linter.unusedSimpArgs false

theorem marks_plain (xs : List Int) (m k k2 : Nat) (hm : m < xs.length) (hk : m + 1 = k) (hk2 : k + 1 = k2) (ys : List Int) (hy : xs.take k ++ 9 :: xs.drop k = ys) (hg : gN ys k = true) :
    mayAt ys k = false ∧ (tellL false mayR ys).take k = (tellL false mayR xs).take k ∧ (tellL false mayR ys).drop k2 = (tellL false mayR xs).drop k := by
  subst hk hk2 hy
  have e := ins_final xs m 9 hm
  unfold gN at hg
  rw [e] at hg
  have hs := mark_step (finalP pl0 (xs.take (m + 1))) (by simpa [stepP] using hg)
  refine ⟨?_, tell_insert_take _ _ xs m 9 hm, tell_insert _ _ xs m 9 hm hs.1⟩
  unfold mayAt
  rw [if_neg (by omega)]
  show mayR (ruleP (finalP pl0 (List.take (m + 1 + 1) _))) = false
  rw [e]
  exact hs.2
theorem spaces_plain (xs : List Int) (m k k2 : Nat) (hm : m < xs.length) (hx : xs[m]?.getD 0 = 5) (hk : m + 1 = k) (hk2 : k + 1 = k2) (ys : List Int) (hy : xs.take k ++ 5 :: xs.drop k = ys) :
    (if k = 0 then (0 : Int) else numR (ruleP (pAt ys k).2)) = 7 ∧ (tellL 0 numR ys).take k = (tellL 0 numR xs).take k ∧ (tellL 0 numR ys).drop k2 = (tellL 0 numR xs).drop k := by
  subst hk hk2 hy
  have e := ins_final xs m 5 hm
  rw [List.getElem?_eq_getElem hm, Option.getD_some] at hx
  have hp : (finalP pl0 (xs.take (m + 1))).b = 5 := by
    rw [List.take_succ_eq_append_getElem hm, finalP_snoc, hx]
    simp [stepP, cnt]
  have hs := space_step _ hp
  refine ⟨?_, tell_insert_take _ _ xs m 5 hm, tell_insert _ _ xs m 5 hm hs.1⟩
  rw [if_neg (by omega)]
  show numR (ruleP (finalP pl0 (List.take (m + 1 + 1) _))) = 7
  rw [e]
  exact_mod_cast hs.2
theorem g_cell {w : World} {B n k : Nat} {A : Option Addr} (xs : List Int) (h : Reads w B 1 A n (gMap xs n)) (hk : k < n) : ∃ ad, A = some ad ∧ w.cell? (ad.add k) = some (.bool (gN xs k)) := by
  obtain ⟨ad, u, hA, _, hu, hc⟩ := h.at_ hk
  refine ⟨ad, hA, ?_⟩
  rw [hc, ← hu]
  simp [gMap, hk]
theorem may_cell {w : World} {B n k : Nat} {A : Option Addr} (ys : List Int) (hl : ys.length = n) (h : Reads w B 1 A n ((tellL false mayR ys).map Value.bool)) (hk : k < n) (hf : mayAt ys k = false) : ∃ ad, A = some ad ∧ w.cell? (ad.add k) = some (.bool false) := by
  obtain ⟨ad, hA, _, hc⟩ := tell_cell Value.bool false mayR ys hl h hk
  exact ⟨ad, hA, by rw [hc]; exact congrArg (fun b => some (Value.bool b)) hf⟩
theorem num_cell {w : World} {B n k : Nat} {A : Option Addr} (ys : List Int) (hl : ys.length = n) (h : Reads w B 1 A n ((tellL 0 numR ys).map (Value.int .u8))) (hk : k < n) (hf : (if k = 0 then (0 : Int) else numR (ruleP (pAt ys k).2)) = 7) : ∃ ad, A = some ad ∧ w.cell? (ad.add k) = some (.int .u8 7) := by
  obtain ⟨ad, hA, _, hc⟩ := tell_cell (Value.int .u8) 0 numR ys hl h hk
  exact ⟨ad, hA, by rw [hc, hf]⟩
theorem top_list {α : Type} {w : World} {B n k : Nat} {A : Option Addr} {enc : α → Value} {l l' : List α} (h : Reads w B 1 A n (l.map enc)) (hk : k ≤ n) (e : l.take k = l'.take k) : Reads w B 1 A k ((l'.take k).map enc) := by
  rw [← e, List.map_take]
  exact Reads.cutTo h hk
end Go.Proofs.Ytlobedonclimbaa.Pair

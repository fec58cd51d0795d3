/- Chapter 19: a store of two cells as a step of a region. No condition. -/
import Derived.Test.YtdjbcbdgcejcmaaShiftY
namespace Go.Proofs.Ytdjbcbdgcejcmaa.Unit
open Go.RowKit Go.Proofs.Ytdjbcbdgcejcmaa.Div
set_option linter.unusedVariables false
set_option linter.unusedSimpArgs false

theorem want_none (o : Oper) (f : Nat → Option Bool) (h : o.guard = none) : Region.wanted o f = true := by unfold Region.wanted; rw [h]
theorem wp_store2 {ops : Array Oper} {Q : Exit → Act → World → Prop} {K : Act → World → Prop} {a : Act} {w : World} {i t u g : Nat} {T' : TypeId} {p q : Int} {x y : Value} (o : Oper) (ho : ops[i]? = some o) (hg : o.guard = none) (hd : o.dst = none) (hop : o.op = .store 25 (.tmp t) (.tmp u))
    (ht : a.eval (.tmp t) = ptr g) (hu : a.eval (.tmp u) = boxV p q) (hb : Blk w g T' #[x, y]) (hK : K a ((w.setCell ⟨g, 0, none⟩ (.int .i64 p)).setCell ⟨g, 1, none⟩ (.int .i64 q))) : wpOp Try.prog ops Q i K a w := by
  have f0 := hb.frozen 0
  have f1 := hb.frozen 1
  have c0 : w.cell? ⟨g, 0, none⟩ = some x := hb.cell 0
  have c1 : w.cell? ⟨g, 1, none⟩ = some y := hb.cell 1
  unfold wpOp
  rw [ho]
  simp only []
  rw [if_pos (want_none o _ hg)]
  refine .inl ?_
  unfold Oper.wp execOp
  rw [hop]
  simp only [ht, hu]
  go_simp
  exact hK
theorem fof_eval (act : Act) (v0 v1 v2 r0 r1 r2 : Value) (h : 75 < act.tmps.size) : (Fof act v0 v1 v2 r0 r1 r2).eval (.tmp 16) = v0 ∧ (Fof act v0 v1 v2 r0 r1 r2).eval (.tmp 17) = v1 ∧ (Fof act v0 v1 v2 r0 r1 r2).eval (.tmp 18) = v2 ∧
    (Fof act v0 v1 v2 r0 r1 r2).eval (.tmp 69) = r0 ∧ (Fof act v0 v1 v2 r0 r1 r2).eval (.tmp 72) = r1 ∧ (Fof act v0 v1 v2 r0 r1 r2).eval (.tmp 75) = r2 := by
  obtain ⟨t, d⟩ := act
  have h' : 75 < t.size := h
  have h16 : 16 < t.size := by omega
  have h17 : 17 < t.size := by omega
  have h18 : 18 < t.size := by omega
  have h69 : 69 < t.size := by omega
  have h72 : 72 < t.size := by omega
  refine ⟨?_, ?_, ?_, ?_, ?_, ?_⟩ <;> simp [Fof, Act.put, Act.eval, Array.getElem_setIfInBounds, h', h16, h17, h18, h69, h72]
end Go.Proofs.Ytdjbcbdgcejcmaa.Unit

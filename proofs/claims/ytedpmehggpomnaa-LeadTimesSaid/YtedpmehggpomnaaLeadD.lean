/- Chapter 18: what is told of a style's line: Text, Height, Strut, Around, walked. No condition but bounds. -/
import Derived.Test.YtedpmehggpomnaaLeadA
namespace Go.Proofs.Ytedpmehggpomnaa.Lead
open Go.RowKit Go.Proofs.Ytedpmehggpomnaa.Unit Go.Proofs.Ytedpmehggpomnaa.Font
set_option linter.unusedVariables false

def okS (sz hk ht : Int) : Bool := allS [sz, ht] && decide (hk ≤ 2)
/-- Which error a line has. -/
def ErrIs (chk sz hk ht e : Int) : Prop := (chk ≠ 0 ∧ e = 50) ∨ (chk = 0 ∧ okS sz hk ht = false ∧ e = 60)
theorem okS_cases (sz hk ht : Int) : (okS sz hk ht = true ∧ allS [sz, ht] = true ∧ hk ≤ 2 ∧ 0 ≤ sz ∧ sz ≤ 1073741824 ∧ 0 ≤ ht ∧ ht ≤ 1073741824) ∨ (okS sz hk ht = false ∧ (allS [sz, ht] = false ∨ (allS [sz, ht] = true ∧ 2 < hk))) := by
  unfold okS
  cases h : allS [sz, ht] with
  | false => exact .inr ⟨by simp, .inl rfl⟩
  | true =>
    by_cases g : hk ≤ 2
    · refine .inl ⟨by simp [g], rfl, g, ?_⟩
      simpa [allS, mayS, and_assoc] using h
    · exact .inr ⟨by simp [g], .inr ⟨rfl, by omega⟩⟩
theorem chk_two (a d g x o : Int) (rs : List Rng) : chkV a d g x o rs = 0 ∨ chkV a d g x o rs = 50 := by
  unfold chkV
  split
  · exact .inl rfl
  · exact .inr rfl
end Go.Proofs.Ytedpmehggpomnaa.Lead

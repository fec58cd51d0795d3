/-
  No cell of these rows narrows 'for every input' (looked for: loops, veiled, ifaces, maps, wideKeys, modest, calm, conditions, laid).
  DERIVED. THE GIVEN ROWS OF THIS SEAT. 4 by the template 'for every input the law returns true; each argument reads behind the call as it read before'; 0 by the template 'total and deterministic' (their statements: YtedpmehggpomnaaTotals.lean).
  GIVEN WITH THE SEED: the statements are not yours to turn. If you find one false, say at which input.
  Laid BY PROGRAM, IN A SANDBOX (cutbox-rows.mjs): the forced cells as the released guide's own fill.sh prints them over the translation 6252cdfe766684b0… (all of the seat's roots in one cut). By AI agents, Wed Nov 11 2026. No macro, syntax, notation, axiom, sorry.
-/
import Derived.Test.YtedpmehggpomnaaChecked
import GoSem.Claim
import GoSem.ClaimJoined
import GoSem.ClaimMapViews
import Derived.JoinedTies
import Derived.KernelRfl
namespace Go.Proofs.Ytedpmehggpomnaa
/- THE CELL 'sum', in the pinned program and in every row, IS THE sha256 OF THE DUMP (.gsa) THAT YtedpmehggpomnaaProg.lean LOADS. Nothing in Lean hashes anything: it is a label: what it is worth is what the hold of that sum in a sandbox is worth. -/
noncomputable def Try.pinned : Pinned := { name := "ytedpmehggpomnaa", sum := "6252cdfe766684b0193b6a2746c7e7455dd8d54426f9ad2d4516b92ea3f9e603", checked := Try.checked }
namespace Rows
def none {H : Type} : Left H := { results := [], args := [] }

/-- 'stickfullaw18.LeadGrows': WHATEVER THE INPUT: true; the input reads as it did. -/
def leadGrowsSpec : ChangeSpec := { name := "leadGrows", fn := fun _ => fun
  | [d1, d2, d3] => { results := [.lit (.bool true)], args := [d1, d2, d3] }
  | _ => none }
def leadGrowsRow : OpenClaim := { program := "ytedpmehggpomnaa", sum := "6252cdfe766684b0193b6a2746c7e7455dd8d54426f9ad2d4516b92ea3f9e603", func := "stickful/stickfullaw18.LeadGrows", spec := "leadGrows", unfollowed := true, recurses := true, named := ["math/bits.divideError", "math/bits.overflowError"], apart := false }
def LeadGrowsSaid : Prop := leadGrowsRow.holds Try.pinned (OpenSpec.ofChange leadGrowsSpec)

/-- ITS FALSE NEIGHBOUR: 'it returns false'. Refute it at one input. -/
def leadGrowsWrong : ChangeSpec := { name := "leadGrows", fn := fun _ => fun
  | [d1, d2, d3] => { results := [.lit (.bool false)], args := [d1, d2, d3] }
  | _ => none }
def LeadGrowsWrongFalsely : Prop := leadGrowsRow.holds Try.pinned (OpenSpec.ofChange leadGrowsWrong)

/-- 'stickfullaw18.LeadHalves': WHATEVER THE INPUT: true; the input reads as it did. -/
def leadHalvesSpec : ChangeSpec := { name := "leadHalves", fn := fun _ => fun
  | [d1, d2] => { results := [.lit (.bool true)], args := [d1, d2] }
  | _ => none }
def leadHalvesRow : OpenClaim := { program := "ytedpmehggpomnaa", sum := "6252cdfe766684b0193b6a2746c7e7455dd8d54426f9ad2d4516b92ea3f9e603", func := "stickful/stickfullaw18.LeadHalves", spec := "leadHalves", unfollowed := true, recurses := true, named := ["math/bits.divideError", "math/bits.overflowError"], apart := false }
def LeadHalvesSaid : Prop := leadHalvesRow.holds Try.pinned (OpenSpec.ofChange leadHalvesSpec)

/-- ITS FALSE NEIGHBOUR: 'it returns false'. Refute it at one input. -/
def leadHalvesWrong : ChangeSpec := { name := "leadHalves", fn := fun _ => fun
  | [d1, d2] => { results := [.lit (.bool false)], args := [d1, d2] }
  | _ => none }
def LeadHalvesWrongFalsely : Prop := leadHalvesRow.holds Try.pinned (OpenSpec.ofChange leadHalvesWrong)

/-- 'stickfullaw18.LeadTells': WHATEVER THE INPUT: true; the input reads as it did. -/
def leadTellsSpec : ChangeSpec := { name := "leadTells", fn := fun _ => fun
  | [d1, d2] => { results := [.lit (.bool true)], args := [d1, d2] }
  | _ => none }
def leadTellsRow : OpenClaim := { program := "ytedpmehggpomnaa", sum := "6252cdfe766684b0193b6a2746c7e7455dd8d54426f9ad2d4516b92ea3f9e603", func := "stickful/stickfullaw18.LeadTells", spec := "leadTells", unfollowed := true, recurses := true, named := ["math/bits.divideError", "math/bits.overflowError"], apart := false }
def LeadTellsSaid : Prop := leadTellsRow.holds Try.pinned (OpenSpec.ofChange leadTellsSpec)

/-- ITS FALSE NEIGHBOUR: 'it returns false'. Refute it at one input. -/
def leadTellsWrong : ChangeSpec := { name := "leadTells", fn := fun _ => fun
  | [d1, d2] => { results := [.lit (.bool false)], args := [d1, d2] }
  | _ => none }
def LeadTellsWrongFalsely : Prop := leadTellsRow.holds Try.pinned (OpenSpec.ofChange leadTellsWrong)

/-- 'stickfullaw18.LeadTimes': WHATEVER THE INPUT: true; the input reads as it did. -/
def leadTimesSpec : ChangeSpec := { name := "leadTimes", fn := fun _ => fun
  | [d1, d2] => { results := [.lit (.bool true)], args := [d1, d2] }
  | _ => none }
def leadTimesRow : OpenClaim := { program := "ytedpmehggpomnaa", sum := "6252cdfe766684b0193b6a2746c7e7455dd8d54426f9ad2d4516b92ea3f9e603", func := "stickful/stickfullaw18.LeadTimes", spec := "leadTimes", unfollowed := true, recurses := true, named := ["math/bits.divideError", "math/bits.overflowError"], apart := false }
def LeadTimesSaid : Prop := leadTimesRow.holds Try.pinned (OpenSpec.ofChange leadTimesSpec)

/-- ITS FALSE NEIGHBOUR: 'it returns false'. Refute it at one input. -/
def leadTimesWrong : ChangeSpec := { name := "leadTimes", fn := fun _ => fun
  | [d1, d2] => { results := [.lit (.bool false)], args := [d1, d2] }
  | _ => none }
def LeadTimesWrongFalsely : Prop := leadTimesRow.holds Try.pinned (OpenSpec.ofChange leadTimesWrong)

/- THE SECOND FORM. 'bulk': how many values and letters a reading holds, each counted each time it is reached (what is shared counts as often as it is met; a slice's spare places count too). A statement '..UptoSaid' is the law's where the arguments, and the package variables that the reading takes, are together of bulk at most 1048576: NARROWER than '..Said'. Prove '..Said' where nothing that the law and all that it calls make is longer than what came in: it says more and counts as full. Else prove '..UptoSaid'. A law counts once. -/
mutual
def uptoBulk {H : Type} : DataW H → Nat
  | .lit (.string bytes) => bytes.length + 1
  | .lit _ => 1
  | .nil => 1
  | .ptr d => uptoBulk d + 1
  | .slice elems spare => uptoBulkAll elems + uptoBulkAll spare + 1
  | .agg parts => uptoBulkAll parts + 1
  | .iface _ d => uptoBulk d + 1
  | .map entries => uptoBulkEntries entries + 1
  | .held _ => 1
def uptoBulkAll {H : Type} : List (DataW H) → Nat
  | [] => 0
  | d :: r => uptoBulk d + uptoBulkAll r
def uptoBulkEntries {H : Type} : List (Lit × DataW H) → Nat
  | [] => 0
  | x :: r => uptoBulkEntry x + uptoBulkEntries r
def uptoBulkEntry {H : Type} : Lit × DataW H → Nat
  | (.string bytes, d) => bytes.length + uptoBulk d + 1
  | (_, d) => uptoBulk d + 1
 end
def uptoSmall : (H : Type) → List (DataW H) → Bool := fun _ ds => decide (uptoBulkAll ds ≤ 1048576)
def OpenSpec.upto (s : _root_.Go.ChangeSpec) : _root_.Go.OpenSpec := { _root_.Go.OpenSpec.ofChange s with cond := some uptoSmall }

/-- 'stickfullaw18.LeadGrows', WHERE WHAT IT READS IS OF BULK AT MOST 1048576: true; the input reads as it did. -/
def leadGrowsUptoRow : OpenClaim := { program := "ytedpmehggpomnaa", sum := "6252cdfe766684b0193b6a2746c7e7455dd8d54426f9ad2d4516b92ea3f9e603", func := "stickful/stickfullaw18.LeadGrows", spec := "leadGrows", unfollowed := true, recurses := true, named := ["math/bits.divideError", "math/bits.overflowError"], apart := false, narrowed := true }
def LeadGrowsUptoSaid : Prop := leadGrowsUptoRow.holds Try.pinned (OpenSpec.upto leadGrowsSpec)

/-- 'stickfullaw18.LeadHalves', WHERE WHAT IT READS IS OF BULK AT MOST 1048576: true; the input reads as it did. -/
def leadHalvesUptoRow : OpenClaim := { program := "ytedpmehggpomnaa", sum := "6252cdfe766684b0193b6a2746c7e7455dd8d54426f9ad2d4516b92ea3f9e603", func := "stickful/stickfullaw18.LeadHalves", spec := "leadHalves", unfollowed := true, recurses := true, named := ["math/bits.divideError", "math/bits.overflowError"], apart := false, narrowed := true }
def LeadHalvesUptoSaid : Prop := leadHalvesUptoRow.holds Try.pinned (OpenSpec.upto leadHalvesSpec)

/-- 'stickfullaw18.LeadTells', WHERE WHAT IT READS IS OF BULK AT MOST 1048576: true; the input reads as it did. -/
def leadTellsUptoRow : OpenClaim := { program := "ytedpmehggpomnaa", sum := "6252cdfe766684b0193b6a2746c7e7455dd8d54426f9ad2d4516b92ea3f9e603", func := "stickful/stickfullaw18.LeadTells", spec := "leadTells", unfollowed := true, recurses := true, named := ["math/bits.divideError", "math/bits.overflowError"], apart := false, narrowed := true }
def LeadTellsUptoSaid : Prop := leadTellsUptoRow.holds Try.pinned (OpenSpec.upto leadTellsSpec)

/-- 'stickfullaw18.LeadTimes', WHERE WHAT IT READS IS OF BULK AT MOST 1048576: true; the input reads as it did. -/
def leadTimesUptoRow : OpenClaim := { program := "ytedpmehggpomnaa", sum := "6252cdfe766684b0193b6a2746c7e7455dd8d54426f9ad2d4516b92ea3f9e603", func := "stickful/stickfullaw18.LeadTimes", spec := "leadTimes", unfollowed := true, recurses := true, named := ["math/bits.divideError", "math/bits.overflowError"], apart := false, narrowed := true }
def LeadTimesUptoSaid : Prop := leadTimesUptoRow.holds Try.pinned (OpenSpec.upto leadTimesSpec)

end Rows
end Go.Proofs.Ytedpmehggpomnaa

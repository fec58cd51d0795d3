/-
  No cell of these rows narrows 'for every input' (looked for: loops, veiled, ifaces, maps, wideKeys, modest, calm, conditions, laid).
  DERIVED. THE GIVEN ROWS OF THIS SEAT. 3 by the template 'for every input the law returns true; each argument reads behind the call as it read before'; 0 by the template 'total and deterministic' (their statements: YtdjbcbdgcejcmaaTotals.lean).
  GIVEN WITH THE SEED: the statements are not yours to turn. If you find one false, say at which input.
  Laid BY PROGRAM, IN A SANDBOX (cutbox-rows.mjs): the forced cells as the released guide's own fill.sh prints them over the translation 6b02d39334ae1b9f… (all of the seat's roots in one cut). By AI agents, Wed Nov 11 2026. No macro, syntax, notation, axiom, sorry.
-/
import Derived.Test.YtdjbcbdgcejcmaaChecked
import GoSem.Claim
import GoSem.ClaimJoined
import GoSem.ClaimMapViews
import Derived.JoinedTies
import Derived.KernelRfl
namespace Go.Proofs.Ytdjbcbdgcejcmaa
/- THE CELL 'sum', in the pinned program and in every row, IS THE sha256 OF THE DUMP (.gsa) THAT YtdjbcbdgcejcmaaProg.lean LOADS. Nothing in Lean hashes anything: it is a label: what it is worth is what the hold of that sum in a sandbox is worth. -/
noncomputable def Try.pinned : Pinned := { name := "ytdjbcbdgcejcmaa", sum := "6b02d39334ae1b9f2c9655a64f42424105e5ea8234b7cfd601ddf05e3bbb3fcc", checked := Try.checked }
namespace Rows
def none {H : Type} : Left H := { results := [], args := [] }

/-- 'stickfullaw19.ShiftTells': WHATEVER THE INPUT: true; the input reads as it did. -/
def shiftTellsSpec : ChangeSpec := { name := "shiftTells", fn := fun _ => fun
  | [d1, d2, d3] => { results := [.lit (.bool true)], args := [d1, d2, d3] }
  | _ => none }
def shiftTellsRow : OpenClaim := { program := "ytdjbcbdgcejcmaa", sum := "6b02d39334ae1b9f2c9655a64f42424105e5ea8234b7cfd601ddf05e3bbb3fcc", func := "stickful/stickfullaw19.ShiftTells", spec := "shiftTells", unfollowed := true, recurses := true, named := ["math/bits.divideError", "math/bits.overflowError"], apart := false }
def ShiftTellsSaid : Prop := shiftTellsRow.holds Try.pinned (OpenSpec.ofChange shiftTellsSpec)

/-- ITS FALSE NEIGHBOUR: 'it returns false'. Refute it at one input. -/
def shiftTellsWrong : ChangeSpec := { name := "shiftTells", fn := fun _ => fun
  | [d1, d2, d3] => { results := [.lit (.bool false)], args := [d1, d2, d3] }
  | _ => none }
def ShiftTellsWrongFalsely : Prop := shiftTellsRow.holds Try.pinned (OpenSpec.ofChange shiftTellsWrong)

/-- 'stickfullaw19.ShiftStands': WHATEVER THE INPUT: true; the input reads as it did. -/
def shiftStandsSpec : ChangeSpec := { name := "shiftStands", fn := fun _ => fun
  | [d1, d2, d3] => { results := [.lit (.bool true)], args := [d1, d2, d3] }
  | _ => none }
def shiftStandsRow : OpenClaim := { program := "ytdjbcbdgcejcmaa", sum := "6b02d39334ae1b9f2c9655a64f42424105e5ea8234b7cfd601ddf05e3bbb3fcc", func := "stickful/stickfullaw19.ShiftStands", spec := "shiftStands", unfollowed := true, recurses := true, named := ["math/bits.divideError", "math/bits.overflowError"], apart := false }
def ShiftStandsSaid : Prop := shiftStandsRow.holds Try.pinned (OpenSpec.ofChange shiftStandsSpec)

/-- ITS FALSE NEIGHBOUR: 'it returns false'. Refute it at one input. -/
def shiftStandsWrong : ChangeSpec := { name := "shiftStands", fn := fun _ => fun
  | [d1, d2, d3] => { results := [.lit (.bool false)], args := [d1, d2, d3] }
  | _ => none }
def ShiftStandsWrongFalsely : Prop := shiftStandsRow.holds Try.pinned (OpenSpec.ofChange shiftStandsWrong)

/-- 'stickfullaw19.ShiftTimes': WHATEVER THE INPUT: true; the input reads as it did. -/
def shiftTimesSpec : ChangeSpec := { name := "shiftTimes", fn := fun _ => fun
  | [d1, d2, d3] => { results := [.lit (.bool true)], args := [d1, d2, d3] }
  | _ => none }
def shiftTimesRow : OpenClaim := { program := "ytdjbcbdgcejcmaa", sum := "6b02d39334ae1b9f2c9655a64f42424105e5ea8234b7cfd601ddf05e3bbb3fcc", func := "stickful/stickfullaw19.ShiftTimes", spec := "shiftTimes", unfollowed := true, recurses := true, named := ["math/bits.divideError", "math/bits.overflowError"], apart := false }
def ShiftTimesSaid : Prop := shiftTimesRow.holds Try.pinned (OpenSpec.ofChange shiftTimesSpec)

/-- ITS FALSE NEIGHBOUR: 'it returns false'. Refute it at one input. -/
def shiftTimesWrong : ChangeSpec := { name := "shiftTimes", fn := fun _ => fun
  | [d1, d2, d3] => { results := [.lit (.bool false)], args := [d1, d2, d3] }
  | _ => none }
def ShiftTimesWrongFalsely : Prop := shiftTimesRow.holds Try.pinned (OpenSpec.ofChange shiftTimesWrong)

/- THE SECOND FORM. 'bulk': how many values and letters a reading holds, each counted each time it is reached (what is shared counts as often as it is met; a slice's spare places count too). A statement '..UptoSaid' is the law's where the arguments, and the package variables that the reading takes, are together of bulk at most 1048576: NARROWER than '..Said'. Prove '..Said' where nothing that the law and all that it calls make is longer than what came in: it says more and counts as full. Else prove '..UptoSaid'. A law counts once. -/
mutual
def uptoBulk {H : Type} : DataW H → Nat
  | .lit (.string bytes) => bytes.length + 1
  | .lit _ => 1
  | .nil => 1
  | .ptr d => uptoBulk d + 1
  | .slice elems spare => uptoBulkAll elems + uptoBulkAll spare + 1
  | .agg parts => uptoBulkAll parts + 1
  | .iface _ d => uptoBulk d + 1
  | .map entries => uptoBulkEntries entries + 1
  | .held _ => 1
def uptoBulkAll {H : Type} : List (DataW H) → Nat
  | [] => 0
  | d :: r => uptoBulk d + uptoBulkAll r
def uptoBulkEntries {H : Type} : List (Lit × DataW H) → Nat
  | [] => 0
  | x :: r => uptoBulkEntry x + uptoBulkEntries r
def uptoBulkEntry {H : Type} : Lit × DataW H → Nat
  | (.string bytes, d) => bytes.length + uptoBulk d + 1
  | (_, d) => uptoBulk d + 1
 end
def uptoSmall : (H : Type) → List (DataW H) → Bool := fun _ ds => decide (uptoBulkAll ds ≤ 1048576)
def OpenSpec.upto (s : _root_.Go.ChangeSpec) : _root_.Go.OpenSpec := { _root_.Go.OpenSpec.ofChange s with cond := some uptoSmall }

/-- 'stickfullaw19.ShiftTells', WHERE WHAT IT READS IS OF BULK AT MOST 1048576: true; the input reads as it did. -/
def shiftTellsUptoRow : OpenClaim := { program := "ytdjbcbdgcejcmaa", sum := "6b02d39334ae1b9f2c9655a64f42424105e5ea8234b7cfd601ddf05e3bbb3fcc", func := "stickful/stickfullaw19.ShiftTells", spec := "shiftTells", unfollowed := true, recurses := true, named := ["math/bits.divideError", "math/bits.overflowError"], apart := false, narrowed := true }
def ShiftTellsUptoSaid : Prop := shiftTellsUptoRow.holds Try.pinned (OpenSpec.upto shiftTellsSpec)

/-- 'stickfullaw19.ShiftStands', WHERE WHAT IT READS IS OF BULK AT MOST 1048576: true; the input reads as it did. -/
def shiftStandsUptoRow : OpenClaim := { program := "ytdjbcbdgcejcmaa", sum := "6b02d39334ae1b9f2c9655a64f42424105e5ea8234b7cfd601ddf05e3bbb3fcc", func := "stickful/stickfullaw19.ShiftStands", spec := "shiftStands", unfollowed := true, recurses := true, named := ["math/bits.divideError", "math/bits.overflowError"], apart := false, narrowed := true }
def ShiftStandsUptoSaid : Prop := shiftStandsUptoRow.holds Try.pinned (OpenSpec.upto shiftStandsSpec)

/-- 'stickfullaw19.ShiftTimes', WHERE WHAT IT READS IS OF BULK AT MOST 1048576: true; the input reads as it did. -/
def shiftTimesUptoRow : OpenClaim := { program := "ytdjbcbdgcejcmaa", sum := "6b02d39334ae1b9f2c9655a64f42424105e5ea8234b7cfd601ddf05e3bbb3fcc", func := "stickful/stickfullaw19.ShiftTimes", spec := "shiftTimes", unfollowed := true, recurses := true, named := ["math/bits.divideError", "math/bits.overflowError"], apart := false, narrowed := true }
def ShiftTimesUptoSaid : Prop := shiftTimesUptoRow.holds Try.pinned (OpenSpec.upto shiftTimesSpec)

end Rows
end Go.Proofs.Ytdjbcbdgcejcmaa

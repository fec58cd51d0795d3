/-
  No cell of these rows narrows 'for every input' (looked for: loops, veiled, ifaces, maps, wideKeys, modest, calm, conditions, laid).
  DERIVED. THE GIVEN ROWS OF THIS SEAT. 5 by the template 'for every input the law returns true; each argument reads behind the call as it read before'; 0 by the template 'total and deterministic' (their statements: YtmjacmjogckihaaTotals.lean).
  GIVEN WITH THE SEED: the statements are not yours to turn. If you find one false, say at which input.
  Laid BY PROGRAM, IN A SANDBOX (cutbox-rows.mjs): the forced cells as the released guide's own fill.sh prints them over the translation 40eec3c6ce917192… (all of the seat's roots in one cut). By AI agents, Wed Nov 11 2026. No macro, syntax, notation, axiom, sorry.
-/
import Derived.Test.YtmjacmjogckihaaChecked
import GoSem.Claim
import GoSem.ClaimJoined
import GoSem.ClaimMapViews
import Derived.JoinedTies
import Derived.KernelRfl
namespace Go.Proofs.Ytmjacmjogckihaa
/- THE CELL 'sum', in the pinned program and in every row, IS THE sha256 OF THE DUMP (.gsa) THAT YtmjacmjogckihaaProg.lean LOADS. Nothing in Lean hashes anything: it is a label: what it is worth is what the hold of that sum in a sandbox is worth. -/
noncomputable def Try.pinned : Pinned := { name := "ytmjacmjogckihaa", sum := "40eec3c6ce917192f03dd758bae58f155583c92f6d0e61641c1b06b39489e5a3", checked := Try.checked }
namespace Rows
def none {H : Type} : Left H := { results := [], args := [] }

/-- 'stickfullaw08.WhiteCollapses': WHATEVER THE INPUT: true; the input reads as it did. -/
def whiteCollapsesSpec : ChangeSpec := { name := "whiteCollapses", fn := fun _ => fun
  | [d1, d2] => { results := [.lit (.bool true)], args := [d1, d2] }
  | _ => none }
def whiteCollapsesRow : OpenClaim := { program := "ytmjacmjogckihaa", sum := "40eec3c6ce917192f03dd758bae58f155583c92f6d0e61641c1b06b39489e5a3", func := "stickful/stickfullaw08.WhiteCollapses", spec := "whiteCollapses", inPlace := ["internal/abi.NoEscape"], unfollowed := true, recurses := true, apart := false }
def WhiteCollapsesSaid : Prop := whiteCollapsesRow.holds Try.pinned (OpenSpec.ofChange whiteCollapsesSpec)

/-- ITS FALSE NEIGHBOUR: 'it returns false'. Refute it at one input. -/
def whiteCollapsesWrong : ChangeSpec := { name := "whiteCollapses", fn := fun _ => fun
  | [d1, d2] => { results := [.lit (.bool false)], args := [d1, d2] }
  | _ => none }
def WhiteCollapsesWrongFalsely : Prop := whiteCollapsesRow.holds Try.pinned (OpenSpec.ofChange whiteCollapsesWrong)

/-- 'stickfullaw08.WhiteOrder': WHATEVER THE INPUT: true; the input reads as it did. -/
def whiteOrderSpec : ChangeSpec := { name := "whiteOrder", fn := fun _ => fun
  | [d1, d2] => { results := [.lit (.bool true)], args := [d1, d2] }
  | _ => none }
def whiteOrderRow : OpenClaim := { program := "ytmjacmjogckihaa", sum := "40eec3c6ce917192f03dd758bae58f155583c92f6d0e61641c1b06b39489e5a3", func := "stickful/stickfullaw08.WhiteOrder", spec := "whiteOrder", inPlace := ["internal/abi.NoEscape"], unfollowed := true, recurses := true, apart := false }
def WhiteOrderSaid : Prop := whiteOrderRow.holds Try.pinned (OpenSpec.ofChange whiteOrderSpec)

/-- ITS FALSE NEIGHBOUR: 'it returns false'. Refute it at one input. -/
def whiteOrderWrong : ChangeSpec := { name := "whiteOrder", fn := fun _ => fun
  | [d1, d2] => { results := [.lit (.bool false)], args := [d1, d2] }
  | _ => none }
def WhiteOrderWrongFalsely : Prop := whiteOrderRow.holds Try.pinned (OpenSpec.ofChange whiteOrderWrong)

/-- 'stickfullaw08.WhiteAlone': WHATEVER THE INPUT: true; the input reads as it did. -/
def whiteAloneSpec : ChangeSpec := { name := "whiteAlone", fn := fun _ => fun
  | [d1, d2] => { results := [.lit (.bool true)], args := [d1, d2] }
  | _ => none }
def whiteAloneRow : OpenClaim := { program := "ytmjacmjogckihaa", sum := "40eec3c6ce917192f03dd758bae58f155583c92f6d0e61641c1b06b39489e5a3", func := "stickful/stickfullaw08.WhiteAlone", spec := "whiteAlone", inPlace := ["internal/abi.NoEscape"], unfollowed := true, recurses := true, apart := false }
def WhiteAloneSaid : Prop := whiteAloneRow.holds Try.pinned (OpenSpec.ofChange whiteAloneSpec)

/-- ITS FALSE NEIGHBOUR: 'it returns false'. Refute it at one input. -/
def whiteAloneWrong : ChangeSpec := { name := "whiteAlone", fn := fun _ => fun
  | [d1, d2] => { results := [.lit (.bool false)], args := [d1, d2] }
  | _ => none }
def WhiteAloneWrongFalsely : Prop := whiteAloneRow.holds Try.pinned (OpenSpec.ofChange whiteAloneWrong)

/-- 'stickfullaw08.WhiteAgain': WHATEVER THE INPUT: true; the input reads as it did. -/
def whiteAgainSpec : ChangeSpec := { name := "whiteAgain", fn := fun _ => fun
  | [d1, d2] => { results := [.lit (.bool true)], args := [d1, d2] }
  | _ => none }
def whiteAgainRow : OpenClaim := { program := "ytmjacmjogckihaa", sum := "40eec3c6ce917192f03dd758bae58f155583c92f6d0e61641c1b06b39489e5a3", func := "stickful/stickfullaw08.WhiteAgain", spec := "whiteAgain", inPlace := ["internal/abi.NoEscape"], unfollowed := true, recurses := true, apart := false }
def WhiteAgainSaid : Prop := whiteAgainRow.holds Try.pinned (OpenSpec.ofChange whiteAgainSpec)

/-- ITS FALSE NEIGHBOUR: 'it returns false'. Refute it at one input. -/
def whiteAgainWrong : ChangeSpec := { name := "whiteAgain", fn := fun _ => fun
  | [d1, d2] => { results := [.lit (.bool false)], args := [d1, d2] }
  | _ => none }
def WhiteAgainWrongFalsely : Prop := whiteAgainRow.holds Try.pinned (OpenSpec.ofChange whiteAgainWrong)

/-- 'stickfullaw08.WhiteParts': WHATEVER THE INPUT: true; the input reads as it did. -/
def whitePartsSpec : ChangeSpec := { name := "whiteParts", fn := fun _ => fun
  | [d1, d2, d3] => { results := [.lit (.bool true)], args := [d1, d2, d3] }
  | _ => none }
def whitePartsRow : OpenClaim := { program := "ytmjacmjogckihaa", sum := "40eec3c6ce917192f03dd758bae58f155583c92f6d0e61641c1b06b39489e5a3", func := "stickful/stickfullaw08.WhiteParts", spec := "whiteParts", inPlace := ["internal/abi.NoEscape"], unfollowed := true, recurses := true, apart := false }
def WhitePartsSaid : Prop := whitePartsRow.holds Try.pinned (OpenSpec.ofChange whitePartsSpec)

/-- ITS FALSE NEIGHBOUR: 'it returns false'. Refute it at one input. -/
def whitePartsWrong : ChangeSpec := { name := "whiteParts", fn := fun _ => fun
  | [d1, d2, d3] => { results := [.lit (.bool false)], args := [d1, d2, d3] }
  | _ => none }
def WhitePartsWrongFalsely : Prop := whitePartsRow.holds Try.pinned (OpenSpec.ofChange whitePartsWrong)

/- THE SECOND FORM. 'bulk': how many values and letters a reading holds, each counted each time it is reached (what is shared counts as often as it is met; a slice's spare places count too). A statement '..UptoSaid' is the law's where the arguments, and the package variables that the reading takes, are together of bulk at most 1048576: NARROWER than '..Said'. Prove '..Said' where nothing that the law and all that it calls make is longer than what came in: it says more and counts as full. Else prove '..UptoSaid'. A law counts once. -/
mutual
def uptoBulk {H : Type} : DataW H → Nat
  | .lit (.string bytes) => bytes.length + 1
  | .lit _ => 1
  | .nil => 1
  | .ptr d => uptoBulk d + 1
  | .slice elems spare => uptoBulkAll elems + uptoBulkAll spare + 1
  | .agg parts => uptoBulkAll parts + 1
  | .iface _ d => uptoBulk d + 1
  | .map entries => uptoBulkEntries entries + 1
  | .held _ => 1
def uptoBulkAll {H : Type} : List (DataW H) → Nat
  | [] => 0
  | d :: r => uptoBulk d + uptoBulkAll r
def uptoBulkEntries {H : Type} : List (Lit × DataW H) → Nat
  | [] => 0
  | x :: r => uptoBulkEntry x + uptoBulkEntries r
def uptoBulkEntry {H : Type} : Lit × DataW H → Nat
  | (.string bytes, d) => bytes.length + uptoBulk d + 1
  | (_, d) => uptoBulk d + 1
 end
def uptoSmall : (H : Type) → List (DataW H) → Bool := fun _ ds => decide (uptoBulkAll ds ≤ 1048576)
def OpenSpec.upto (s : _root_.Go.ChangeSpec) : _root_.Go.OpenSpec := { _root_.Go.OpenSpec.ofChange s with cond := some uptoSmall }

/-- 'stickfullaw08.WhiteCollapses', WHERE WHAT IT READS IS OF BULK AT MOST 1048576: true; the input reads as it did. -/
def whiteCollapsesUptoRow : OpenClaim := { program := "ytmjacmjogckihaa", sum := "40eec3c6ce917192f03dd758bae58f155583c92f6d0e61641c1b06b39489e5a3", func := "stickful/stickfullaw08.WhiteCollapses", spec := "whiteCollapses", inPlace := ["internal/abi.NoEscape"], unfollowed := true, recurses := true, apart := false, narrowed := true }
def WhiteCollapsesUptoSaid : Prop := whiteCollapsesUptoRow.holds Try.pinned (OpenSpec.upto whiteCollapsesSpec)

/-- 'stickfullaw08.WhiteOrder', WHERE WHAT IT READS IS OF BULK AT MOST 1048576: true; the input reads as it did. -/
def whiteOrderUptoRow : OpenClaim := { program := "ytmjacmjogckihaa", sum := "40eec3c6ce917192f03dd758bae58f155583c92f6d0e61641c1b06b39489e5a3", func := "stickful/stickfullaw08.WhiteOrder", spec := "whiteOrder", inPlace := ["internal/abi.NoEscape"], unfollowed := true, recurses := true, apart := false, narrowed := true }
def WhiteOrderUptoSaid : Prop := whiteOrderUptoRow.holds Try.pinned (OpenSpec.upto whiteOrderSpec)

/-- 'stickfullaw08.WhiteAlone', WHERE WHAT IT READS IS OF BULK AT MOST 1048576: true; the input reads as it did. -/
def whiteAloneUptoRow : OpenClaim := { program := "ytmjacmjogckihaa", sum := "40eec3c6ce917192f03dd758bae58f155583c92f6d0e61641c1b06b39489e5a3", func := "stickful/stickfullaw08.WhiteAlone", spec := "whiteAlone", inPlace := ["internal/abi.NoEscape"], unfollowed := true, recurses := true, apart := false, narrowed := true }
def WhiteAloneUptoSaid : Prop := whiteAloneUptoRow.holds Try.pinned (OpenSpec.upto whiteAloneSpec)

/-- 'stickfullaw08.WhiteAgain', WHERE WHAT IT READS IS OF BULK AT MOST 1048576: true; the input reads as it did. -/
def whiteAgainUptoRow : OpenClaim := { program := "ytmjacmjogckihaa", sum := "40eec3c6ce917192f03dd758bae58f155583c92f6d0e61641c1b06b39489e5a3", func := "stickful/stickfullaw08.WhiteAgain", spec := "whiteAgain", inPlace := ["internal/abi.NoEscape"], unfollowed := true, recurses := true, apart := false, narrowed := true }
def WhiteAgainUptoSaid : Prop := whiteAgainUptoRow.holds Try.pinned (OpenSpec.upto whiteAgainSpec)

/-- 'stickfullaw08.WhiteParts', WHERE WHAT IT READS IS OF BULK AT MOST 1048576: true; the input reads as it did. -/
def whitePartsUptoRow : OpenClaim := { program := "ytmjacmjogckihaa", sum := "40eec3c6ce917192f03dd758bae58f155583c92f6d0e61641c1b06b39489e5a3", func := "stickful/stickfullaw08.WhiteParts", spec := "whiteParts", inPlace := ["internal/abi.NoEscape"], unfollowed := true, recurses := true, apart := false, narrowed := true }
def WhitePartsUptoSaid : Prop := whitePartsUptoRow.holds Try.pinned (OpenSpec.upto whitePartsSpec)

end Rows
end Go.Proofs.Ytmjacmjogckihaa

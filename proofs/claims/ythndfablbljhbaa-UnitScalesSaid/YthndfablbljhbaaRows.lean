/-
  No cell of these rows narrows 'for every input' (looked for: loops, veiled, ifaces, maps, wideKeys, modest, calm, conditions, laid).
  DERIVED. THE GIVEN ROWS OF THIS SEAT. 6 by the template 'for every input the law returns true; each argument reads behind the call as it read before'; 0 by the template 'total and deterministic' (their statements: YthndfablbljhbaaTotals.lean).
  GIVEN WITH THE SEED: the statements are not yours to turn. If you find one false, say at which input.
  Laid BY PROGRAM, IN A SANDBOX (cutbox-rows.mjs): the forced cells as the released guide's own fill.sh prints them over the translation ce76eb99d5b82c87… (all of the seat's roots in one cut). By AI agents, Wed Nov 11 2026. No macro, syntax, notation, axiom, sorry.
-/
import Derived.Test.YthndfablbljhbaaChecked
import GoSem.Claim
import GoSem.ClaimJoined
import GoSem.ClaimMapViews
import Derived.JoinedTies
import Derived.KernelRfl
namespace Go.Proofs.Ythndfablbljhbaa
/- THE CELL 'sum', in the pinned program and in every row, IS THE sha256 OF THE DUMP (.gsa) THAT YthndfablbljhbaaProg.lean LOADS. Nothing in Lean hashes anything: it is a label: what it is worth is what the hold of that sum in a sandbox is worth. -/
noncomputable def Try.pinned : Pinned := { name := "ythndfablbljhbaa", sum := "ce76eb99d5b82c8700362e7f7e7aa3bf252f1491ff60aba9c2edfe33318c220e", checked := Try.checked }
namespace Rows
def none {H : Type} : Left H := { results := [], args := [] }

/-- 'stickfullaw01.UnitScales': WHATEVER THE INPUT: true; the input reads as it did. -/
def unitScalesSpec : ChangeSpec := { name := "unitScales", fn := fun _ => fun
  | [d1, d2, d3] => { results := [.lit (.bool true)], args := [d1, d2, d3] }
  | _ => none }
def unitScalesRow : OpenClaim := { program := "ythndfablbljhbaa", sum := "ce76eb99d5b82c8700362e7f7e7aa3bf252f1491ff60aba9c2edfe33318c220e", func := "stickful/stickfullaw01.UnitScales", spec := "unitScales", inPlace := ["math/bits.Add64"], unfollowed := true, recurses := true, named := ["math/bits.divideError", "math/bits.overflowError"], apart := false }
def UnitScalesSaid : Prop := unitScalesRow.holds Try.pinned (OpenSpec.ofChange unitScalesSpec)

/-- ITS FALSE NEIGHBOUR: 'it returns false'. Refute it at one input. -/
def unitScalesWrong : ChangeSpec := { name := "unitScales", fn := fun _ => fun
  | [d1, d2, d3] => { results := [.lit (.bool false)], args := [d1, d2, d3] }
  | _ => none }
def UnitScalesWrongFalsely : Prop := unitScalesRow.holds Try.pinned (OpenSpec.ofChange unitScalesWrong)

/-- 'stickfullaw01.UnitParts': WHATEVER THE INPUT: true; the input reads as it did. -/
def unitPartsSpec : ChangeSpec := { name := "unitParts", fn := fun _ => fun
  | [d1, d2] => { results := [.lit (.bool true)], args := [d1, d2] }
  | _ => none }
def unitPartsRow : OpenClaim := { program := "ythndfablbljhbaa", sum := "ce76eb99d5b82c8700362e7f7e7aa3bf252f1491ff60aba9c2edfe33318c220e", func := "stickful/stickfullaw01.UnitParts", spec := "unitParts", inPlace := ["math/bits.Add64"], unfollowed := true, recurses := true, named := ["math/bits.divideError", "math/bits.overflowError"], apart := false }
def UnitPartsSaid : Prop := unitPartsRow.holds Try.pinned (OpenSpec.ofChange unitPartsSpec)

/-- ITS FALSE NEIGHBOUR: 'it returns false'. Refute it at one input. -/
def unitPartsWrong : ChangeSpec := { name := "unitParts", fn := fun _ => fun
  | [d1, d2] => { results := [.lit (.bool false)], args := [d1, d2] }
  | _ => none }
def UnitPartsWrongFalsely : Prop := unitPartsRow.holds Try.pinned (OpenSpec.ofChange unitPartsWrong)

/-- 'stickfullaw01.UnitWays': WHATEVER THE INPUT: true; the input reads as it did. -/
def unitWaysSpec : ChangeSpec := { name := "unitWays", fn := fun _ => fun
  | [d1, d2, d3] => { results := [.lit (.bool true)], args := [d1, d2, d3] }
  | _ => none }
def unitWaysRow : OpenClaim := { program := "ythndfablbljhbaa", sum := "ce76eb99d5b82c8700362e7f7e7aa3bf252f1491ff60aba9c2edfe33318c220e", func := "stickful/stickfullaw01.UnitWays", spec := "unitWays", inPlace := ["math/bits.Add64"], unfollowed := true, recurses := true, named := ["math/bits.divideError", "math/bits.overflowError"], apart := false }
def UnitWaysSaid : Prop := unitWaysRow.holds Try.pinned (OpenSpec.ofChange unitWaysSpec)

/-- ITS FALSE NEIGHBOUR: 'it returns false'. Refute it at one input. -/
def unitWaysWrong : ChangeSpec := { name := "unitWays", fn := fun _ => fun
  | [d1, d2, d3] => { results := [.lit (.bool false)], args := [d1, d2, d3] }
  | _ => none }
def UnitWaysWrongFalsely : Prop := unitWaysRow.holds Try.pinned (OpenSpec.ofChange unitWaysWrong)

/-- 'stickfullaw01.UnitSums': WHATEVER THE INPUT: true; the input reads as it did. -/
def unitSumsSpec : ChangeSpec := { name := "unitSums", fn := fun _ => fun
  | [d1, d2] => { results := [.lit (.bool true)], args := [d1, d2] }
  | _ => none }
def unitSumsRow : OpenClaim := { program := "ythndfablbljhbaa", sum := "ce76eb99d5b82c8700362e7f7e7aa3bf252f1491ff60aba9c2edfe33318c220e", func := "stickful/stickfullaw01.UnitSums", spec := "unitSums", inPlace := ["math/bits.Add64"], unfollowed := true, recurses := true, named := ["math/bits.divideError", "math/bits.overflowError"], apart := false }
def UnitSumsSaid : Prop := unitSumsRow.holds Try.pinned (OpenSpec.ofChange unitSumsSpec)

/-- ITS FALSE NEIGHBOUR: 'it returns false'. Refute it at one input. -/
def unitSumsWrong : ChangeSpec := { name := "unitSums", fn := fun _ => fun
  | [d1, d2] => { results := [.lit (.bool false)], args := [d1, d2] }
  | _ => none }
def UnitSumsWrongFalsely : Prop := unitSumsRow.holds Try.pinned (OpenSpec.ofChange unitSumsWrong)

/-- 'stickfullaw01.UnitNear': WHATEVER THE INPUT: true; the input reads as it did. -/
def unitNearSpec : ChangeSpec := { name := "unitNear", fn := fun _ => fun
  | [d1, d2, d3] => { results := [.lit (.bool true)], args := [d1, d2, d3] }
  | _ => none }
def unitNearRow : OpenClaim := { program := "ythndfablbljhbaa", sum := "ce76eb99d5b82c8700362e7f7e7aa3bf252f1491ff60aba9c2edfe33318c220e", func := "stickful/stickfullaw01.UnitNear", spec := "unitNear", inPlace := ["math/bits.Add64"], unfollowed := true, recurses := true, named := ["math/bits.divideError", "math/bits.overflowError"], apart := false }
def UnitNearSaid : Prop := unitNearRow.holds Try.pinned (OpenSpec.ofChange unitNearSpec)

/-- ITS FALSE NEIGHBOUR: 'it returns false'. Refute it at one input. -/
def unitNearWrong : ChangeSpec := { name := "unitNear", fn := fun _ => fun
  | [d1, d2, d3] => { results := [.lit (.bool false)], args := [d1, d2, d3] }
  | _ => none }
def UnitNearWrongFalsely : Prop := unitNearRow.holds Try.pinned (OpenSpec.ofChange unitNearWrong)

/-- 'stickfullaw01.UnitTurns': WHATEVER THE INPUT: true; the input reads as it did. -/
def unitTurnsSpec : ChangeSpec := { name := "unitTurns", fn := fun _ => fun
  | [d1, d2, d3] => { results := [.lit (.bool true)], args := [d1, d2, d3] }
  | _ => none }
def unitTurnsRow : OpenClaim := { program := "ythndfablbljhbaa", sum := "ce76eb99d5b82c8700362e7f7e7aa3bf252f1491ff60aba9c2edfe33318c220e", func := "stickful/stickfullaw01.UnitTurns", spec := "unitTurns", inPlace := ["math/bits.Add64"], unfollowed := true, recurses := true, named := ["math/bits.divideError", "math/bits.overflowError"], apart := false }
def UnitTurnsSaid : Prop := unitTurnsRow.holds Try.pinned (OpenSpec.ofChange unitTurnsSpec)

/-- ITS FALSE NEIGHBOUR: 'it returns false'. Refute it at one input. -/
def unitTurnsWrong : ChangeSpec := { name := "unitTurns", fn := fun _ => fun
  | [d1, d2, d3] => { results := [.lit (.bool false)], args := [d1, d2, d3] }
  | _ => none }
def UnitTurnsWrongFalsely : Prop := unitTurnsRow.holds Try.pinned (OpenSpec.ofChange unitTurnsWrong)

/- THE SECOND FORM. 'bulk': how many values and letters a reading holds, each counted each time it is reached (what is shared counts as often as it is met; a slice's spare places count too). A statement '..UptoSaid' is the law's where the arguments, and the package variables that the reading takes, are together of bulk at most 1048576: NARROWER than '..Said'. Prove '..Said' where nothing that the law and all that it calls make is longer than what came in: it says more and counts as full. Else prove '..UptoSaid'. A law counts once. -/
mutual
def uptoBulk {H : Type} : DataW H → Nat
  | .lit (.string bytes) => bytes.length + 1
  | .lit _ => 1
  | .nil => 1
  | .ptr d => uptoBulk d + 1
  | .slice elems spare => uptoBulkAll elems + uptoBulkAll spare + 1
  | .agg parts => uptoBulkAll parts + 1
  | .iface _ d => uptoBulk d + 1
  | .map entries => uptoBulkEntries entries + 1
  | .held _ => 1
def uptoBulkAll {H : Type} : List (DataW H) → Nat
  | [] => 0
  | d :: r => uptoBulk d + uptoBulkAll r
def uptoBulkEntries {H : Type} : List (Lit × DataW H) → Nat
  | [] => 0
  | x :: r => uptoBulkEntry x + uptoBulkEntries r
def uptoBulkEntry {H : Type} : Lit × DataW H → Nat
  | (.string bytes, d) => bytes.length + uptoBulk d + 1
  | (_, d) => uptoBulk d + 1
 end
def uptoSmall : (H : Type) → List (DataW H) → Bool := fun _ ds => decide (uptoBulkAll ds ≤ 1048576)
def OpenSpec.upto (s : _root_.Go.ChangeSpec) : _root_.Go.OpenSpec := { _root_.Go.OpenSpec.ofChange s with cond := some uptoSmall }

/-- 'stickfullaw01.UnitScales', WHERE WHAT IT READS IS OF BULK AT MOST 1048576: true; the input reads as it did. -/
def unitScalesUptoRow : OpenClaim := { program := "ythndfablbljhbaa", sum := "ce76eb99d5b82c8700362e7f7e7aa3bf252f1491ff60aba9c2edfe33318c220e", func := "stickful/stickfullaw01.UnitScales", spec := "unitScales", inPlace := ["math/bits.Add64"], unfollowed := true, recurses := true, named := ["math/bits.divideError", "math/bits.overflowError"], apart := false, narrowed := true }
def UnitScalesUptoSaid : Prop := unitScalesUptoRow.holds Try.pinned (OpenSpec.upto unitScalesSpec)

/-- 'stickfullaw01.UnitParts', WHERE WHAT IT READS IS OF BULK AT MOST 1048576: true; the input reads as it did. -/
def unitPartsUptoRow : OpenClaim := { program := "ythndfablbljhbaa", sum := "ce76eb99d5b82c8700362e7f7e7aa3bf252f1491ff60aba9c2edfe33318c220e", func := "stickful/stickfullaw01.UnitParts", spec := "unitParts", inPlace := ["math/bits.Add64"], unfollowed := true, recurses := true, named := ["math/bits.divideError", "math/bits.overflowError"], apart := false, narrowed := true }
def UnitPartsUptoSaid : Prop := unitPartsUptoRow.holds Try.pinned (OpenSpec.upto unitPartsSpec)

/-- 'stickfullaw01.UnitWays', WHERE WHAT IT READS IS OF BULK AT MOST 1048576: true; the input reads as it did. -/
def unitWaysUptoRow : OpenClaim := { program := "ythndfablbljhbaa", sum := "ce76eb99d5b82c8700362e7f7e7aa3bf252f1491ff60aba9c2edfe33318c220e", func := "stickful/stickfullaw01.UnitWays", spec := "unitWays", inPlace := ["math/bits.Add64"], unfollowed := true, recurses := true, named := ["math/bits.divideError", "math/bits.overflowError"], apart := false, narrowed := true }
def UnitWaysUptoSaid : Prop := unitWaysUptoRow.holds Try.pinned (OpenSpec.upto unitWaysSpec)

/-- 'stickfullaw01.UnitSums', WHERE WHAT IT READS IS OF BULK AT MOST 1048576: true; the input reads as it did. -/
def unitSumsUptoRow : OpenClaim := { program := "ythndfablbljhbaa", sum := "ce76eb99d5b82c8700362e7f7e7aa3bf252f1491ff60aba9c2edfe33318c220e", func := "stickful/stickfullaw01.UnitSums", spec := "unitSums", inPlace := ["math/bits.Add64"], unfollowed := true, recurses := true, named := ["math/bits.divideError", "math/bits.overflowError"], apart := false, narrowed := true }
def UnitSumsUptoSaid : Prop := unitSumsUptoRow.holds Try.pinned (OpenSpec.upto unitSumsSpec)

/-- 'stickfullaw01.UnitNear', WHERE WHAT IT READS IS OF BULK AT MOST 1048576: true; the input reads as it did. -/
def unitNearUptoRow : OpenClaim := { program := "ythndfablbljhbaa", sum := "ce76eb99d5b82c8700362e7f7e7aa3bf252f1491ff60aba9c2edfe33318c220e", func := "stickful/stickfullaw01.UnitNear", spec := "unitNear", inPlace := ["math/bits.Add64"], unfollowed := true, recurses := true, named := ["math/bits.divideError", "math/bits.overflowError"], apart := false, narrowed := true }
def UnitNearUptoSaid : Prop := unitNearUptoRow.holds Try.pinned (OpenSpec.upto unitNearSpec)

/-- 'stickfullaw01.UnitTurns', WHERE WHAT IT READS IS OF BULK AT MOST 1048576: true; the input reads as it did. -/
def unitTurnsUptoRow : OpenClaim := { program := "ythndfablbljhbaa", sum := "ce76eb99d5b82c8700362e7f7e7aa3bf252f1491ff60aba9c2edfe33318c220e", func := "stickful/stickfullaw01.UnitTurns", spec := "unitTurns", inPlace := ["math/bits.Add64"], unfollowed := true, recurses := true, named := ["math/bits.divideError", "math/bits.overflowError"], apart := false, narrowed := true }
def UnitTurnsUptoSaid : Prop := unitTurnsUptoRow.holds Try.pinned (OpenSpec.upto unitTurnsSpec)

end Rows
end Go.Proofs.Ythndfablbljhbaa

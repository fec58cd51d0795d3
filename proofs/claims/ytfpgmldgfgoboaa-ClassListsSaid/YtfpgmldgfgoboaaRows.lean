/-
  No cell of these rows narrows 'for every input' (looked for: loops, veiled, ifaces, maps, wideKeys, modest, calm, conditions, laid).
  DERIVED. THE GIVEN ROWS OF THIS SEAT. 7 by the template 'for every input the law returns true; each argument reads behind the call as it read before'; 0 by the template 'total and deterministic' (their statements: YtfpgmldgfgoboaaTotals.lean).
  GIVEN WITH THE SEED: the statements are not yours to turn. If you find one false, say at which input.
  Laid BY PROGRAM, IN A SANDBOX (cutbox-rows.mjs): the forced cells as the released guide's own fill.sh prints them over the translation 5c25c3e9bd9813b3… (all of the seat's roots in one cut). By AI agents, Wed Nov 11 2026. No macro, syntax, notation, axiom, sorry.
-/
import Derived.Test.YtfpgmldgfgoboaaChecked
import GoSem.Claim
import GoSem.ClaimJoined
import GoSem.ClaimMapViews
import Derived.JoinedTies
import Derived.KernelRfl
namespace Go.Proofs.Ytfpgmldgfgoboaa
/- THE CELL 'sum', in the pinned program and in every row, IS THE sha256 OF THE DUMP (.gsa) THAT YtfpgmldgfgoboaaProg.lean LOADS. Nothing in Lean hashes anything: it is a label: what it is worth is what the hold of that sum in a sandbox is worth. -/
noncomputable def Try.pinned : Pinned := { name := "ytfpgmldgfgoboaa", sum := "5c25c3e9bd9813b3d55bad7e43254b21fd923315a3aa9ac5f03ef834461787df", checked := Try.checked }
namespace Rows
def none {H : Type} : Left H := { results := [], args := [] }

/-- 'stickfullaw22.FitTells': WHATEVER THE INPUT: true; the input reads as it did. -/
def fitTellsSpec : ChangeSpec := { name := "fitTells", fn := fun _ => fun
  | [d] => { results := [.lit (.bool true)], args := [d] }
  | _ => none }
def fitTellsRow : OpenClaim := { program := "ytfpgmldgfgoboaa", sum := "5c25c3e9bd9813b3d55bad7e43254b21fd923315a3aa9ac5f03ef834461787df", func := "stickful/stickfullaw22.FitTells", spec := "fitTells", apart := false }
def FitTellsSaid : Prop := fitTellsRow.holds Try.pinned (OpenSpec.ofChange fitTellsSpec)

/-- ITS FALSE NEIGHBOUR: 'it returns false'. Refute it at one input. -/
def fitTellsWrong : ChangeSpec := { name := "fitTells", fn := fun _ => fun
  | [d] => { results := [.lit (.bool false)], args := [d] }
  | _ => none }
def FitTellsWrongFalsely : Prop := fitTellsRow.holds Try.pinned (OpenSpec.ofChange fitTellsWrong)

/-- 'stickfullaw22.FitBounds': WHATEVER THE INPUT: true; the input reads as it did. -/
def fitBoundsSpec : ChangeSpec := { name := "fitBounds", fn := fun _ => fun
  | [d1, d2] => { results := [.lit (.bool true)], args := [d1, d2] }
  | _ => none }
def fitBoundsRow : OpenClaim := { program := "ytfpgmldgfgoboaa", sum := "5c25c3e9bd9813b3d55bad7e43254b21fd923315a3aa9ac5f03ef834461787df", func := "stickful/stickfullaw22.FitBounds", spec := "fitBounds", apart := false }
def FitBoundsSaid : Prop := fitBoundsRow.holds Try.pinned (OpenSpec.ofChange fitBoundsSpec)

/-- ITS FALSE NEIGHBOUR: 'it returns false'. Refute it at one input. -/
def fitBoundsWrong : ChangeSpec := { name := "fitBounds", fn := fun _ => fun
  | [d1, d2] => { results := [.lit (.bool false)], args := [d1, d2] }
  | _ => none }
def FitBoundsWrongFalsely : Prop := fitBoundsRow.holds Try.pinned (OpenSpec.ofChange fitBoundsWrong)

/-- 'stickfullaw22.FitBoxes': WHATEVER THE INPUT: true; the input reads as it did. -/
def fitBoxesSpec : ChangeSpec := { name := "fitBoxes", fn := fun _ => fun
  | [d] => { results := [.lit (.bool true)], args := [d] }
  | _ => none }
def fitBoxesRow : OpenClaim := { program := "ytfpgmldgfgoboaa", sum := "5c25c3e9bd9813b3d55bad7e43254b21fd923315a3aa9ac5f03ef834461787df", func := "stickful/stickfullaw22.FitBoxes", spec := "fitBoxes", apart := false }
def FitBoxesSaid : Prop := fitBoxesRow.holds Try.pinned (OpenSpec.ofChange fitBoxesSpec)

/-- ITS FALSE NEIGHBOUR: 'it returns false'. Refute it at one input. -/
def fitBoxesWrong : ChangeSpec := { name := "fitBoxes", fn := fun _ => fun
  | [d] => { results := [.lit (.bool false)], args := [d] }
  | _ => none }
def FitBoxesWrongFalsely : Prop := fitBoxesRow.holds Try.pinned (OpenSpec.ofChange fitBoxesWrong)

/-- 'stickfullaw04.ClassOf': WHATEVER THE INPUT: true; the input reads as it did. -/
def classOfSpec : ChangeSpec := { name := "classOf", fn := fun _ => fun
  | [d] => { results := [.lit (.bool true)], args := [d] }
  | _ => none }
def classOfRow : OpenClaim := { program := "ytfpgmldgfgoboaa", sum := "5c25c3e9bd9813b3d55bad7e43254b21fd923315a3aa9ac5f03ef834461787df", func := "stickful/stickfullaw04.ClassOf", spec := "classOf", unfollowed := true, recurses := true, apart := false }
def ClassOfSaid : Prop := classOfRow.holds Try.pinned (OpenSpec.ofChange classOfSpec)

/-- ITS FALSE NEIGHBOUR: 'it returns false'. Refute it at one input. -/
def classOfWrong : ChangeSpec := { name := "classOf", fn := fun _ => fun
  | [d] => { results := [.lit (.bool false)], args := [d] }
  | _ => none }
def ClassOfWrongFalsely : Prop := classOfRow.holds Try.pinned (OpenSpec.ofChange classOfWrong)

/-- 'stickfullaw04.ClassNear': WHATEVER THE INPUT: true; the input reads as it did. -/
def classNearSpec : ChangeSpec := { name := "classNear", fn := fun _ => fun
  | [d] => { results := [.lit (.bool true)], args := [d] }
  | _ => none }
def classNearRow : OpenClaim := { program := "ytfpgmldgfgoboaa", sum := "5c25c3e9bd9813b3d55bad7e43254b21fd923315a3aa9ac5f03ef834461787df", func := "stickful/stickfullaw04.ClassNear", spec := "classNear", unfollowed := true, recurses := true, apart := false }
def ClassNearSaid : Prop := classNearRow.holds Try.pinned (OpenSpec.ofChange classNearSpec)

/-- ITS FALSE NEIGHBOUR: 'it returns false'. Refute it at one input. -/
def classNearWrong : ChangeSpec := { name := "classNear", fn := fun _ => fun
  | [d] => { results := [.lit (.bool false)], args := [d] }
  | _ => none }
def ClassNearWrongFalsely : Prop := classNearRow.holds Try.pinned (OpenSpec.ofChange classNearWrong)

/-- 'stickfullaw04.ClassLists': WHATEVER THE INPUT: true; the input reads as it did. -/
def classListsSpec : ChangeSpec := { name := "classLists", fn := fun _ => fun
  | [d1, d2] => { results := [.lit (.bool true)], args := [d1, d2] }
  | _ => none }
def classListsRow : OpenClaim := { program := "ytfpgmldgfgoboaa", sum := "5c25c3e9bd9813b3d55bad7e43254b21fd923315a3aa9ac5f03ef834461787df", func := "stickful/stickfullaw04.ClassLists", spec := "classLists", unfollowed := true, recurses := true, apart := false }
def ClassListsSaid : Prop := classListsRow.holds Try.pinned (OpenSpec.ofChange classListsSpec)

/-- ITS FALSE NEIGHBOUR: 'it returns false'. Refute it at one input. -/
def classListsWrong : ChangeSpec := { name := "classLists", fn := fun _ => fun
  | [d1, d2] => { results := [.lit (.bool false)], args := [d1, d2] }
  | _ => none }
def ClassListsWrongFalsely : Prop := classListsRow.holds Try.pinned (OpenSpec.ofChange classListsWrong)

/-- 'stickfullaw04.ClassOnce': WHATEVER THE INPUT: true; the input reads as it did. -/
def classOnceSpec : ChangeSpec := { name := "classOnce", fn := fun _ => fun
  | [d] => { results := [.lit (.bool true)], args := [d] }
  | _ => none }
def classOnceRow : OpenClaim := { program := "ytfpgmldgfgoboaa", sum := "5c25c3e9bd9813b3d55bad7e43254b21fd923315a3aa9ac5f03ef834461787df", func := "stickful/stickfullaw04.ClassOnce", spec := "classOnce", unfollowed := true, recurses := true, apart := false }
def ClassOnceSaid : Prop := classOnceRow.holds Try.pinned (OpenSpec.ofChange classOnceSpec)

/-- ITS FALSE NEIGHBOUR: 'it returns false'. Refute it at one input. -/
def classOnceWrong : ChangeSpec := { name := "classOnce", fn := fun _ => fun
  | [d] => { results := [.lit (.bool false)], args := [d] }
  | _ => none }
def ClassOnceWrongFalsely : Prop := classOnceRow.holds Try.pinned (OpenSpec.ofChange classOnceWrong)

/- THE SECOND FORM. 'bulk': how many values and letters a reading holds, each counted each time it is reached (what is shared counts as often as it is met; a slice's spare places count too). A statement '..UptoSaid' is the law's where the arguments, and the package variables that the reading takes, are together of bulk at most 1048576: NARROWER than '..Said'. Prove '..Said' where nothing that the law and all that it calls make is longer than what came in: it says more and counts as full. Else prove '..UptoSaid'. A law counts once. -/
mutual
def uptoBulk {H : Type} : DataW H → Nat
  | .lit (.string bytes) => bytes.length + 1
  | .lit _ => 1
  | .nil => 1
  | .ptr d => uptoBulk d + 1
  | .slice elems spare => uptoBulkAll elems + uptoBulkAll spare + 1
  | .agg parts => uptoBulkAll parts + 1
  | .iface _ d => uptoBulk d + 1
  | .map entries => uptoBulkEntries entries + 1
  | .held _ => 1
def uptoBulkAll {H : Type} : List (DataW H) → Nat
  | [] => 0
  | d :: r => uptoBulk d + uptoBulkAll r
def uptoBulkEntries {H : Type} : List (Lit × DataW H) → Nat
  | [] => 0
  | x :: r => uptoBulkEntry x + uptoBulkEntries r
def uptoBulkEntry {H : Type} : Lit × DataW H → Nat
  | (.string bytes, d) => bytes.length + uptoBulk d + 1
  | (_, d) => uptoBulk d + 1
 end
def uptoSmall : (H : Type) → List (DataW H) → Bool := fun _ ds => decide (uptoBulkAll ds ≤ 1048576)
def OpenSpec.upto (s : _root_.Go.ChangeSpec) : _root_.Go.OpenSpec := { _root_.Go.OpenSpec.ofChange s with cond := some uptoSmall }

/-- 'stickfullaw22.FitTells', WHERE WHAT IT READS IS OF BULK AT MOST 1048576: true; the input reads as it did. -/
def fitTellsUptoRow : OpenClaim := { program := "ytfpgmldgfgoboaa", sum := "5c25c3e9bd9813b3d55bad7e43254b21fd923315a3aa9ac5f03ef834461787df", func := "stickful/stickfullaw22.FitTells", spec := "fitTells", apart := false, narrowed := true }
def FitTellsUptoSaid : Prop := fitTellsUptoRow.holds Try.pinned (OpenSpec.upto fitTellsSpec)

/-- 'stickfullaw22.FitBounds', WHERE WHAT IT READS IS OF BULK AT MOST 1048576: true; the input reads as it did. -/
def fitBoundsUptoRow : OpenClaim := { program := "ytfpgmldgfgoboaa", sum := "5c25c3e9bd9813b3d55bad7e43254b21fd923315a3aa9ac5f03ef834461787df", func := "stickful/stickfullaw22.FitBounds", spec := "fitBounds", apart := false, narrowed := true }
def FitBoundsUptoSaid : Prop := fitBoundsUptoRow.holds Try.pinned (OpenSpec.upto fitBoundsSpec)

/-- 'stickfullaw22.FitBoxes', WHERE WHAT IT READS IS OF BULK AT MOST 1048576: true; the input reads as it did. -/
def fitBoxesUptoRow : OpenClaim := { program := "ytfpgmldgfgoboaa", sum := "5c25c3e9bd9813b3d55bad7e43254b21fd923315a3aa9ac5f03ef834461787df", func := "stickful/stickfullaw22.FitBoxes", spec := "fitBoxes", apart := false, narrowed := true }
def FitBoxesUptoSaid : Prop := fitBoxesUptoRow.holds Try.pinned (OpenSpec.upto fitBoxesSpec)

/-- 'stickfullaw04.ClassOf', WHERE WHAT IT READS IS OF BULK AT MOST 1048576: true; the input reads as it did. -/
def classOfUptoRow : OpenClaim := { program := "ytfpgmldgfgoboaa", sum := "5c25c3e9bd9813b3d55bad7e43254b21fd923315a3aa9ac5f03ef834461787df", func := "stickful/stickfullaw04.ClassOf", spec := "classOf", unfollowed := true, recurses := true, apart := false, narrowed := true }
def ClassOfUptoSaid : Prop := classOfUptoRow.holds Try.pinned (OpenSpec.upto classOfSpec)

/-- 'stickfullaw04.ClassNear', WHERE WHAT IT READS IS OF BULK AT MOST 1048576: true; the input reads as it did. -/
def classNearUptoRow : OpenClaim := { program := "ytfpgmldgfgoboaa", sum := "5c25c3e9bd9813b3d55bad7e43254b21fd923315a3aa9ac5f03ef834461787df", func := "stickful/stickfullaw04.ClassNear", spec := "classNear", unfollowed := true, recurses := true, apart := false, narrowed := true }
def ClassNearUptoSaid : Prop := classNearUptoRow.holds Try.pinned (OpenSpec.upto classNearSpec)

/-- 'stickfullaw04.ClassLists', WHERE WHAT IT READS IS OF BULK AT MOST 1048576: true; the input reads as it did. -/
def classListsUptoRow : OpenClaim := { program := "ytfpgmldgfgoboaa", sum := "5c25c3e9bd9813b3d55bad7e43254b21fd923315a3aa9ac5f03ef834461787df", func := "stickful/stickfullaw04.ClassLists", spec := "classLists", unfollowed := true, recurses := true, apart := false, narrowed := true }
def ClassListsUptoSaid : Prop := classListsUptoRow.holds Try.pinned (OpenSpec.upto classListsSpec)

/-- 'stickfullaw04.ClassOnce', WHERE WHAT IT READS IS OF BULK AT MOST 1048576: true; the input reads as it did. -/
def classOnceUptoRow : OpenClaim := { program := "ytfpgmldgfgoboaa", sum := "5c25c3e9bd9813b3d55bad7e43254b21fd923315a3aa9ac5f03ef834461787df", func := "stickful/stickfullaw04.ClassOnce", spec := "classOnce", unfollowed := true, recurses := true, apart := false, narrowed := true }
def ClassOnceUptoSaid : Prop := classOnceUptoRow.holds Try.pinned (OpenSpec.upto classOnceSpec)

end Rows
end Go.Proofs.Ytfpgmldgfgoboaa

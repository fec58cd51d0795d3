/-
  NARROWER THAN 'FOR EVERY INPUT', by the rows' own cells (each row's printed sentence says how): UtfDecodes: laid · UtfEncodes: laid · UtfWhole: laid · UtfBehind: laid · UtfAgain: laid · UtfBytes: laid.
  DERIVED. THE GIVEN ROWS OF THIS SEAT. 6 by the template 'for every input the law returns true; each argument reads behind the call as it read before'; 0 by the template 'total and deterministic' (their statements: YtbafdijklcoeoaaDoorTotals.lean).
  GIVEN WITH THE SEED: the statements are not yours to turn. If you find one false, say at which input.
  Laid BY PROGRAM, IN A SANDBOX (cutbox-rows.mjs): the forced cells as the released guide's own fill.sh prints them over the translation b647105600d27cf0… (all of the seat's roots in one cut). By AI agents, Wed Nov 11 2026. No macro, syntax, notation, axiom, sorry.
-/
import Derived.Test.YtbafdijklcoeoaaDoorChecked
import GoSem.PinnedTables
import GoSem.Claim
import GoSem.ClaimJoined
import GoSem.ClaimMapViews
import Derived.JoinedTies
import Derived.KernelRfl
namespace Go.Proofs.YtbafdijklcoeoaaDoor
/- THE CELL 'sum', in the pinned program and in every row, IS THE sha256 OF THE DUMP (.gsa) THAT YtbafdijklcoeoaaDoorProg.lean LOADS. Nothing in Lean hashes anything: it is a label: what it is worth is what the hold of that sum in a sandbox is worth. -/
noncomputable def Tryd.pinned : Pinned := { name := "ytbafdijklcoeoaadoor", sum := "b647105600d27cf048fa9326f14593ed970cb578a109b4197873894d089f2a99", checked := Tryd.checked }
namespace Rows
def none {H : Type} : Left H := { results := [], args := [] }

/- WHAT THE LISTED PACKAGE-LEVEL VARIABLES READ AS WHEN THE CALL BEGINS. Each datum BY PROGRAM (the guide's laid-datum.mjs) off the statement by which the dump's own 'gosem.cut.vars' lays the variable. In a bare row this is a premise. The card (YtbafdijklcoeoaaDoorCards.lean) ties it to the program's text. -/
def laid_unicode_utf8_acceptRanges {H : Type} : DataW H := .agg [.agg [.lit (.int .u8 128), .lit (.int .u8 191)], .agg [.lit (.int .u8 160), .lit (.int .u8 191)], .agg [.lit (.int .u8 128), .lit (.int .u8 159)], .agg [.lit (.int .u8 144), .lit (.int .u8 191)], .agg [.lit (.int .u8 128), .lit (.int .u8 143)], .agg [.lit (.int .u8 0), .lit (.int .u8 0)], .agg [.lit (.int .u8 0), .lit (.int .u8 0)], .agg [.lit (.int .u8 0), .lit (.int .u8 0)], .agg [.lit (.int .u8 0), .lit (.int .u8 0)], .agg [.lit (.int .u8 0), .lit (.int .u8 0)], .agg [.lit (.int .u8 0), .lit (.int .u8 0)], .agg [.lit (.int .u8 0), .lit (.int .u8 0)], .agg [.lit (.int .u8 0), .lit (.int .u8 0)], .agg [.lit (.int .u8 0), .lit (.int .u8 0)], .agg [.lit (.int .u8 0), .lit (.int .u8 0)], .agg [.lit (.int .u8 0), .lit (.int .u8 0)]]
def laid_stickful_utf_seconds {H : Type} : DataW H := .agg [.agg [.lit (.int .u8 224), .lit (.int .u8 160), .lit (.int .u8 191)], .agg [.lit (.int .u8 237), .lit (.int .u8 128), .lit (.int .u8 159)], .agg [.lit (.int .u8 240), .lit (.int .u8 144), .lit (.int .u8 191)], .agg [.lit (.int .u8 244), .lit (.int .u8 128), .lit (.int .u8 143)]]
/-- One of Go's own tables, pinned by name: the form's constant. -/
def laid_unicode_utf8_first : DataW Unit := Go.Pinned.utf8First

/-- 'stickfullaw02.UtfDecodes': WHATEVER THE INPUT: true; the input reads as it did. -/
def utfDecodesSpec : ChangeSpec := { name := "utfDecodes", fn := fun _ => fun
  | [d] => { results := [.lit (.bool true)], args := [d] }
  | _ => none }
def utfDecodesRow : OpenClaim := { program := "ytbafdijklcoeoaadoor", sum := "b647105600d27cf048fa9326f14593ed970cb578a109b4197873894d089f2a99", func := "stickful/stickfullaw02.UtfDecodes", spec := "utfDecodes", inPlace := ["internal/abi.NoEscape"], unfollowed := true, recurses := true, named := ["unicode/utf8.first", "unicode/utf8.acceptRanges", "stickful/utf.seconds"], apart := false, laid := [("unicode/utf8.acceptRanges", laid_unicode_utf8_acceptRanges), ("stickful/utf.seconds", laid_stickful_utf_seconds), ("unicode/utf8.first", laid_unicode_utf8_first)] }
def UtfDecodesSaid : Prop := utfDecodesRow.holds Tryd.pinned (OpenSpec.ofChange utfDecodesSpec)

/-- ITS FALSE NEIGHBOUR: 'it returns false'. Refute it at one input. -/
def utfDecodesWrong : ChangeSpec := { name := "utfDecodes", fn := fun _ => fun
  | [d] => { results := [.lit (.bool false)], args := [d] }
  | _ => none }
def UtfDecodesWrongFalsely : Prop := utfDecodesRow.holds Tryd.pinned (OpenSpec.ofChange utfDecodesWrong)

/-- 'stickfullaw02.UtfEncodes': WHATEVER THE INPUT: true; the input reads as it did. -/
def utfEncodesSpec : ChangeSpec := { name := "utfEncodes", fn := fun _ => fun
  | [d] => { results := [.lit (.bool true)], args := [d] }
  | _ => none }
def utfEncodesRow : OpenClaim := { program := "ytbafdijklcoeoaadoor", sum := "b647105600d27cf048fa9326f14593ed970cb578a109b4197873894d089f2a99", func := "stickful/stickfullaw02.UtfEncodes", spec := "utfEncodes", inPlace := ["internal/abi.NoEscape"], unfollowed := true, recurses := true, named := ["unicode/utf8.first", "unicode/utf8.acceptRanges", "stickful/utf.seconds"], apart := false, laid := [("unicode/utf8.acceptRanges", laid_unicode_utf8_acceptRanges), ("stickful/utf.seconds", laid_stickful_utf_seconds), ("unicode/utf8.first", laid_unicode_utf8_first)] }
def UtfEncodesSaid : Prop := utfEncodesRow.holds Tryd.pinned (OpenSpec.ofChange utfEncodesSpec)

/-- ITS FALSE NEIGHBOUR: 'it returns false'. Refute it at one input. -/
def utfEncodesWrong : ChangeSpec := { name := "utfEncodes", fn := fun _ => fun
  | [d] => { results := [.lit (.bool false)], args := [d] }
  | _ => none }
def UtfEncodesWrongFalsely : Prop := utfEncodesRow.holds Tryd.pinned (OpenSpec.ofChange utfEncodesWrong)

/-- 'stickfullaw02.UtfWhole': WHATEVER THE INPUT: true; the input reads as it did. -/
def utfWholeSpec : ChangeSpec := { name := "utfWhole", fn := fun _ => fun
  | [d] => { results := [.lit (.bool true)], args := [d] }
  | _ => none }
def utfWholeRow : OpenClaim := { program := "ytbafdijklcoeoaadoor", sum := "b647105600d27cf048fa9326f14593ed970cb578a109b4197873894d089f2a99", func := "stickful/stickfullaw02.UtfWhole", spec := "utfWhole", inPlace := ["internal/abi.NoEscape"], unfollowed := true, recurses := true, named := ["unicode/utf8.first", "unicode/utf8.acceptRanges", "stickful/utf.seconds"], apart := false, laid := [("unicode/utf8.acceptRanges", laid_unicode_utf8_acceptRanges), ("stickful/utf.seconds", laid_stickful_utf_seconds), ("unicode/utf8.first", laid_unicode_utf8_first)] }
def UtfWholeSaid : Prop := utfWholeRow.holds Tryd.pinned (OpenSpec.ofChange utfWholeSpec)

/-- ITS FALSE NEIGHBOUR: 'it returns false'. Refute it at one input. -/
def utfWholeWrong : ChangeSpec := { name := "utfWhole", fn := fun _ => fun
  | [d] => { results := [.lit (.bool false)], args := [d] }
  | _ => none }
def UtfWholeWrongFalsely : Prop := utfWholeRow.holds Tryd.pinned (OpenSpec.ofChange utfWholeWrong)

/-- 'stickfullaw02.UtfBehind': WHATEVER THE INPUT: true; the input reads as it did. -/
def utfBehindSpec : ChangeSpec := { name := "utfBehind", fn := fun _ => fun
  | [d1, d2] => { results := [.lit (.bool true)], args := [d1, d2] }
  | _ => none }
def utfBehindRow : OpenClaim := { program := "ytbafdijklcoeoaadoor", sum := "b647105600d27cf048fa9326f14593ed970cb578a109b4197873894d089f2a99", func := "stickful/stickfullaw02.UtfBehind", spec := "utfBehind", inPlace := ["internal/abi.NoEscape"], unfollowed := true, recurses := true, named := ["unicode/utf8.first", "unicode/utf8.acceptRanges", "stickful/utf.seconds"], apart := false, laid := [("unicode/utf8.acceptRanges", laid_unicode_utf8_acceptRanges), ("stickful/utf.seconds", laid_stickful_utf_seconds), ("unicode/utf8.first", laid_unicode_utf8_first)] }
def UtfBehindSaid : Prop := utfBehindRow.holds Tryd.pinned (OpenSpec.ofChange utfBehindSpec)

/-- ITS FALSE NEIGHBOUR: 'it returns false'. Refute it at one input. -/
def utfBehindWrong : ChangeSpec := { name := "utfBehind", fn := fun _ => fun
  | [d1, d2] => { results := [.lit (.bool false)], args := [d1, d2] }
  | _ => none }
def UtfBehindWrongFalsely : Prop := utfBehindRow.holds Tryd.pinned (OpenSpec.ofChange utfBehindWrong)

/-- 'stickfullaw02.UtfAgain': WHATEVER THE INPUT: true; the input reads as it did. -/
def utfAgainSpec : ChangeSpec := { name := "utfAgain", fn := fun _ => fun
  | [d] => { results := [.lit (.bool true)], args := [d] }
  | _ => none }
def utfAgainRow : OpenClaim := { program := "ytbafdijklcoeoaadoor", sum := "b647105600d27cf048fa9326f14593ed970cb578a109b4197873894d089f2a99", func := "stickful/stickfullaw02.UtfAgain", spec := "utfAgain", inPlace := ["internal/abi.NoEscape"], unfollowed := true, recurses := true, named := ["unicode/utf8.first", "unicode/utf8.acceptRanges", "stickful/utf.seconds"], apart := false, laid := [("unicode/utf8.acceptRanges", laid_unicode_utf8_acceptRanges), ("stickful/utf.seconds", laid_stickful_utf_seconds), ("unicode/utf8.first", laid_unicode_utf8_first)] }
def UtfAgainSaid : Prop := utfAgainRow.holds Tryd.pinned (OpenSpec.ofChange utfAgainSpec)

/-- ITS FALSE NEIGHBOUR: 'it returns false'. Refute it at one input. -/
def utfAgainWrong : ChangeSpec := { name := "utfAgain", fn := fun _ => fun
  | [d] => { results := [.lit (.bool false)], args := [d] }
  | _ => none }
def UtfAgainWrongFalsely : Prop := utfAgainRow.holds Tryd.pinned (OpenSpec.ofChange utfAgainWrong)

/-- 'stickfullaw02.UtfBytes': WHATEVER THE INPUT: true; the input reads as it did. -/
def utfBytesSpec : ChangeSpec := { name := "utfBytes", fn := fun _ => fun
  | [d] => { results := [.lit (.bool true)], args := [d] }
  | _ => none }
def utfBytesRow : OpenClaim := { program := "ytbafdijklcoeoaadoor", sum := "b647105600d27cf048fa9326f14593ed970cb578a109b4197873894d089f2a99", func := "stickful/stickfullaw02.UtfBytes", spec := "utfBytes", inPlace := ["internal/abi.NoEscape"], unfollowed := true, recurses := true, named := ["unicode/utf8.first", "unicode/utf8.acceptRanges", "stickful/utf.seconds"], apart := false, laid := [("unicode/utf8.acceptRanges", laid_unicode_utf8_acceptRanges), ("stickful/utf.seconds", laid_stickful_utf_seconds), ("unicode/utf8.first", laid_unicode_utf8_first)] }
def UtfBytesSaid : Prop := utfBytesRow.holds Tryd.pinned (OpenSpec.ofChange utfBytesSpec)

/-- ITS FALSE NEIGHBOUR: 'it returns false'. Refute it at one input. -/
def utfBytesWrong : ChangeSpec := { name := "utfBytes", fn := fun _ => fun
  | [d] => { results := [.lit (.bool false)], args := [d] }
  | _ => none }
def UtfBytesWrongFalsely : Prop := utfBytesRow.holds Tryd.pinned (OpenSpec.ofChange utfBytesWrong)

/- THE SECOND FORM. 'bulk': how many values and letters a reading holds, each counted each time it is reached (what is shared counts as often as it is met; a slice's spare places count too). A statement '..UptoSaid' is the law's where the arguments, and the package variables that the reading takes, are together of bulk at most 1048576: NARROWER than '..Said'. Prove '..Said' where nothing that the law and all that it calls make is longer than what came in: it says more and counts as full. Else prove '..UptoSaid'. A law counts once. -/
mutual
def uptoBulk {H : Type} : DataW H → Nat
  | .lit (.string bytes) => bytes.length + 1
  | .lit _ => 1
  | .nil => 1
  | .ptr d => uptoBulk d + 1
  | .slice elems spare => uptoBulkAll elems + uptoBulkAll spare + 1
  | .agg parts => uptoBulkAll parts + 1
  | .iface _ d => uptoBulk d + 1
  | .map entries => uptoBulkEntries entries + 1
  | .held _ => 1
def uptoBulkAll {H : Type} : List (DataW H) → Nat
  | [] => 0
  | d :: r => uptoBulk d + uptoBulkAll r
def uptoBulkEntries {H : Type} : List (Lit × DataW H) → Nat
  | [] => 0
  | x :: r => uptoBulkEntry x + uptoBulkEntries r
def uptoBulkEntry {H : Type} : Lit × DataW H → Nat
  | (.string bytes, d) => bytes.length + uptoBulk d + 1
  | (_, d) => uptoBulk d + 1
 end
def uptoSmall : (H : Type) → List (DataW H) → Bool := fun _ ds => decide (uptoBulkAll ds ≤ 1048576)
def OpenSpec.upto (s : _root_.Go.ChangeSpec) : _root_.Go.OpenSpec := { _root_.Go.OpenSpec.ofChange s with cond := some uptoSmall }

/-- 'stickfullaw02.UtfDecodes', WHERE WHAT IT READS IS OF BULK AT MOST 1048576: true; the input reads as it did. -/
def utfDecodesUptoRow : OpenClaim := { program := "ytbafdijklcoeoaadoor", sum := "b647105600d27cf048fa9326f14593ed970cb578a109b4197873894d089f2a99", func := "stickful/stickfullaw02.UtfDecodes", spec := "utfDecodes", inPlace := ["internal/abi.NoEscape"], unfollowed := true, recurses := true, named := ["unicode/utf8.first", "unicode/utf8.acceptRanges", "stickful/utf.seconds"], apart := false, laid := [("unicode/utf8.acceptRanges", laid_unicode_utf8_acceptRanges), ("stickful/utf.seconds", laid_stickful_utf_seconds), ("unicode/utf8.first", laid_unicode_utf8_first)], narrowed := true }
def UtfDecodesUptoSaid : Prop := utfDecodesUptoRow.holds Tryd.pinned (OpenSpec.upto utfDecodesSpec)

/-- 'stickfullaw02.UtfEncodes', WHERE WHAT IT READS IS OF BULK AT MOST 1048576: true; the input reads as it did. -/
def utfEncodesUptoRow : OpenClaim := { program := "ytbafdijklcoeoaadoor", sum := "b647105600d27cf048fa9326f14593ed970cb578a109b4197873894d089f2a99", func := "stickful/stickfullaw02.UtfEncodes", spec := "utfEncodes", inPlace := ["internal/abi.NoEscape"], unfollowed := true, recurses := true, named := ["unicode/utf8.first", "unicode/utf8.acceptRanges", "stickful/utf.seconds"], apart := false, laid := [("unicode/utf8.acceptRanges", laid_unicode_utf8_acceptRanges), ("stickful/utf.seconds", laid_stickful_utf_seconds), ("unicode/utf8.first", laid_unicode_utf8_first)], narrowed := true }
def UtfEncodesUptoSaid : Prop := utfEncodesUptoRow.holds Tryd.pinned (OpenSpec.upto utfEncodesSpec)

/-- 'stickfullaw02.UtfWhole', WHERE WHAT IT READS IS OF BULK AT MOST 1048576: true; the input reads as it did. -/
def utfWholeUptoRow : OpenClaim := { program := "ytbafdijklcoeoaadoor", sum := "b647105600d27cf048fa9326f14593ed970cb578a109b4197873894d089f2a99", func := "stickful/stickfullaw02.UtfWhole", spec := "utfWhole", inPlace := ["internal/abi.NoEscape"], unfollowed := true, recurses := true, named := ["unicode/utf8.first", "unicode/utf8.acceptRanges", "stickful/utf.seconds"], apart := false, laid := [("unicode/utf8.acceptRanges", laid_unicode_utf8_acceptRanges), ("stickful/utf.seconds", laid_stickful_utf_seconds), ("unicode/utf8.first", laid_unicode_utf8_first)], narrowed := true }
def UtfWholeUptoSaid : Prop := utfWholeUptoRow.holds Tryd.pinned (OpenSpec.upto utfWholeSpec)

/-- 'stickfullaw02.UtfBehind', WHERE WHAT IT READS IS OF BULK AT MOST 1048576: true; the input reads as it did. -/
def utfBehindUptoRow : OpenClaim := { program := "ytbafdijklcoeoaadoor", sum := "b647105600d27cf048fa9326f14593ed970cb578a109b4197873894d089f2a99", func := "stickful/stickfullaw02.UtfBehind", spec := "utfBehind", inPlace := ["internal/abi.NoEscape"], unfollowed := true, recurses := true, named := ["unicode/utf8.first", "unicode/utf8.acceptRanges", "stickful/utf.seconds"], apart := false, laid := [("unicode/utf8.acceptRanges", laid_unicode_utf8_acceptRanges), ("stickful/utf.seconds", laid_stickful_utf_seconds), ("unicode/utf8.first", laid_unicode_utf8_first)], narrowed := true }
def UtfBehindUptoSaid : Prop := utfBehindUptoRow.holds Tryd.pinned (OpenSpec.upto utfBehindSpec)

/-- 'stickfullaw02.UtfAgain', WHERE WHAT IT READS IS OF BULK AT MOST 1048576: true; the input reads as it did. -/
def utfAgainUptoRow : OpenClaim := { program := "ytbafdijklcoeoaadoor", sum := "b647105600d27cf048fa9326f14593ed970cb578a109b4197873894d089f2a99", func := "stickful/stickfullaw02.UtfAgain", spec := "utfAgain", inPlace := ["internal/abi.NoEscape"], unfollowed := true, recurses := true, named := ["unicode/utf8.first", "unicode/utf8.acceptRanges", "stickful/utf.seconds"], apart := false, laid := [("unicode/utf8.acceptRanges", laid_unicode_utf8_acceptRanges), ("stickful/utf.seconds", laid_stickful_utf_seconds), ("unicode/utf8.first", laid_unicode_utf8_first)], narrowed := true }
def UtfAgainUptoSaid : Prop := utfAgainUptoRow.holds Tryd.pinned (OpenSpec.upto utfAgainSpec)

/-- 'stickfullaw02.UtfBytes', WHERE WHAT IT READS IS OF BULK AT MOST 1048576: true; the input reads as it did. -/
def utfBytesUptoRow : OpenClaim := { program := "ytbafdijklcoeoaadoor", sum := "b647105600d27cf048fa9326f14593ed970cb578a109b4197873894d089f2a99", func := "stickful/stickfullaw02.UtfBytes", spec := "utfBytes", inPlace := ["internal/abi.NoEscape"], unfollowed := true, recurses := true, named := ["unicode/utf8.first", "unicode/utf8.acceptRanges", "stickful/utf.seconds"], apart := false, laid := [("unicode/utf8.acceptRanges", laid_unicode_utf8_acceptRanges), ("stickful/utf.seconds", laid_stickful_utf_seconds), ("unicode/utf8.first", laid_unicode_utf8_first)], narrowed := true }
def UtfBytesUptoSaid : Prop := utfBytesUptoRow.holds Tryd.pinned (OpenSpec.upto utfBytesSpec)

end Rows
end Go.Proofs.YtbafdijklcoeoaaDoor

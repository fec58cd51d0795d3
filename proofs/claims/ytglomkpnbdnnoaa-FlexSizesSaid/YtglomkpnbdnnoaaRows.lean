/-
  No cell of these rows narrows 'for every input' (looked for: loops, veiled, ifaces, maps, wideKeys, modest, calm, conditions, laid).
  DERIVED. THE GIVEN ROWS OF THIS SEAT. 6 by the template 'for every input the law returns true; each argument reads behind the call as it read before'; 0 by the template 'total and deterministic' (their statements: YtglomkpnbdnnoaaTotals.lean).
  GIVEN WITH THE SEED: the statements are not yours to turn. If you find one false, say at which input.
  Laid BY PROGRAM, IN A SANDBOX (cutbox-rows.mjs): the forced cells as the released guide's own fill.sh prints them over the translation 368521bf6039a5ec… (all of the seat's roots in one cut). By AI agents, Wed Nov 11 2026. No macro, syntax, notation, axiom, sorry.
-/
import Derived.Test.YtglomkpnbdnnoaaChecked
import GoSem.Claim
import GoSem.ClaimJoined
import GoSem.ClaimMapViews
import Derived.JoinedTies
import Derived.KernelRfl
namespace Go.Proofs.Ytglomkpnbdnnoaa
/- THE CELL 'sum', in the pinned program and in every row, IS THE sha256 OF THE DUMP (.gsa) THAT YtglomkpnbdnnoaaProg.lean LOADS. Nothing in Lean hashes anything: it is a label: what it is worth is what the hold of that sum in a sandbox is worth. -/
noncomputable def Try.pinned : Pinned := { name := "ytglomkpnbdnnoaa", sum := "368521bf6039a5ec46e46fd229a091d447d6fda9f93fc785edbeb33611cf4d40", checked := Try.checked }
namespace Rows
def none {H : Type} : Left H := { results := [], args := [] }

/-- 'stickfullaw23.FlexSizes': WHATEVER THE INPUT: true; the input reads as it did. -/
def flexSizesSpec : ChangeSpec := { name := "flexSizes", fn := fun _ => fun
  | [d1, d2] => { results := [.lit (.bool true)], args := [d1, d2] }
  | _ => none }
def flexSizesRow : OpenClaim := { program := "ytglomkpnbdnnoaa", sum := "368521bf6039a5ec46e46fd229a091d447d6fda9f93fc785edbeb33611cf4d40", func := "stickful/stickfullaw23.FlexSizes", spec := "flexSizes", unfollowed := true, recurses := true, named := ["math/bits.divideError", "math/bits.overflowError"], apart := false }
def FlexSizesSaid : Prop := flexSizesRow.holds Try.pinned (OpenSpec.ofChange flexSizesSpec)

/-- ITS FALSE NEIGHBOUR: 'it returns false'. Refute it at one input. -/
def flexSizesWrong : ChangeSpec := { name := "flexSizes", fn := fun _ => fun
  | [d1, d2] => { results := [.lit (.bool false)], args := [d1, d2] }
  | _ => none }
def FlexSizesWrongFalsely : Prop := flexSizesRow.holds Try.pinned (OpenSpec.ofChange flexSizesWrong)

/-- 'stickfullaw23.FlexShares': WHATEVER THE INPUT: true; the input reads as it did. -/
def flexSharesSpec : ChangeSpec := { name := "flexShares", fn := fun _ => fun
  | [d1, d2] => { results := [.lit (.bool true)], args := [d1, d2] }
  | _ => none }
def flexSharesRow : OpenClaim := { program := "ytglomkpnbdnnoaa", sum := "368521bf6039a5ec46e46fd229a091d447d6fda9f93fc785edbeb33611cf4d40", func := "stickful/stickfullaw23.FlexShares", spec := "flexShares", unfollowed := true, recurses := true, named := ["math/bits.divideError", "math/bits.overflowError"], apart := false }
def FlexSharesSaid : Prop := flexSharesRow.holds Try.pinned (OpenSpec.ofChange flexSharesSpec)

/-- ITS FALSE NEIGHBOUR: 'it returns false'. Refute it at one input. -/
def flexSharesWrong : ChangeSpec := { name := "flexShares", fn := fun _ => fun
  | [d1, d2] => { results := [.lit (.bool false)], args := [d1, d2] }
  | _ => none }
def FlexSharesWrongFalsely : Prop := flexSharesRow.holds Try.pinned (OpenSpec.ofChange flexSharesWrong)

/-- 'stickfullaw23.FlexRoom': WHATEVER THE INPUT: true; the input reads as it did. -/
def flexRoomSpec : ChangeSpec := { name := "flexRoom", fn := fun _ => fun
  | [d1, d2] => { results := [.lit (.bool true)], args := [d1, d2] }
  | _ => none }
def flexRoomRow : OpenClaim := { program := "ytglomkpnbdnnoaa", sum := "368521bf6039a5ec46e46fd229a091d447d6fda9f93fc785edbeb33611cf4d40", func := "stickful/stickfullaw23.FlexRoom", spec := "flexRoom", unfollowed := true, recurses := true, named := ["math/bits.divideError", "math/bits.overflowError"], apart := false }
def FlexRoomSaid : Prop := flexRoomRow.holds Try.pinned (OpenSpec.ofChange flexRoomSpec)

/-- ITS FALSE NEIGHBOUR: 'it returns false'. Refute it at one input. -/
def flexRoomWrong : ChangeSpec := { name := "flexRoom", fn := fun _ => fun
  | [d1, d2] => { results := [.lit (.bool false)], args := [d1, d2] }
  | _ => none }
def FlexRoomWrongFalsely : Prop := flexRoomRow.holds Try.pinned (OpenSpec.ofChange flexRoomWrong)

/-- 'stickfullaw23.FlexLines': WHATEVER THE INPUT: true; the input reads as it did. -/
def flexLinesSpec : ChangeSpec := { name := "flexLines", fn := fun _ => fun
  | [d] => { results := [.lit (.bool true)], args := [d] }
  | _ => none }
def flexLinesRow : OpenClaim := { program := "ytglomkpnbdnnoaa", sum := "368521bf6039a5ec46e46fd229a091d447d6fda9f93fc785edbeb33611cf4d40", func := "stickful/stickfullaw23.FlexLines", spec := "flexLines", unfollowed := true, recurses := true, named := ["math/bits.divideError", "math/bits.overflowError"], apart := false }
def FlexLinesSaid : Prop := flexLinesRow.holds Try.pinned (OpenSpec.ofChange flexLinesSpec)

/-- ITS FALSE NEIGHBOUR: 'it returns false'. Refute it at one input. -/
def flexLinesWrong : ChangeSpec := { name := "flexLines", fn := fun _ => fun
  | [d] => { results := [.lit (.bool false)], args := [d] }
  | _ => none }
def FlexLinesWrongFalsely : Prop := flexLinesRow.holds Try.pinned (OpenSpec.ofChange flexLinesWrong)

/-- 'stickfullaw23.FlexEven': WHATEVER THE INPUT: true; the input reads as it did. -/
def flexEvenSpec : ChangeSpec := { name := "flexEven", fn := fun _ => fun
  | [d1, d2, d3] => { results := [.lit (.bool true)], args := [d1, d2, d3] }
  | _ => none }
def flexEvenRow : OpenClaim := { program := "ytglomkpnbdnnoaa", sum := "368521bf6039a5ec46e46fd229a091d447d6fda9f93fc785edbeb33611cf4d40", func := "stickful/stickfullaw23.FlexEven", spec := "flexEven", unfollowed := true, recurses := true, named := ["math/bits.divideError", "math/bits.overflowError"], apart := false }
def FlexEvenSaid : Prop := flexEvenRow.holds Try.pinned (OpenSpec.ofChange flexEvenSpec)

/-- ITS FALSE NEIGHBOUR: 'it returns false'. Refute it at one input. -/
def flexEvenWrong : ChangeSpec := { name := "flexEven", fn := fun _ => fun
  | [d1, d2, d3] => { results := [.lit (.bool false)], args := [d1, d2, d3] }
  | _ => none }
def FlexEvenWrongFalsely : Prop := flexEvenRow.holds Try.pinned (OpenSpec.ofChange flexEvenWrong)

/-- 'stickfullaw23.FlexExact': WHATEVER THE INPUT: true; the input reads as it did. -/
def flexExactSpec : ChangeSpec := { name := "flexExact", fn := fun _ => fun
  | [d1, d2, d3] => { results := [.lit (.bool true)], args := [d1, d2, d3] }
  | _ => none }
def flexExactRow : OpenClaim := { program := "ytglomkpnbdnnoaa", sum := "368521bf6039a5ec46e46fd229a091d447d6fda9f93fc785edbeb33611cf4d40", func := "stickful/stickfullaw23.FlexExact", spec := "flexExact", unfollowed := true, recurses := true, named := ["math/bits.divideError", "math/bits.overflowError"], apart := false }
def FlexExactSaid : Prop := flexExactRow.holds Try.pinned (OpenSpec.ofChange flexExactSpec)

/-- ITS FALSE NEIGHBOUR: 'it returns false'. Refute it at one input. -/
def flexExactWrong : ChangeSpec := { name := "flexExact", fn := fun _ => fun
  | [d1, d2, d3] => { results := [.lit (.bool false)], args := [d1, d2, d3] }
  | _ => none }
def FlexExactWrongFalsely : Prop := flexExactRow.holds Try.pinned (OpenSpec.ofChange flexExactWrong)

/- THE SECOND FORM. 'bulk': how many values and letters a reading holds, each counted each time it is reached (what is shared counts as often as it is met; a slice's spare places count too). A statement '..UptoSaid' is the law's where the arguments, and the package variables that the reading takes, are together of bulk at most 1048576: NARROWER than '..Said'. Prove '..Said' where nothing that the law and all that it calls make is longer than what came in: it says more and counts as full. Else prove '..UptoSaid'. A law counts once. -/
mutual
def uptoBulk {H : Type} : DataW H → Nat
  | .lit (.string bytes) => bytes.length + 1
  | .lit _ => 1
  | .nil => 1
  | .ptr d => uptoBulk d + 1
  | .slice elems spare => uptoBulkAll elems + uptoBulkAll spare + 1
  | .agg parts => uptoBulkAll parts + 1
  | .iface _ d => uptoBulk d + 1
  | .map entries => uptoBulkEntries entries + 1
  | .held _ => 1
def uptoBulkAll {H : Type} : List (DataW H) → Nat
  | [] => 0
  | d :: r => uptoBulk d + uptoBulkAll r
def uptoBulkEntries {H : Type} : List (Lit × DataW H) → Nat
  | [] => 0
  | x :: r => uptoBulkEntry x + uptoBulkEntries r
def uptoBulkEntry {H : Type} : Lit × DataW H → Nat
  | (.string bytes, d) => bytes.length + uptoBulk d + 1
  | (_, d) => uptoBulk d + 1
 end
def uptoSmall : (H : Type) → List (DataW H) → Bool := fun _ ds => decide (uptoBulkAll ds ≤ 1048576)
def OpenSpec.upto (s : _root_.Go.ChangeSpec) : _root_.Go.OpenSpec := { _root_.Go.OpenSpec.ofChange s with cond := some uptoSmall }

/-- 'stickfullaw23.FlexSizes', WHERE WHAT IT READS IS OF BULK AT MOST 1048576: true; the input reads as it did. -/
def flexSizesUptoRow : OpenClaim := { program := "ytglomkpnbdnnoaa", sum := "368521bf6039a5ec46e46fd229a091d447d6fda9f93fc785edbeb33611cf4d40", func := "stickful/stickfullaw23.FlexSizes", spec := "flexSizes", unfollowed := true, recurses := true, named := ["math/bits.divideError", "math/bits.overflowError"], apart := false, narrowed := true }
def FlexSizesUptoSaid : Prop := flexSizesUptoRow.holds Try.pinned (OpenSpec.upto flexSizesSpec)

/-- 'stickfullaw23.FlexShares', WHERE WHAT IT READS IS OF BULK AT MOST 1048576: true; the input reads as it did. -/
def flexSharesUptoRow : OpenClaim := { program := "ytglomkpnbdnnoaa", sum := "368521bf6039a5ec46e46fd229a091d447d6fda9f93fc785edbeb33611cf4d40", func := "stickful/stickfullaw23.FlexShares", spec := "flexShares", unfollowed := true, recurses := true, named := ["math/bits.divideError", "math/bits.overflowError"], apart := false, narrowed := true }
def FlexSharesUptoSaid : Prop := flexSharesUptoRow.holds Try.pinned (OpenSpec.upto flexSharesSpec)

/-- 'stickfullaw23.FlexRoom', WHERE WHAT IT READS IS OF BULK AT MOST 1048576: true; the input reads as it did. -/
def flexRoomUptoRow : OpenClaim := { program := "ytglomkpnbdnnoaa", sum := "368521bf6039a5ec46e46fd229a091d447d6fda9f93fc785edbeb33611cf4d40", func := "stickful/stickfullaw23.FlexRoom", spec := "flexRoom", unfollowed := true, recurses := true, named := ["math/bits.divideError", "math/bits.overflowError"], apart := false, narrowed := true }
def FlexRoomUptoSaid : Prop := flexRoomUptoRow.holds Try.pinned (OpenSpec.upto flexRoomSpec)

/-- 'stickfullaw23.FlexLines', WHERE WHAT IT READS IS OF BULK AT MOST 1048576: true; the input reads as it did. -/
def flexLinesUptoRow : OpenClaim := { program := "ytglomkpnbdnnoaa", sum := "368521bf6039a5ec46e46fd229a091d447d6fda9f93fc785edbeb33611cf4d40", func := "stickful/stickfullaw23.FlexLines", spec := "flexLines", unfollowed := true, recurses := true, named := ["math/bits.divideError", "math/bits.overflowError"], apart := false, narrowed := true }
def FlexLinesUptoSaid : Prop := flexLinesUptoRow.holds Try.pinned (OpenSpec.upto flexLinesSpec)

/-- 'stickfullaw23.FlexEven', WHERE WHAT IT READS IS OF BULK AT MOST 1048576: true; the input reads as it did. -/
def flexEvenUptoRow : OpenClaim := { program := "ytglomkpnbdnnoaa", sum := "368521bf6039a5ec46e46fd229a091d447d6fda9f93fc785edbeb33611cf4d40", func := "stickful/stickfullaw23.FlexEven", spec := "flexEven", unfollowed := true, recurses := true, named := ["math/bits.divideError", "math/bits.overflowError"], apart := false, narrowed := true }
def FlexEvenUptoSaid : Prop := flexEvenUptoRow.holds Try.pinned (OpenSpec.upto flexEvenSpec)

/-- 'stickfullaw23.FlexExact', WHERE WHAT IT READS IS OF BULK AT MOST 1048576: true; the input reads as it did. -/
def flexExactUptoRow : OpenClaim := { program := "ytglomkpnbdnnoaa", sum := "368521bf6039a5ec46e46fd229a091d447d6fda9f93fc785edbeb33611cf4d40", func := "stickful/stickfullaw23.FlexExact", spec := "flexExact", unfollowed := true, recurses := true, named := ["math/bits.divideError", "math/bits.overflowError"], apart := false, narrowed := true }
def FlexExactUptoSaid : Prop := flexExactUptoRow.holds Try.pinned (OpenSpec.upto flexExactSpec)

end Rows
end Go.Proofs.Ytglomkpnbdnnoaa

/-
  No cell of these rows narrows 'for every input' (looked for: loops, veiled, ifaces, maps, wideKeys, modest, calm, conditions, laid).
  DERIVED. THE GIVEN ROWS OF THIS SEAT. 4 by the template 'for every input the law returns true; each argument reads behind the call as it read before'; 0 by the template 'total and deterministic' (their statements: YtfhjlimdakphcaaGreatTotals.lean).
  GIVEN WITH THE SEED: the statements are not yours to turn. If you find one false, say at which input.
  Laid BY PROGRAM, IN A SANDBOX (cutbox-rows.mjs): the forced cells as the released guide's own fill.sh prints them over the translation e7f101f4e99ac66d… (all of the seat's roots in one cut). By AI agents, Wed Nov 11 2026. No macro, syntax, notation, axiom, sorry.
-/
import Derived.Test.YtfhjlimdakphcaaGreatChecked
import GoSem.Claim
import GoSem.ClaimJoined
import GoSem.ClaimMapViews
import Derived.JoinedTies
import Derived.KernelRfl
namespace Go.Proofs.YtfhjlimdakphcaaGreat
/- THE CELL 'sum', in the pinned program and in every row, IS THE sha256 OF THE DUMP (.gsa) THAT YtfhjlimdakphcaaGreatProg.lean LOADS. Nothing in Lean hashes anything: it is a label: what it is worth is what the hold of that sum in a sandbox is worth. -/
noncomputable def Tryz.pinned : Pinned := { name := "ytfhjlimdakphcaagreat", sum := "e7f101f4e99ac66dde2eb08d34d5a6e791780f3aa3daf0084a2184ca72ca9716", checked := Tryz.checked }
namespace Rows
def none {H : Type} : Left H := { results := [], args := [] }

/-- 'sallyportlaw12.WrapPackets': WHATEVER THE INPUT: true; the input reads as it did. -/
def wrapPacketsSpec : ChangeSpec := { name := "wrapPackets", fn := fun _ => fun
  | [d1, d2, d3] => { results := [.lit (.bool true)], args := [d1, d2, d3] }
  | _ => none }
def wrapPacketsRow : OpenClaim := { program := "ytfhjlimdakphcaagreat", sum := "e7f101f4e99ac66dde2eb08d34d5a6e791780f3aa3daf0084a2184ca72ca9716", func := "sallyport/sallyportlaw12.WrapPackets", spec := "wrapPackets", unfollowed := true, recurses := true, apart := false }
def WrapPacketsSaid : Prop := wrapPacketsRow.holds Tryz.pinned (OpenSpec.ofChange wrapPacketsSpec)

/-- ITS FALSE NEIGHBOUR: 'it returns false'. Refute it at one input. -/
def wrapPacketsWrong : ChangeSpec := { name := "wrapPackets", fn := fun _ => fun
  | [d1, d2, d3] => { results := [.lit (.bool false)], args := [d1, d2, d3] }
  | _ => none }
def WrapPacketsWrongFalsely : Prop := wrapPacketsRow.holds Tryz.pinned (OpenSpec.ofChange wrapPacketsWrong)

/-- 'sallyportlaw12.WrapStacks': WHATEVER THE INPUT: true; the input reads as it did. -/
def wrapStacksSpec : ChangeSpec := { name := "wrapStacks", fn := fun _ => fun
  | [d1, d2] => { results := [.lit (.bool true)], args := [d1, d2] }
  | _ => none }
def wrapStacksRow : OpenClaim := { program := "ytfhjlimdakphcaagreat", sum := "e7f101f4e99ac66dde2eb08d34d5a6e791780f3aa3daf0084a2184ca72ca9716", func := "sallyport/sallyportlaw12.WrapStacks", spec := "wrapStacks", unfollowed := true, recurses := true, apart := false }
def WrapStacksSaid : Prop := wrapStacksRow.holds Tryz.pinned (OpenSpec.ofChange wrapStacksSpec)

/-- ITS FALSE NEIGHBOUR: 'it returns false'. Refute it at one input. -/
def wrapStacksWrong : ChangeSpec := { name := "wrapStacks", fn := fun _ => fun
  | [d1, d2] => { results := [.lit (.bool false)], args := [d1, d2] }
  | _ => none }
def WrapStacksWrongFalsely : Prop := wrapStacksRow.holds Tryz.pinned (OpenSpec.ofChange wrapStacksWrong)

/-- 'sallyportlaw12.WrapNames': WHATEVER THE INPUT: true; the input reads as it did. -/
def wrapNamesSpec : ChangeSpec := { name := "wrapNames", fn := fun _ => fun
  | [] => { results := [.lit (.bool true)], args := [] }
  | _ => none }
def wrapNamesRow : OpenClaim := { program := "ytfhjlimdakphcaagreat", sum := "e7f101f4e99ac66dde2eb08d34d5a6e791780f3aa3daf0084a2184ca72ca9716", func := "sallyport/sallyportlaw12.WrapNames", spec := "wrapNames", unfollowed := true, recurses := true, apart := false }
def WrapNamesSaid : Prop := wrapNamesRow.holds Tryz.pinned (OpenSpec.ofChange wrapNamesSpec)

/-- ITS FALSE NEIGHBOUR: 'it returns false'. Refute it at one input. -/
def wrapNamesWrong : ChangeSpec := { name := "wrapNames", fn := fun _ => fun
  | [] => { results := [.lit (.bool false)], args := [] }
  | _ => none }
def WrapNamesWrongFalsely : Prop := wrapNamesRow.holds Tryz.pinned (OpenSpec.ofChange wrapNamesWrong)

/-- 'sallyportlaw12.WrapPeels': WHATEVER THE INPUT: true; the input reads as it did. -/
def wrapPeelsSpec : ChangeSpec := { name := "wrapPeels", fn := fun _ => fun
  | [d1, d2] => { results := [.lit (.bool true)], args := [d1, d2] }
  | _ => none }
def wrapPeelsRow : OpenClaim := { program := "ytfhjlimdakphcaagreat", sum := "e7f101f4e99ac66dde2eb08d34d5a6e791780f3aa3daf0084a2184ca72ca9716", func := "sallyport/sallyportlaw12.WrapPeels", spec := "wrapPeels", unfollowed := true, recurses := true, apart := false }
def WrapPeelsSaid : Prop := wrapPeelsRow.holds Tryz.pinned (OpenSpec.ofChange wrapPeelsSpec)

/-- ITS FALSE NEIGHBOUR: 'it returns false'. Refute it at one input. -/
def wrapPeelsWrong : ChangeSpec := { name := "wrapPeels", fn := fun _ => fun
  | [d1, d2] => { results := [.lit (.bool false)], args := [d1, d2] }
  | _ => none }
def WrapPeelsWrongFalsely : Prop := wrapPeelsRow.holds Tryz.pinned (OpenSpec.ofChange wrapPeelsWrong)

/- THE SECOND FORM. 'bulk': how many values and letters a reading holds, each counted each time it is reached (what is shared counts as often as it is met; a slice's spare places count too). A statement '..UptoSaid' is the law's where the arguments, and the package variables that the reading takes, are together of bulk at most 1048576: NARROWER than '..Said'. Prove '..Said' where nothing that the law and all that it calls make is longer than what came in: it says more and counts as full. Else prove '..UptoSaid'. A law counts once. -/
mutual
def uptoBulk {H : Type} : DataW H → Nat
  | .lit (.string bytes) => bytes.length + 1
  | .lit _ => 1
  | .nil => 1
  | .ptr d => uptoBulk d + 1
  | .slice elems spare => uptoBulkAll elems + uptoBulkAll spare + 1
  | .agg parts => uptoBulkAll parts + 1
  | .iface _ d => uptoBulk d + 1
  | .map entries => uptoBulkEntries entries + 1
  | .held _ => 1
def uptoBulkAll {H : Type} : List (DataW H) → Nat
  | [] => 0
  | d :: r => uptoBulk d + uptoBulkAll r
def uptoBulkEntries {H : Type} : List (Lit × DataW H) → Nat
  | [] => 0
  | x :: r => uptoBulkEntry x + uptoBulkEntries r
def uptoBulkEntry {H : Type} : Lit × DataW H → Nat
  | (.string bytes, d) => bytes.length + uptoBulk d + 1
  | (_, d) => uptoBulk d + 1
 end
def uptoSmall : (H : Type) → List (DataW H) → Bool := fun _ ds => decide (uptoBulkAll ds ≤ 1048576)
def OpenSpec.upto (s : _root_.Go.ChangeSpec) : _root_.Go.OpenSpec := { _root_.Go.OpenSpec.ofChange s with cond := some uptoSmall }

/-- 'sallyportlaw12.WrapPackets', WHERE WHAT IT READS IS OF BULK AT MOST 1048576: true; the input reads as it did. -/
def wrapPacketsUptoRow : OpenClaim := { program := "ytfhjlimdakphcaagreat", sum := "e7f101f4e99ac66dde2eb08d34d5a6e791780f3aa3daf0084a2184ca72ca9716", func := "sallyport/sallyportlaw12.WrapPackets", spec := "wrapPackets", unfollowed := true, recurses := true, apart := false, narrowed := true }
def WrapPacketsUptoSaid : Prop := wrapPacketsUptoRow.holds Tryz.pinned (OpenSpec.upto wrapPacketsSpec)

/-- 'sallyportlaw12.WrapStacks', WHERE WHAT IT READS IS OF BULK AT MOST 1048576: true; the input reads as it did. -/
def wrapStacksUptoRow : OpenClaim := { program := "ytfhjlimdakphcaagreat", sum := "e7f101f4e99ac66dde2eb08d34d5a6e791780f3aa3daf0084a2184ca72ca9716", func := "sallyport/sallyportlaw12.WrapStacks", spec := "wrapStacks", unfollowed := true, recurses := true, apart := false, narrowed := true }
def WrapStacksUptoSaid : Prop := wrapStacksUptoRow.holds Tryz.pinned (OpenSpec.upto wrapStacksSpec)

/-- 'sallyportlaw12.WrapNames', WHERE WHAT IT READS IS OF BULK AT MOST 1048576: true; the input reads as it did. -/
def wrapNamesUptoRow : OpenClaim := { program := "ytfhjlimdakphcaagreat", sum := "e7f101f4e99ac66dde2eb08d34d5a6e791780f3aa3daf0084a2184ca72ca9716", func := "sallyport/sallyportlaw12.WrapNames", spec := "wrapNames", unfollowed := true, recurses := true, apart := false, narrowed := true }
def WrapNamesUptoSaid : Prop := wrapNamesUptoRow.holds Tryz.pinned (OpenSpec.upto wrapNamesSpec)

/-- 'sallyportlaw12.WrapPeels', WHERE WHAT IT READS IS OF BULK AT MOST 1048576: true; the input reads as it did. -/
def wrapPeelsUptoRow : OpenClaim := { program := "ytfhjlimdakphcaagreat", sum := "e7f101f4e99ac66dde2eb08d34d5a6e791780f3aa3daf0084a2184ca72ca9716", func := "sallyport/sallyportlaw12.WrapPeels", spec := "wrapPeels", unfollowed := true, recurses := true, apart := false, narrowed := true }
def WrapPeelsUptoSaid : Prop := wrapPeelsUptoRow.holds Tryz.pinned (OpenSpec.upto wrapPeelsSpec)

end Rows
end Go.Proofs.YtfhjlimdakphcaaGreat

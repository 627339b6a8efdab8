/-
  No cell of these rows narrows 'for every input' (looked for: loops, veiled, ifaces, maps, wideKeys, modest, calm, conditions, laid).
  DERIVED. THE GIVEN ROWS OF THIS SEAT. 7 by the template 'for every input the law returns true; each argument reads behind the call as it read before'; 0 by the template 'total and deterministic' (their statements: YtbiodlomlendkaaTotals.lean).
  GIVEN WITH THE SEED: the statements are not yours to turn. If you find one false, say at which input.
  Laid BY PROGRAM, IN A SANDBOX (cutbox-rows.mjs): the forced cells as the released guide's own fill.sh prints them over the translation a690d2f2f095b4ff… (all of the seat's roots in one cut). By AI agents, Wed Nov 11 2026. No macro, syntax, notation, axiom, sorry.
-/
import Derived.Test.YtbiodlomlendkaaChecked
import GoSem.Claim
import GoSem.ClaimJoined
import GoSem.ClaimMapViews
import Derived.JoinedTies
import Derived.KernelRfl
namespace Go.Proofs.Ytbiodlomlendkaa
/- THE CELL 'sum', in the pinned program and in every row, IS THE sha256 OF THE DUMP (.gsa) THAT YtbiodlomlendkaaProg.lean LOADS. Nothing in Lean hashes anything: it is a label: what it is worth is what the hold of that sum in a sandbox is worth. -/
noncomputable def Try.pinned : Pinned := { name := "ytbiodlomlendkaa", sum := "a690d2f2f095b4ff2a4e28783c2833a1e534e835fbb345cd330155812dee194e", checked := Try.checked }
namespace Rows
def none {H : Type} : Left H := { results := [], args := [] }

/-- 'sallyportlaw11.PeelPeels': WHATEVER THE INPUT: true; the input reads as it did. -/
def peelPeelsSpec : ChangeSpec := { name := "peelPeels", fn := fun _ => fun
  | [d] => { results := [.lit (.bool true)], args := [d] }
  | _ => none }
def peelPeelsRow : OpenClaim := { program := "ytbiodlomlendkaa", sum := "a690d2f2f095b4ff2a4e28783c2833a1e534e835fbb345cd330155812dee194e", func := "sallyport/sallyportlaw11.PeelPeels", spec := "peelPeels", unfollowed := true, recurses := true, apart := false }
def PeelPeelsSaid : Prop := peelPeelsRow.holds Try.pinned (OpenSpec.ofChange peelPeelsSpec)

/-- ITS FALSE NEIGHBOUR: 'it returns false'. Refute it at one input. -/
def peelPeelsWrong : ChangeSpec := { name := "peelPeels", fn := fun _ => fun
  | [d] => { results := [.lit (.bool false)], args := [d] }
  | _ => none }
def PeelPeelsWrongFalsely : Prop := peelPeelsRow.holds Try.pinned (OpenSpec.ofChange peelPeelsWrong)

/-- 'sallyportlaw11.PeelWheres': WHATEVER THE INPUT: true; the input reads as it did. -/
def peelWheresSpec : ChangeSpec := { name := "peelWheres", fn := fun _ => fun
  | [d1, d2] => { results := [.lit (.bool true)], args := [d1, d2] }
  | _ => none }
def peelWheresRow : OpenClaim := { program := "ytbiodlomlendkaa", sum := "a690d2f2f095b4ff2a4e28783c2833a1e534e835fbb345cd330155812dee194e", func := "sallyport/sallyportlaw11.PeelWheres", spec := "peelWheres", unfollowed := true, recurses := true, apart := false }
def PeelWheresSaid : Prop := peelWheresRow.holds Try.pinned (OpenSpec.ofChange peelWheresSpec)

/-- ITS FALSE NEIGHBOUR: 'it returns false'. Refute it at one input. -/
def peelWheresWrong : ChangeSpec := { name := "peelWheres", fn := fun _ => fun
  | [d1, d2] => { results := [.lit (.bool false)], args := [d1, d2] }
  | _ => none }
def PeelWheresWrongFalsely : Prop := peelWheresRow.holds Try.pinned (OpenSpec.ofChange peelWheresWrong)

/-- 'sallyportlaw11.PeelBack': WHATEVER THE INPUT: true; the input reads as it did. -/
def peelBackSpec : ChangeSpec := { name := "peelBack", fn := fun _ => fun
  | [d1, d2] => { results := [.lit (.bool true)], args := [d1, d2] }
  | _ => none }
def peelBackRow : OpenClaim := { program := "ytbiodlomlendkaa", sum := "a690d2f2f095b4ff2a4e28783c2833a1e534e835fbb345cd330155812dee194e", func := "sallyport/sallyportlaw11.PeelBack", spec := "peelBack", unfollowed := true, recurses := true, apart := false }
def PeelBackSaid : Prop := peelBackRow.holds Try.pinned (OpenSpec.ofChange peelBackSpec)

/-- ITS FALSE NEIGHBOUR: 'it returns false'. Refute it at one input. -/
def peelBackWrong : ChangeSpec := { name := "peelBack", fn := fun _ => fun
  | [d1, d2] => { results := [.lit (.bool false)], args := [d1, d2] }
  | _ => none }
def PeelBackWrongFalsely : Prop := peelBackRow.holds Try.pinned (OpenSpec.ofChange peelBackWrong)

/-- 'sallyportlaw11.PeelAll': WHATEVER THE INPUT: true; the input reads as it did. -/
def peelAllSpec : ChangeSpec := { name := "peelAll", fn := fun _ => fun
  | [d] => { results := [.lit (.bool true)], args := [d] }
  | _ => none }
def peelAllRow : OpenClaim := { program := "ytbiodlomlendkaa", sum := "a690d2f2f095b4ff2a4e28783c2833a1e534e835fbb345cd330155812dee194e", func := "sallyport/sallyportlaw11.PeelAll", spec := "peelAll", unfollowed := true, recurses := true, apart := false }
def PeelAllSaid : Prop := peelAllRow.holds Try.pinned (OpenSpec.ofChange peelAllSpec)

/-- ITS FALSE NEIGHBOUR: 'it returns false'. Refute it at one input. -/
def peelAllWrong : ChangeSpec := { name := "peelAll", fn := fun _ => fun
  | [d] => { results := [.lit (.bool false)], args := [d] }
  | _ => none }
def PeelAllWrongFalsely : Prop := peelAllRow.holds Try.pinned (OpenSpec.ofChange peelAllWrong)

/-- 'sallyportlaw11.PeelNames': WHATEVER THE INPUT: true; the input reads as it did. -/
def peelNamesSpec : ChangeSpec := { name := "peelNames", fn := fun _ => fun
  | [] => { results := [.lit (.bool true)], args := [] }
  | _ => none }
def peelNamesRow : OpenClaim := { program := "ytbiodlomlendkaa", sum := "a690d2f2f095b4ff2a4e28783c2833a1e534e835fbb345cd330155812dee194e", func := "sallyport/sallyportlaw11.PeelNames", spec := "peelNames", unfollowed := true, recurses := true, apart := false }
def PeelNamesSaid : Prop := peelNamesRow.holds Try.pinned (OpenSpec.ofChange peelNamesSpec)

/-- ITS FALSE NEIGHBOUR: 'it returns false'. Refute it at one input. -/
def peelNamesWrong : ChangeSpec := { name := "peelNames", fn := fun _ => fun
  | [] => { results := [.lit (.bool false)], args := [] }
  | _ => none }
def PeelNamesWrongFalsely : Prop := peelNamesRow.holds Try.pinned (OpenSpec.ofChange peelNamesWrong)

/-- 'sallyportlaw12.WrapBack': WHATEVER THE INPUT: true; the input reads as it did. -/
def wrapBackSpec : ChangeSpec := { name := "wrapBack", fn := fun _ => fun
  | [d1, d2, d3] => { results := [.lit (.bool true)], args := [d1, d2, d3] }
  | _ => none }
def wrapBackRow : OpenClaim := { program := "ytbiodlomlendkaa", sum := "a690d2f2f095b4ff2a4e28783c2833a1e534e835fbb345cd330155812dee194e", func := "sallyport/sallyportlaw12.WrapBack", spec := "wrapBack", unfollowed := true, recurses := true, apart := false }
def WrapBackSaid : Prop := wrapBackRow.holds Try.pinned (OpenSpec.ofChange wrapBackSpec)

/-- ITS FALSE NEIGHBOUR: 'it returns false'. Refute it at one input. -/
def wrapBackWrong : ChangeSpec := { name := "wrapBack", fn := fun _ => fun
  | [d1, d2, d3] => { results := [.lit (.bool false)], args := [d1, d2, d3] }
  | _ => none }
def WrapBackWrongFalsely : Prop := wrapBackRow.holds Try.pinned (OpenSpec.ofChange wrapBackWrong)

/-- 'sallyportlaw12.WrapRoom': WHATEVER THE INPUT: true; the input reads as it did. -/
def wrapRoomSpec : ChangeSpec := { name := "wrapRoom", fn := fun _ => fun
  | [d1, d2, d3] => { results := [.lit (.bool true)], args := [d1, d2, d3] }
  | _ => none }
def wrapRoomRow : OpenClaim := { program := "ytbiodlomlendkaa", sum := "a690d2f2f095b4ff2a4e28783c2833a1e534e835fbb345cd330155812dee194e", func := "sallyport/sallyportlaw12.WrapRoom", spec := "wrapRoom", unfollowed := true, recurses := true, apart := false }
def WrapRoomSaid : Prop := wrapRoomRow.holds Try.pinned (OpenSpec.ofChange wrapRoomSpec)

/-- ITS FALSE NEIGHBOUR: 'it returns false'. Refute it at one input. -/
def wrapRoomWrong : ChangeSpec := { name := "wrapRoom", fn := fun _ => fun
  | [d1, d2, d3] => { results := [.lit (.bool false)], args := [d1, d2, d3] }
  | _ => none }
def WrapRoomWrongFalsely : Prop := wrapRoomRow.holds Try.pinned (OpenSpec.ofChange wrapRoomWrong)

/- THE SECOND FORM. 'bulk': how many values and letters a reading holds, each counted each time it is reached (what is shared counts as often as it is met; a slice's spare places count too). A statement '..UptoSaid' is the law's where the arguments, and the package variables that the reading takes, are together of bulk at most 1048576: NARROWER than '..Said'. Prove '..Said' where nothing that the law and all that it calls make is longer than what came in: it says more and counts as full. Else prove '..UptoSaid'. A law counts once. -/
mutual
def uptoBulk {H : Type} : DataW H → Nat
  | .lit (.string bytes) => bytes.length + 1
  | .lit _ => 1
  | .nil => 1
  | .ptr d => uptoBulk d + 1
  | .slice elems spare => uptoBulkAll elems + uptoBulkAll spare + 1
  | .agg parts => uptoBulkAll parts + 1
  | .iface _ d => uptoBulk d + 1
  | .map entries => uptoBulkEntries entries + 1
  | .held _ => 1
def uptoBulkAll {H : Type} : List (DataW H) → Nat
  | [] => 0
  | d :: r => uptoBulk d + uptoBulkAll r
def uptoBulkEntries {H : Type} : List (Lit × DataW H) → Nat
  | [] => 0
  | x :: r => uptoBulkEntry x + uptoBulkEntries r
def uptoBulkEntry {H : Type} : Lit × DataW H → Nat
  | (.string bytes, d) => bytes.length + uptoBulk d + 1
  | (_, d) => uptoBulk d + 1
 end
def uptoSmall : (H : Type) → List (DataW H) → Bool := fun _ ds => decide (uptoBulkAll ds ≤ 1048576)
def OpenSpec.upto (s : _root_.Go.ChangeSpec) : _root_.Go.OpenSpec := { _root_.Go.OpenSpec.ofChange s with cond := some uptoSmall }

/-- 'sallyportlaw11.PeelPeels', WHERE WHAT IT READS IS OF BULK AT MOST 1048576: true; the input reads as it did. -/
def peelPeelsUptoRow : OpenClaim := { program := "ytbiodlomlendkaa", sum := "a690d2f2f095b4ff2a4e28783c2833a1e534e835fbb345cd330155812dee194e", func := "sallyport/sallyportlaw11.PeelPeels", spec := "peelPeels", unfollowed := true, recurses := true, apart := false, narrowed := true }
def PeelPeelsUptoSaid : Prop := peelPeelsUptoRow.holds Try.pinned (OpenSpec.upto peelPeelsSpec)

/-- 'sallyportlaw11.PeelWheres', WHERE WHAT IT READS IS OF BULK AT MOST 1048576: true; the input reads as it did. -/
def peelWheresUptoRow : OpenClaim := { program := "ytbiodlomlendkaa", sum := "a690d2f2f095b4ff2a4e28783c2833a1e534e835fbb345cd330155812dee194e", func := "sallyport/sallyportlaw11.PeelWheres", spec := "peelWheres", unfollowed := true, recurses := true, apart := false, narrowed := true }
def PeelWheresUptoSaid : Prop := peelWheresUptoRow.holds Try.pinned (OpenSpec.upto peelWheresSpec)

/-- 'sallyportlaw11.PeelBack', WHERE WHAT IT READS IS OF BULK AT MOST 1048576: true; the input reads as it did. -/
def peelBackUptoRow : OpenClaim := { program := "ytbiodlomlendkaa", sum := "a690d2f2f095b4ff2a4e28783c2833a1e534e835fbb345cd330155812dee194e", func := "sallyport/sallyportlaw11.PeelBack", spec := "peelBack", unfollowed := true, recurses := true, apart := false, narrowed := true }
def PeelBackUptoSaid : Prop := peelBackUptoRow.holds Try.pinned (OpenSpec.upto peelBackSpec)

/-- 'sallyportlaw11.PeelAll', WHERE WHAT IT READS IS OF BULK AT MOST 1048576: true; the input reads as it did. -/
def peelAllUptoRow : OpenClaim := { program := "ytbiodlomlendkaa", sum := "a690d2f2f095b4ff2a4e28783c2833a1e534e835fbb345cd330155812dee194e", func := "sallyport/sallyportlaw11.PeelAll", spec := "peelAll", unfollowed := true, recurses := true, apart := false, narrowed := true }
def PeelAllUptoSaid : Prop := peelAllUptoRow.holds Try.pinned (OpenSpec.upto peelAllSpec)

/-- 'sallyportlaw11.PeelNames', WHERE WHAT IT READS IS OF BULK AT MOST 1048576: true; the input reads as it did. -/
def peelNamesUptoRow : OpenClaim := { program := "ytbiodlomlendkaa", sum := "a690d2f2f095b4ff2a4e28783c2833a1e534e835fbb345cd330155812dee194e", func := "sallyport/sallyportlaw11.PeelNames", spec := "peelNames", unfollowed := true, recurses := true, apart := false, narrowed := true }
def PeelNamesUptoSaid : Prop := peelNamesUptoRow.holds Try.pinned (OpenSpec.upto peelNamesSpec)

/-- 'sallyportlaw12.WrapBack', WHERE WHAT IT READS IS OF BULK AT MOST 1048576: true; the input reads as it did. -/
def wrapBackUptoRow : OpenClaim := { program := "ytbiodlomlendkaa", sum := "a690d2f2f095b4ff2a4e28783c2833a1e534e835fbb345cd330155812dee194e", func := "sallyport/sallyportlaw12.WrapBack", spec := "wrapBack", unfollowed := true, recurses := true, apart := false, narrowed := true }
def WrapBackUptoSaid : Prop := wrapBackUptoRow.holds Try.pinned (OpenSpec.upto wrapBackSpec)

/-- 'sallyportlaw12.WrapRoom', WHERE WHAT IT READS IS OF BULK AT MOST 1048576: true; the input reads as it did. -/
def wrapRoomUptoRow : OpenClaim := { program := "ytbiodlomlendkaa", sum := "a690d2f2f095b4ff2a4e28783c2833a1e534e835fbb345cd330155812dee194e", func := "sallyport/sallyportlaw12.WrapRoom", spec := "wrapRoom", unfollowed := true, recurses := true, apart := false, narrowed := true }
def WrapRoomUptoSaid : Prop := wrapRoomUptoRow.holds Try.pinned (OpenSpec.upto wrapRoomSpec)

end Rows
end Go.Proofs.Ytbiodlomlendkaa

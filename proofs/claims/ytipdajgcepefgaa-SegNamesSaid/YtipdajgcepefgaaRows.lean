/-
  No cell of these rows narrows 'for every input' (looked for: loops, veiled, ifaces, maps, wideKeys, modest, calm, conditions, laid).
  DERIVED. THE GIVEN ROWS OF THIS SEAT. 15 by the template 'for every input the law returns true; each argument reads behind the call as it read before'; 0 by the template 'total and deterministic' (their statements: YtipdajgcepefgaaTotals.lean).
  GIVEN WITH THE SEED: the statements are not yours to turn. If you find one false, say at which input.
  Laid BY PROGRAM, IN A SANDBOX (cutbox-rows.mjs): the forced cells as the released guide's own fill.sh prints them over the translation b9acac268cb19190… (all of the seat's roots in one cut). By AI agents, Wed Nov 11 2026. No macro, syntax, notation, axiom, sorry.
-/
import Derived.Test.YtipdajgcepefgaaChecked
import GoSem.Claim
import GoSem.ClaimJoined
import GoSem.ClaimMapViews
import Derived.JoinedTies
import Derived.KernelRfl
namespace Go.Proofs.Ytipdajgcepefgaa
/- THE CELL 'sum', in the pinned program and in every row, IS THE sha256 OF THE DUMP (.gsa) THAT YtipdajgcepefgaaProg.lean LOADS. Nothing in Lean hashes anything: it is a label: what it is worth is what the hold of that sum in a sandbox is worth. -/
noncomputable def Try.pinned : Pinned := { name := "ytipdajgcepefgaa", sum := "b9acac268cb191908079e662cf66da495141aed57606e6055ce8dc8f761d350c", checked := Try.checked }
namespace Rows
def none {H : Type} : Left H := { results := [], args := [] }

/-- 'sallyportlaw07.Net4Bytes': WHATEVER THE INPUT: true; the input reads as it did. -/
def net4BytesSpec : ChangeSpec := { name := "net4Bytes", fn := fun _ => fun
  | [d1, d2] => { results := [.lit (.bool true)], args := [d1, d2] }
  | _ => none }
def net4BytesRow : OpenClaim := { program := "ytipdajgcepefgaa", sum := "b9acac268cb191908079e662cf66da495141aed57606e6055ce8dc8f761d350c", func := "sallyport/sallyportlaw07.Net4Bytes", spec := "net4Bytes", apart := false }
def Net4BytesSaid : Prop := net4BytesRow.holds Try.pinned (OpenSpec.ofChange net4BytesSpec)

/-- ITS FALSE NEIGHBOUR: 'it returns false'. Refute it at one input. -/
def net4BytesWrong : ChangeSpec := { name := "net4Bytes", fn := fun _ => fun
  | [d1, d2] => { results := [.lit (.bool false)], args := [d1, d2] }
  | _ => none }
def Net4BytesWrongFalsely : Prop := net4BytesRow.holds Try.pinned (OpenSpec.ofChange net4BytesWrong)

/-- 'sallyportlaw07.Net4Reads': WHATEVER THE INPUT: true; the input reads as it did. -/
def net4ReadsSpec : ChangeSpec := { name := "net4Reads", fn := fun _ => fun
  | [d] => { results := [.lit (.bool true)], args := [d] }
  | _ => none }
def net4ReadsRow : OpenClaim := { program := "ytipdajgcepefgaa", sum := "b9acac268cb191908079e662cf66da495141aed57606e6055ce8dc8f761d350c", func := "sallyport/sallyportlaw07.Net4Reads", spec := "net4Reads", apart := false }
def Net4ReadsSaid : Prop := net4ReadsRow.holds Try.pinned (OpenSpec.ofChange net4ReadsSpec)

/-- ITS FALSE NEIGHBOUR: 'it returns false'. Refute it at one input. -/
def net4ReadsWrong : ChangeSpec := { name := "net4Reads", fn := fun _ => fun
  | [d] => { results := [.lit (.bool false)], args := [d] }
  | _ => none }
def Net4ReadsWrongFalsely : Prop := net4ReadsRow.holds Try.pinned (OpenSpec.ofChange net4ReadsWrong)

/-- 'sallyportlaw07.Net4Back': WHATEVER THE INPUT: true; the input reads as it did. -/
def net4BackSpec : ChangeSpec := { name := "net4Back", fn := fun _ => fun
  | [d1, d2, d3] => { results := [.lit (.bool true)], args := [d1, d2, d3] }
  | _ => none }
def net4BackRow : OpenClaim := { program := "ytipdajgcepefgaa", sum := "b9acac268cb191908079e662cf66da495141aed57606e6055ce8dc8f761d350c", func := "sallyport/sallyportlaw07.Net4Back", spec := "net4Back", apart := false }
def Net4BackSaid : Prop := net4BackRow.holds Try.pinned (OpenSpec.ofChange net4BackSpec)

/-- ITS FALSE NEIGHBOUR: 'it returns false'. Refute it at one input. -/
def net4BackWrong : ChangeSpec := { name := "net4Back", fn := fun _ => fun
  | [d1, d2, d3] => { results := [.lit (.bool false)], args := [d1, d2, d3] }
  | _ => none }
def Net4BackWrongFalsely : Prop := net4BackRow.holds Try.pinned (OpenSpec.ofChange net4BackWrong)

/-- 'sallyportlaw07.Net4Turned': WHATEVER THE INPUT: true; the input reads as it did. -/
def net4TurnedSpec : ChangeSpec := { name := "net4Turned", fn := fun _ => fun
  | [d1, d2, d3] => { results := [.lit (.bool true)], args := [d1, d2, d3] }
  | _ => none }
def net4TurnedRow : OpenClaim := { program := "ytipdajgcepefgaa", sum := "b9acac268cb191908079e662cf66da495141aed57606e6055ce8dc8f761d350c", func := "sallyport/sallyportlaw07.Net4Turned", spec := "net4Turned", apart := false }
def Net4TurnedSaid : Prop := net4TurnedRow.holds Try.pinned (OpenSpec.ofChange net4TurnedSpec)

/-- ITS FALSE NEIGHBOUR: 'it returns false'. Refute it at one input. -/
def net4TurnedWrong : ChangeSpec := { name := "net4Turned", fn := fun _ => fun
  | [d1, d2, d3] => { results := [.lit (.bool false)], args := [d1, d2, d3] }
  | _ => none }
def Net4TurnedWrongFalsely : Prop := net4TurnedRow.holds Try.pinned (OpenSpec.ofChange net4TurnedWrong)

/-- 'sallyportlaw07.Net4Names': WHATEVER THE INPUT: true; the input reads as it did. -/
def net4NamesSpec : ChangeSpec := { name := "net4Names", fn := fun _ => fun
  | [] => { results := [.lit (.bool true)], args := [] }
  | _ => none }
def net4NamesRow : OpenClaim := { program := "ytipdajgcepefgaa", sum := "b9acac268cb191908079e662cf66da495141aed57606e6055ce8dc8f761d350c", func := "sallyport/sallyportlaw07.Net4Names", spec := "net4Names", apart := false }
def Net4NamesSaid : Prop := net4NamesRow.holds Try.pinned (OpenSpec.ofChange net4NamesSpec)

/-- ITS FALSE NEIGHBOUR: 'it returns false'. Refute it at one input. -/
def net4NamesWrong : ChangeSpec := { name := "net4Names", fn := fun _ => fun
  | [] => { results := [.lit (.bool false)], args := [] }
  | _ => none }
def Net4NamesWrongFalsely : Prop := net4NamesRow.holds Try.pinned (OpenSpec.ofChange net4NamesWrong)

/-- 'sallyportlaw10.DgramBytes': WHATEVER THE INPUT: true; the input reads as it did. -/
def dgramBytesSpec : ChangeSpec := { name := "dgramBytes", fn := fun _ => fun
  | [d1, d2] => { results := [.lit (.bool true)], args := [d1, d2] }
  | _ => none }
def dgramBytesRow : OpenClaim := { program := "ytipdajgcepefgaa", sum := "b9acac268cb191908079e662cf66da495141aed57606e6055ce8dc8f761d350c", func := "sallyport/sallyportlaw10.DgramBytes", spec := "dgramBytes", apart := false }
def DgramBytesSaid : Prop := dgramBytesRow.holds Try.pinned (OpenSpec.ofChange dgramBytesSpec)

/-- ITS FALSE NEIGHBOUR: 'it returns false'. Refute it at one input. -/
def dgramBytesWrong : ChangeSpec := { name := "dgramBytes", fn := fun _ => fun
  | [d1, d2] => { results := [.lit (.bool false)], args := [d1, d2] }
  | _ => none }
def DgramBytesWrongFalsely : Prop := dgramBytesRow.holds Try.pinned (OpenSpec.ofChange dgramBytesWrong)

/-- 'sallyportlaw10.DgramReads': WHATEVER THE INPUT: true; the input reads as it did. -/
def dgramReadsSpec : ChangeSpec := { name := "dgramReads", fn := fun _ => fun
  | [d] => { results := [.lit (.bool true)], args := [d] }
  | _ => none }
def dgramReadsRow : OpenClaim := { program := "ytipdajgcepefgaa", sum := "b9acac268cb191908079e662cf66da495141aed57606e6055ce8dc8f761d350c", func := "sallyport/sallyportlaw10.DgramReads", spec := "dgramReads", apart := false }
def DgramReadsSaid : Prop := dgramReadsRow.holds Try.pinned (OpenSpec.ofChange dgramReadsSpec)

/-- ITS FALSE NEIGHBOUR: 'it returns false'. Refute it at one input. -/
def dgramReadsWrong : ChangeSpec := { name := "dgramReads", fn := fun _ => fun
  | [d] => { results := [.lit (.bool false)], args := [d] }
  | _ => none }
def DgramReadsWrongFalsely : Prop := dgramReadsRow.holds Try.pinned (OpenSpec.ofChange dgramReadsWrong)

/-- 'sallyportlaw10.DgramBack': WHATEVER THE INPUT: true; the input reads as it did. -/
def dgramBackSpec : ChangeSpec := { name := "dgramBack", fn := fun _ => fun
  | [d1, d2, d3] => { results := [.lit (.bool true)], args := [d1, d2, d3] }
  | _ => none }
def dgramBackRow : OpenClaim := { program := "ytipdajgcepefgaa", sum := "b9acac268cb191908079e662cf66da495141aed57606e6055ce8dc8f761d350c", func := "sallyport/sallyportlaw10.DgramBack", spec := "dgramBack", apart := false }
def DgramBackSaid : Prop := dgramBackRow.holds Try.pinned (OpenSpec.ofChange dgramBackSpec)

/-- ITS FALSE NEIGHBOUR: 'it returns false'. Refute it at one input. -/
def dgramBackWrong : ChangeSpec := { name := "dgramBack", fn := fun _ => fun
  | [d1, d2, d3] => { results := [.lit (.bool false)], args := [d1, d2, d3] }
  | _ => none }
def DgramBackWrongFalsely : Prop := dgramBackRow.holds Try.pinned (OpenSpec.ofChange dgramBackWrong)

/-- 'sallyportlaw10.DgramTurned': WHATEVER THE INPUT: true; the input reads as it did. -/
def dgramTurnedSpec : ChangeSpec := { name := "dgramTurned", fn := fun _ => fun
  | [d1, d2, d3] => { results := [.lit (.bool true)], args := [d1, d2, d3] }
  | _ => none }
def dgramTurnedRow : OpenClaim := { program := "ytipdajgcepefgaa", sum := "b9acac268cb191908079e662cf66da495141aed57606e6055ce8dc8f761d350c", func := "sallyport/sallyportlaw10.DgramTurned", spec := "dgramTurned", apart := false }
def DgramTurnedSaid : Prop := dgramTurnedRow.holds Try.pinned (OpenSpec.ofChange dgramTurnedSpec)

/-- ITS FALSE NEIGHBOUR: 'it returns false'. Refute it at one input. -/
def dgramTurnedWrong : ChangeSpec := { name := "dgramTurned", fn := fun _ => fun
  | [d1, d2, d3] => { results := [.lit (.bool false)], args := [d1, d2, d3] }
  | _ => none }
def DgramTurnedWrongFalsely : Prop := dgramTurnedRow.holds Try.pinned (OpenSpec.ofChange dgramTurnedWrong)

/-- 'sallyportlaw10.DgramNames': WHATEVER THE INPUT: true; the input reads as it did. -/
def dgramNamesSpec : ChangeSpec := { name := "dgramNames", fn := fun _ => fun
  | [] => { results := [.lit (.bool true)], args := [] }
  | _ => none }
def dgramNamesRow : OpenClaim := { program := "ytipdajgcepefgaa", sum := "b9acac268cb191908079e662cf66da495141aed57606e6055ce8dc8f761d350c", func := "sallyport/sallyportlaw10.DgramNames", spec := "dgramNames", apart := false }
def DgramNamesSaid : Prop := dgramNamesRow.holds Try.pinned (OpenSpec.ofChange dgramNamesSpec)

/-- ITS FALSE NEIGHBOUR: 'it returns false'. Refute it at one input. -/
def dgramNamesWrong : ChangeSpec := { name := "dgramNames", fn := fun _ => fun
  | [] => { results := [.lit (.bool false)], args := [] }
  | _ => none }
def DgramNamesWrongFalsely : Prop := dgramNamesRow.holds Try.pinned (OpenSpec.ofChange dgramNamesWrong)

/-- 'sallyportlaw09.SegBytes': WHATEVER THE INPUT: true; the input reads as it did. -/
def segBytesSpec : ChangeSpec := { name := "segBytes", fn := fun _ => fun
  | [d1, d2] => { results := [.lit (.bool true)], args := [d1, d2] }
  | _ => none }
def segBytesRow : OpenClaim := { program := "ytipdajgcepefgaa", sum := "b9acac268cb191908079e662cf66da495141aed57606e6055ce8dc8f761d350c", func := "sallyport/sallyportlaw09.SegBytes", spec := "segBytes", apart := false }
def SegBytesSaid : Prop := segBytesRow.holds Try.pinned (OpenSpec.ofChange segBytesSpec)

/-- ITS FALSE NEIGHBOUR: 'it returns false'. Refute it at one input. -/
def segBytesWrong : ChangeSpec := { name := "segBytes", fn := fun _ => fun
  | [d1, d2] => { results := [.lit (.bool false)], args := [d1, d2] }
  | _ => none }
def SegBytesWrongFalsely : Prop := segBytesRow.holds Try.pinned (OpenSpec.ofChange segBytesWrong)

/-- 'sallyportlaw09.SegReads': WHATEVER THE INPUT: true; the input reads as it did. -/
def segReadsSpec : ChangeSpec := { name := "segReads", fn := fun _ => fun
  | [d] => { results := [.lit (.bool true)], args := [d] }
  | _ => none }
def segReadsRow : OpenClaim := { program := "ytipdajgcepefgaa", sum := "b9acac268cb191908079e662cf66da495141aed57606e6055ce8dc8f761d350c", func := "sallyport/sallyportlaw09.SegReads", spec := "segReads", apart := false }
def SegReadsSaid : Prop := segReadsRow.holds Try.pinned (OpenSpec.ofChange segReadsSpec)

/-- ITS FALSE NEIGHBOUR: 'it returns false'. Refute it at one input. -/
def segReadsWrong : ChangeSpec := { name := "segReads", fn := fun _ => fun
  | [d] => { results := [.lit (.bool false)], args := [d] }
  | _ => none }
def SegReadsWrongFalsely : Prop := segReadsRow.holds Try.pinned (OpenSpec.ofChange segReadsWrong)

/-- 'sallyportlaw09.SegBack': WHATEVER THE INPUT: true; the input reads as it did. -/
def segBackSpec : ChangeSpec := { name := "segBack", fn := fun _ => fun
  | [d1, d2, d3] => { results := [.lit (.bool true)], args := [d1, d2, d3] }
  | _ => none }
def segBackRow : OpenClaim := { program := "ytipdajgcepefgaa", sum := "b9acac268cb191908079e662cf66da495141aed57606e6055ce8dc8f761d350c", func := "sallyport/sallyportlaw09.SegBack", spec := "segBack", apart := false }
def SegBackSaid : Prop := segBackRow.holds Try.pinned (OpenSpec.ofChange segBackSpec)

/-- ITS FALSE NEIGHBOUR: 'it returns false'. Refute it at one input. -/
def segBackWrong : ChangeSpec := { name := "segBack", fn := fun _ => fun
  | [d1, d2, d3] => { results := [.lit (.bool false)], args := [d1, d2, d3] }
  | _ => none }
def SegBackWrongFalsely : Prop := segBackRow.holds Try.pinned (OpenSpec.ofChange segBackWrong)

/-- 'sallyportlaw09.SegTurned': WHATEVER THE INPUT: true; the input reads as it did. -/
def segTurnedSpec : ChangeSpec := { name := "segTurned", fn := fun _ => fun
  | [d1, d2, d3] => { results := [.lit (.bool true)], args := [d1, d2, d3] }
  | _ => none }
def segTurnedRow : OpenClaim := { program := "ytipdajgcepefgaa", sum := "b9acac268cb191908079e662cf66da495141aed57606e6055ce8dc8f761d350c", func := "sallyport/sallyportlaw09.SegTurned", spec := "segTurned", apart := false }
def SegTurnedSaid : Prop := segTurnedRow.holds Try.pinned (OpenSpec.ofChange segTurnedSpec)

/-- ITS FALSE NEIGHBOUR: 'it returns false'. Refute it at one input. -/
def segTurnedWrong : ChangeSpec := { name := "segTurned", fn := fun _ => fun
  | [d1, d2, d3] => { results := [.lit (.bool false)], args := [d1, d2, d3] }
  | _ => none }
def SegTurnedWrongFalsely : Prop := segTurnedRow.holds Try.pinned (OpenSpec.ofChange segTurnedWrong)

/-- 'sallyportlaw09.SegNames': WHATEVER THE INPUT: true; the input reads as it did. -/
def segNamesSpec : ChangeSpec := { name := "segNames", fn := fun _ => fun
  | [] => { results := [.lit (.bool true)], args := [] }
  | _ => none }
def segNamesRow : OpenClaim := { program := "ytipdajgcepefgaa", sum := "b9acac268cb191908079e662cf66da495141aed57606e6055ce8dc8f761d350c", func := "sallyport/sallyportlaw09.SegNames", spec := "segNames", apart := false }
def SegNamesSaid : Prop := segNamesRow.holds Try.pinned (OpenSpec.ofChange segNamesSpec)

/-- ITS FALSE NEIGHBOUR: 'it returns false'. Refute it at one input. -/
def segNamesWrong : ChangeSpec := { name := "segNames", fn := fun _ => fun
  | [] => { results := [.lit (.bool false)], args := [] }
  | _ => none }
def SegNamesWrongFalsely : Prop := segNamesRow.holds Try.pinned (OpenSpec.ofChange segNamesWrong)

/- THE SECOND FORM. 'bulk': how many values and letters a reading holds, each counted each time it is reached (what is shared counts as often as it is met; a slice's spare places count too). A statement '..UptoSaid' is the law's where the arguments, and the package variables that the reading takes, are together of bulk at most 1048576: NARROWER than '..Said'. Prove '..Said' where nothing that the law and all that it calls make is longer than what came in: it says more and counts as full. Else prove '..UptoSaid'. A law counts once. -/
mutual
def uptoBulk {H : Type} : DataW H → Nat
  | .lit (.string bytes) => bytes.length + 1
  | .lit _ => 1
  | .nil => 1
  | .ptr d => uptoBulk d + 1
  | .slice elems spare => uptoBulkAll elems + uptoBulkAll spare + 1
  | .agg parts => uptoBulkAll parts + 1
  | .iface _ d => uptoBulk d + 1
  | .map entries => uptoBulkEntries entries + 1
  | .held _ => 1
def uptoBulkAll {H : Type} : List (DataW H) → Nat
  | [] => 0
  | d :: r => uptoBulk d + uptoBulkAll r
def uptoBulkEntries {H : Type} : List (Lit × DataW H) → Nat
  | [] => 0
  | x :: r => uptoBulkEntry x + uptoBulkEntries r
def uptoBulkEntry {H : Type} : Lit × DataW H → Nat
  | (.string bytes, d) => bytes.length + uptoBulk d + 1
  | (_, d) => uptoBulk d + 1
 end
def uptoSmall : (H : Type) → List (DataW H) → Bool := fun _ ds => decide (uptoBulkAll ds ≤ 1048576)
def OpenSpec.upto (s : _root_.Go.ChangeSpec) : _root_.Go.OpenSpec := { _root_.Go.OpenSpec.ofChange s with cond := some uptoSmall }

/-- 'sallyportlaw07.Net4Bytes', WHERE WHAT IT READS IS OF BULK AT MOST 1048576: true; the input reads as it did. -/
def net4BytesUptoRow : OpenClaim := { program := "ytipdajgcepefgaa", sum := "b9acac268cb191908079e662cf66da495141aed57606e6055ce8dc8f761d350c", func := "sallyport/sallyportlaw07.Net4Bytes", spec := "net4Bytes", apart := false, narrowed := true }
def Net4BytesUptoSaid : Prop := net4BytesUptoRow.holds Try.pinned (OpenSpec.upto net4BytesSpec)

/-- 'sallyportlaw07.Net4Reads', WHERE WHAT IT READS IS OF BULK AT MOST 1048576: true; the input reads as it did. -/
def net4ReadsUptoRow : OpenClaim := { program := "ytipdajgcepefgaa", sum := "b9acac268cb191908079e662cf66da495141aed57606e6055ce8dc8f761d350c", func := "sallyport/sallyportlaw07.Net4Reads", spec := "net4Reads", apart := false, narrowed := true }
def Net4ReadsUptoSaid : Prop := net4ReadsUptoRow.holds Try.pinned (OpenSpec.upto net4ReadsSpec)

/-- 'sallyportlaw07.Net4Back', WHERE WHAT IT READS IS OF BULK AT MOST 1048576: true; the input reads as it did. -/
def net4BackUptoRow : OpenClaim := { program := "ytipdajgcepefgaa", sum := "b9acac268cb191908079e662cf66da495141aed57606e6055ce8dc8f761d350c", func := "sallyport/sallyportlaw07.Net4Back", spec := "net4Back", apart := false, narrowed := true }
def Net4BackUptoSaid : Prop := net4BackUptoRow.holds Try.pinned (OpenSpec.upto net4BackSpec)

/-- 'sallyportlaw07.Net4Turned', WHERE WHAT IT READS IS OF BULK AT MOST 1048576: true; the input reads as it did. -/
def net4TurnedUptoRow : OpenClaim := { program := "ytipdajgcepefgaa", sum := "b9acac268cb191908079e662cf66da495141aed57606e6055ce8dc8f761d350c", func := "sallyport/sallyportlaw07.Net4Turned", spec := "net4Turned", apart := false, narrowed := true }
def Net4TurnedUptoSaid : Prop := net4TurnedUptoRow.holds Try.pinned (OpenSpec.upto net4TurnedSpec)

/-- 'sallyportlaw07.Net4Names', WHERE WHAT IT READS IS OF BULK AT MOST 1048576: true; the input reads as it did. -/
def net4NamesUptoRow : OpenClaim := { program := "ytipdajgcepefgaa", sum := "b9acac268cb191908079e662cf66da495141aed57606e6055ce8dc8f761d350c", func := "sallyport/sallyportlaw07.Net4Names", spec := "net4Names", apart := false, narrowed := true }
def Net4NamesUptoSaid : Prop := net4NamesUptoRow.holds Try.pinned (OpenSpec.upto net4NamesSpec)

/-- 'sallyportlaw10.DgramBytes', WHERE WHAT IT READS IS OF BULK AT MOST 1048576: true; the input reads as it did. -/
def dgramBytesUptoRow : OpenClaim := { program := "ytipdajgcepefgaa", sum := "b9acac268cb191908079e662cf66da495141aed57606e6055ce8dc8f761d350c", func := "sallyport/sallyportlaw10.DgramBytes", spec := "dgramBytes", apart := false, narrowed := true }
def DgramBytesUptoSaid : Prop := dgramBytesUptoRow.holds Try.pinned (OpenSpec.upto dgramBytesSpec)

/-- 'sallyportlaw10.DgramReads', WHERE WHAT IT READS IS OF BULK AT MOST 1048576: true; the input reads as it did. -/
def dgramReadsUptoRow : OpenClaim := { program := "ytipdajgcepefgaa", sum := "b9acac268cb191908079e662cf66da495141aed57606e6055ce8dc8f761d350c", func := "sallyport/sallyportlaw10.DgramReads", spec := "dgramReads", apart := false, narrowed := true }
def DgramReadsUptoSaid : Prop := dgramReadsUptoRow.holds Try.pinned (OpenSpec.upto dgramReadsSpec)

/-- 'sallyportlaw10.DgramBack', WHERE WHAT IT READS IS OF BULK AT MOST 1048576: true; the input reads as it did. -/
def dgramBackUptoRow : OpenClaim := { program := "ytipdajgcepefgaa", sum := "b9acac268cb191908079e662cf66da495141aed57606e6055ce8dc8f761d350c", func := "sallyport/sallyportlaw10.DgramBack", spec := "dgramBack", apart := false, narrowed := true }
def DgramBackUptoSaid : Prop := dgramBackUptoRow.holds Try.pinned (OpenSpec.upto dgramBackSpec)

/-- 'sallyportlaw10.DgramTurned', WHERE WHAT IT READS IS OF BULK AT MOST 1048576: true; the input reads as it did. -/
def dgramTurnedUptoRow : OpenClaim := { program := "ytipdajgcepefgaa", sum := "b9acac268cb191908079e662cf66da495141aed57606e6055ce8dc8f761d350c", func := "sallyport/sallyportlaw10.DgramTurned", spec := "dgramTurned", apart := false, narrowed := true }
def DgramTurnedUptoSaid : Prop := dgramTurnedUptoRow.holds Try.pinned (OpenSpec.upto dgramTurnedSpec)

/-- 'sallyportlaw10.DgramNames', WHERE WHAT IT READS IS OF BULK AT MOST 1048576: true; the input reads as it did. -/
def dgramNamesUptoRow : OpenClaim := { program := "ytipdajgcepefgaa", sum := "b9acac268cb191908079e662cf66da495141aed57606e6055ce8dc8f761d350c", func := "sallyport/sallyportlaw10.DgramNames", spec := "dgramNames", apart := false, narrowed := true }
def DgramNamesUptoSaid : Prop := dgramNamesUptoRow.holds Try.pinned (OpenSpec.upto dgramNamesSpec)

/-- 'sallyportlaw09.SegBytes', WHERE WHAT IT READS IS OF BULK AT MOST 1048576: true; the input reads as it did. -/
def segBytesUptoRow : OpenClaim := { program := "ytipdajgcepefgaa", sum := "b9acac268cb191908079e662cf66da495141aed57606e6055ce8dc8f761d350c", func := "sallyport/sallyportlaw09.SegBytes", spec := "segBytes", apart := false, narrowed := true }
def SegBytesUptoSaid : Prop := segBytesUptoRow.holds Try.pinned (OpenSpec.upto segBytesSpec)

/-- 'sallyportlaw09.SegReads', WHERE WHAT IT READS IS OF BULK AT MOST 1048576: true; the input reads as it did. -/
def segReadsUptoRow : OpenClaim := { program := "ytipdajgcepefgaa", sum := "b9acac268cb191908079e662cf66da495141aed57606e6055ce8dc8f761d350c", func := "sallyport/sallyportlaw09.SegReads", spec := "segReads", apart := false, narrowed := true }
def SegReadsUptoSaid : Prop := segReadsUptoRow.holds Try.pinned (OpenSpec.upto segReadsSpec)

/-- 'sallyportlaw09.SegBack', WHERE WHAT IT READS IS OF BULK AT MOST 1048576: true; the input reads as it did. -/
def segBackUptoRow : OpenClaim := { program := "ytipdajgcepefgaa", sum := "b9acac268cb191908079e662cf66da495141aed57606e6055ce8dc8f761d350c", func := "sallyport/sallyportlaw09.SegBack", spec := "segBack", apart := false, narrowed := true }
def SegBackUptoSaid : Prop := segBackUptoRow.holds Try.pinned (OpenSpec.upto segBackSpec)

/-- 'sallyportlaw09.SegTurned', WHERE WHAT IT READS IS OF BULK AT MOST 1048576: true; the input reads as it did. -/
def segTurnedUptoRow : OpenClaim := { program := "ytipdajgcepefgaa", sum := "b9acac268cb191908079e662cf66da495141aed57606e6055ce8dc8f761d350c", func := "sallyport/sallyportlaw09.SegTurned", spec := "segTurned", apart := false, narrowed := true }
def SegTurnedUptoSaid : Prop := segTurnedUptoRow.holds Try.pinned (OpenSpec.upto segTurnedSpec)

/-- 'sallyportlaw09.SegNames', WHERE WHAT IT READS IS OF BULK AT MOST 1048576: true; the input reads as it did. -/
def segNamesUptoRow : OpenClaim := { program := "ytipdajgcepefgaa", sum := "b9acac268cb191908079e662cf66da495141aed57606e6055ce8dc8f761d350c", func := "sallyport/sallyportlaw09.SegNames", spec := "segNames", apart := false, narrowed := true }
def SegNamesUptoSaid : Prop := segNamesUptoRow.holds Try.pinned (OpenSpec.upto segNamesSpec)

end Rows
end Go.Proofs.Ytipdajgcepefgaa

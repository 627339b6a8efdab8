/-
  No cell of these rows narrows 'for every input' (looked for: loops, veiled, ifaces, maps, wideKeys, modest, calm, conditions, laid).
  DERIVED. THE GIVEN ROWS OF THIS SEAT. 10 by the template 'for every input the law returns true; each argument reads behind the call as it read before'; 0 by the template 'total and deterministic' (their statements: YtaklgacadjipjaaTotals.lean).
  GIVEN WITH THE SEED: the statements are not yours to turn. If you find one false, say at which input.
  Laid BY PROGRAM, IN A SANDBOX (cutbox-rows.mjs): the forced cells as the released guide's own fill.sh prints them over the translation 1d44bfbdb7d8726b… (all of the seat's roots in one cut). By AI agents, Wed Nov 11 2026. No macro, syntax, notation, axiom, sorry.
-/
import Derived.Test.YtaklgacadjipjaaChecked
import GoSem.Claim
import GoSem.ClaimJoined
import GoSem.ClaimMapViews
import Derived.JoinedTies
import Derived.KernelRfl
namespace Go.Proofs.Ytaklgacadjipjaa
/- THE CELL 'sum', in the pinned program and in every row, IS THE sha256 OF THE DUMP (.gsa) THAT YtaklgacadjipjaaProg.lean LOADS. Nothing in Lean hashes anything: it is a label: what it is worth is what the hold of that sum in a sandbox is worth. -/
noncomputable def Try.pinned : Pinned := { name := "ytaklgacadjipjaa", sum := "1d44bfbdb7d8726bd92feeb5ec2af4c8fa387bc65f93190cfc2920d87cbeacc4", checked := Try.checked }
namespace Rows
def none {H : Type} : Left H := { results := [], args := [] }

/-- 'sallyportlaw05.LinkBytes': WHATEVER THE INPUT: true; the input reads as it did. -/
def linkBytesSpec : ChangeSpec := { name := "linkBytes", fn := fun _ => fun
  | [d1, d2] => { results := [.lit (.bool true)], args := [d1, d2] }
  | _ => none }
def linkBytesRow : OpenClaim := { program := "ytaklgacadjipjaa", sum := "1d44bfbdb7d8726bd92feeb5ec2af4c8fa387bc65f93190cfc2920d87cbeacc4", func := "sallyport/sallyportlaw05.LinkBytes", spec := "linkBytes", apart := false }
def LinkBytesSaid : Prop := linkBytesRow.holds Try.pinned (OpenSpec.ofChange linkBytesSpec)

/-- ITS FALSE NEIGHBOUR: 'it returns false'. Refute it at one input. -/
def linkBytesWrong : ChangeSpec := { name := "linkBytes", fn := fun _ => fun
  | [d1, d2] => { results := [.lit (.bool false)], args := [d1, d2] }
  | _ => none }
def LinkBytesWrongFalsely : Prop := linkBytesRow.holds Try.pinned (OpenSpec.ofChange linkBytesWrong)

/-- 'sallyportlaw05.LinkReads': WHATEVER THE INPUT: true; the input reads as it did. -/
def linkReadsSpec : ChangeSpec := { name := "linkReads", fn := fun _ => fun
  | [d] => { results := [.lit (.bool true)], args := [d] }
  | _ => none }
def linkReadsRow : OpenClaim := { program := "ytaklgacadjipjaa", sum := "1d44bfbdb7d8726bd92feeb5ec2af4c8fa387bc65f93190cfc2920d87cbeacc4", func := "sallyport/sallyportlaw05.LinkReads", spec := "linkReads", apart := false }
def LinkReadsSaid : Prop := linkReadsRow.holds Try.pinned (OpenSpec.ofChange linkReadsSpec)

/-- ITS FALSE NEIGHBOUR: 'it returns false'. Refute it at one input. -/
def linkReadsWrong : ChangeSpec := { name := "linkReads", fn := fun _ => fun
  | [d] => { results := [.lit (.bool false)], args := [d] }
  | _ => none }
def LinkReadsWrongFalsely : Prop := linkReadsRow.holds Try.pinned (OpenSpec.ofChange linkReadsWrong)

/-- 'sallyportlaw05.LinkBack': WHATEVER THE INPUT: true; the input reads as it did. -/
def linkBackSpec : ChangeSpec := { name := "linkBack", fn := fun _ => fun
  | [d1, d2, d3] => { results := [.lit (.bool true)], args := [d1, d2, d3] }
  | _ => none }
def linkBackRow : OpenClaim := { program := "ytaklgacadjipjaa", sum := "1d44bfbdb7d8726bd92feeb5ec2af4c8fa387bc65f93190cfc2920d87cbeacc4", func := "sallyport/sallyportlaw05.LinkBack", spec := "linkBack", apart := false }
def LinkBackSaid : Prop := linkBackRow.holds Try.pinned (OpenSpec.ofChange linkBackSpec)

/-- ITS FALSE NEIGHBOUR: 'it returns false'. Refute it at one input. -/
def linkBackWrong : ChangeSpec := { name := "linkBack", fn := fun _ => fun
  | [d1, d2, d3] => { results := [.lit (.bool false)], args := [d1, d2, d3] }
  | _ => none }
def LinkBackWrongFalsely : Prop := linkBackRow.holds Try.pinned (OpenSpec.ofChange linkBackWrong)

/-- 'sallyportlaw05.LinkFirst': WHATEVER THE INPUT: true; the input reads as it did. -/
def linkFirstSpec : ChangeSpec := { name := "linkFirst", fn := fun _ => fun
  | [d1, d2] => { results := [.lit (.bool true)], args := [d1, d2] }
  | _ => none }
def linkFirstRow : OpenClaim := { program := "ytaklgacadjipjaa", sum := "1d44bfbdb7d8726bd92feeb5ec2af4c8fa387bc65f93190cfc2920d87cbeacc4", func := "sallyport/sallyportlaw05.LinkFirst", spec := "linkFirst", apart := false }
def LinkFirstSaid : Prop := linkFirstRow.holds Try.pinned (OpenSpec.ofChange linkFirstSpec)

/-- ITS FALSE NEIGHBOUR: 'it returns false'. Refute it at one input. -/
def linkFirstWrong : ChangeSpec := { name := "linkFirst", fn := fun _ => fun
  | [d1, d2] => { results := [.lit (.bool false)], args := [d1, d2] }
  | _ => none }
def LinkFirstWrongFalsely : Prop := linkFirstRow.holds Try.pinned (OpenSpec.ofChange linkFirstWrong)

/-- 'sallyportlaw05.LinkNames': WHATEVER THE INPUT: true; the input reads as it did. -/
def linkNamesSpec : ChangeSpec := { name := "linkNames", fn := fun _ => fun
  | [] => { results := [.lit (.bool true)], args := [] }
  | _ => none }
def linkNamesRow : OpenClaim := { program := "ytaklgacadjipjaa", sum := "1d44bfbdb7d8726bd92feeb5ec2af4c8fa387bc65f93190cfc2920d87cbeacc4", func := "sallyport/sallyportlaw05.LinkNames", spec := "linkNames", apart := false }
def LinkNamesSaid : Prop := linkNamesRow.holds Try.pinned (OpenSpec.ofChange linkNamesSpec)

/-- ITS FALSE NEIGHBOUR: 'it returns false'. Refute it at one input. -/
def linkNamesWrong : ChangeSpec := { name := "linkNames", fn := fun _ => fun
  | [] => { results := [.lit (.bool false)], args := [] }
  | _ => none }
def LinkNamesWrongFalsely : Prop := linkNamesRow.holds Try.pinned (OpenSpec.ofChange linkNamesWrong)

/-- 'sallyportlaw08.Net6Bytes': WHATEVER THE INPUT: true; the input reads as it did. -/
def net6BytesSpec : ChangeSpec := { name := "net6Bytes", fn := fun _ => fun
  | [d1, d2] => { results := [.lit (.bool true)], args := [d1, d2] }
  | _ => none }
def net6BytesRow : OpenClaim := { program := "ytaklgacadjipjaa", sum := "1d44bfbdb7d8726bd92feeb5ec2af4c8fa387bc65f93190cfc2920d87cbeacc4", func := "sallyport/sallyportlaw08.Net6Bytes", spec := "net6Bytes", apart := false }
def Net6BytesSaid : Prop := net6BytesRow.holds Try.pinned (OpenSpec.ofChange net6BytesSpec)

/-- ITS FALSE NEIGHBOUR: 'it returns false'. Refute it at one input. -/
def net6BytesWrong : ChangeSpec := { name := "net6Bytes", fn := fun _ => fun
  | [d1, d2] => { results := [.lit (.bool false)], args := [d1, d2] }
  | _ => none }
def Net6BytesWrongFalsely : Prop := net6BytesRow.holds Try.pinned (OpenSpec.ofChange net6BytesWrong)

/-- 'sallyportlaw08.Net6Reads': WHATEVER THE INPUT: true; the input reads as it did. -/
def net6ReadsSpec : ChangeSpec := { name := "net6Reads", fn := fun _ => fun
  | [d] => { results := [.lit (.bool true)], args := [d] }
  | _ => none }
def net6ReadsRow : OpenClaim := { program := "ytaklgacadjipjaa", sum := "1d44bfbdb7d8726bd92feeb5ec2af4c8fa387bc65f93190cfc2920d87cbeacc4", func := "sallyport/sallyportlaw08.Net6Reads", spec := "net6Reads", apart := false }
def Net6ReadsSaid : Prop := net6ReadsRow.holds Try.pinned (OpenSpec.ofChange net6ReadsSpec)

/-- ITS FALSE NEIGHBOUR: 'it returns false'. Refute it at one input. -/
def net6ReadsWrong : ChangeSpec := { name := "net6Reads", fn := fun _ => fun
  | [d] => { results := [.lit (.bool false)], args := [d] }
  | _ => none }
def Net6ReadsWrongFalsely : Prop := net6ReadsRow.holds Try.pinned (OpenSpec.ofChange net6ReadsWrong)

/-- 'sallyportlaw08.Net6Back': WHATEVER THE INPUT: true; the input reads as it did. -/
def net6BackSpec : ChangeSpec := { name := "net6Back", fn := fun _ => fun
  | [d1, d2, d3] => { results := [.lit (.bool true)], args := [d1, d2, d3] }
  | _ => none }
def net6BackRow : OpenClaim := { program := "ytaklgacadjipjaa", sum := "1d44bfbdb7d8726bd92feeb5ec2af4c8fa387bc65f93190cfc2920d87cbeacc4", func := "sallyport/sallyportlaw08.Net6Back", spec := "net6Back", apart := false }
def Net6BackSaid : Prop := net6BackRow.holds Try.pinned (OpenSpec.ofChange net6BackSpec)

/-- ITS FALSE NEIGHBOUR: 'it returns false'. Refute it at one input. -/
def net6BackWrong : ChangeSpec := { name := "net6Back", fn := fun _ => fun
  | [d1, d2, d3] => { results := [.lit (.bool false)], args := [d1, d2, d3] }
  | _ => none }
def Net6BackWrongFalsely : Prop := net6BackRow.holds Try.pinned (OpenSpec.ofChange net6BackWrong)

/-- 'sallyportlaw08.Net6First': WHATEVER THE INPUT: true; the input reads as it did. -/
def net6FirstSpec : ChangeSpec := { name := "net6First", fn := fun _ => fun
  | [d1, d2] => { results := [.lit (.bool true)], args := [d1, d2] }
  | _ => none }
def net6FirstRow : OpenClaim := { program := "ytaklgacadjipjaa", sum := "1d44bfbdb7d8726bd92feeb5ec2af4c8fa387bc65f93190cfc2920d87cbeacc4", func := "sallyport/sallyportlaw08.Net6First", spec := "net6First", apart := false }
def Net6FirstSaid : Prop := net6FirstRow.holds Try.pinned (OpenSpec.ofChange net6FirstSpec)

/-- ITS FALSE NEIGHBOUR: 'it returns false'. Refute it at one input. -/
def net6FirstWrong : ChangeSpec := { name := "net6First", fn := fun _ => fun
  | [d1, d2] => { results := [.lit (.bool false)], args := [d1, d2] }
  | _ => none }
def Net6FirstWrongFalsely : Prop := net6FirstRow.holds Try.pinned (OpenSpec.ofChange net6FirstWrong)

/-- 'sallyportlaw08.Net6Names': WHATEVER THE INPUT: true; the input reads as it did. -/
def net6NamesSpec : ChangeSpec := { name := "net6Names", fn := fun _ => fun
  | [] => { results := [.lit (.bool true)], args := [] }
  | _ => none }
def net6NamesRow : OpenClaim := { program := "ytaklgacadjipjaa", sum := "1d44bfbdb7d8726bd92feeb5ec2af4c8fa387bc65f93190cfc2920d87cbeacc4", func := "sallyport/sallyportlaw08.Net6Names", spec := "net6Names", apart := false }
def Net6NamesSaid : Prop := net6NamesRow.holds Try.pinned (OpenSpec.ofChange net6NamesSpec)

/-- ITS FALSE NEIGHBOUR: 'it returns false'. Refute it at one input. -/
def net6NamesWrong : ChangeSpec := { name := "net6Names", fn := fun _ => fun
  | [] => { results := [.lit (.bool false)], args := [] }
  | _ => none }
def Net6NamesWrongFalsely : Prop := net6NamesRow.holds Try.pinned (OpenSpec.ofChange net6NamesWrong)

/- THE SECOND FORM. 'bulk': how many values and letters a reading holds, each counted each time it is reached (what is shared counts as often as it is met; a slice's spare places count too). A statement '..UptoSaid' is the law's where the arguments, and the package variables that the reading takes, are together of bulk at most 1048576: NARROWER than '..Said'. Prove '..Said' where nothing that the law and all that it calls make is longer than what came in: it says more and counts as full. Else prove '..UptoSaid'. A law counts once. -/
mutual
def uptoBulk {H : Type} : DataW H → Nat
  | .lit (.string bytes) => bytes.length + 1
  | .lit _ => 1
  | .nil => 1
  | .ptr d => uptoBulk d + 1
  | .slice elems spare => uptoBulkAll elems + uptoBulkAll spare + 1
  | .agg parts => uptoBulkAll parts + 1
  | .iface _ d => uptoBulk d + 1
  | .map entries => uptoBulkEntries entries + 1
  | .held _ => 1
def uptoBulkAll {H : Type} : List (DataW H) → Nat
  | [] => 0
  | d :: r => uptoBulk d + uptoBulkAll r
def uptoBulkEntries {H : Type} : List (Lit × DataW H) → Nat
  | [] => 0
  | x :: r => uptoBulkEntry x + uptoBulkEntries r
def uptoBulkEntry {H : Type} : Lit × DataW H → Nat
  | (.string bytes, d) => bytes.length + uptoBulk d + 1
  | (_, d) => uptoBulk d + 1
 end
def uptoSmall : (H : Type) → List (DataW H) → Bool := fun _ ds => decide (uptoBulkAll ds ≤ 1048576)
def OpenSpec.upto (s : _root_.Go.ChangeSpec) : _root_.Go.OpenSpec := { _root_.Go.OpenSpec.ofChange s with cond := some uptoSmall }

/-- 'sallyportlaw05.LinkBytes', WHERE WHAT IT READS IS OF BULK AT MOST 1048576: true; the input reads as it did. -/
def linkBytesUptoRow : OpenClaim := { program := "ytaklgacadjipjaa", sum := "1d44bfbdb7d8726bd92feeb5ec2af4c8fa387bc65f93190cfc2920d87cbeacc4", func := "sallyport/sallyportlaw05.LinkBytes", spec := "linkBytes", apart := false, narrowed := true }
def LinkBytesUptoSaid : Prop := linkBytesUptoRow.holds Try.pinned (OpenSpec.upto linkBytesSpec)

/-- 'sallyportlaw05.LinkReads', WHERE WHAT IT READS IS OF BULK AT MOST 1048576: true; the input reads as it did. -/
def linkReadsUptoRow : OpenClaim := { program := "ytaklgacadjipjaa", sum := "1d44bfbdb7d8726bd92feeb5ec2af4c8fa387bc65f93190cfc2920d87cbeacc4", func := "sallyport/sallyportlaw05.LinkReads", spec := "linkReads", apart := false, narrowed := true }
def LinkReadsUptoSaid : Prop := linkReadsUptoRow.holds Try.pinned (OpenSpec.upto linkReadsSpec)

/-- 'sallyportlaw05.LinkBack', WHERE WHAT IT READS IS OF BULK AT MOST 1048576: true; the input reads as it did. -/
def linkBackUptoRow : OpenClaim := { program := "ytaklgacadjipjaa", sum := "1d44bfbdb7d8726bd92feeb5ec2af4c8fa387bc65f93190cfc2920d87cbeacc4", func := "sallyport/sallyportlaw05.LinkBack", spec := "linkBack", apart := false, narrowed := true }
def LinkBackUptoSaid : Prop := linkBackUptoRow.holds Try.pinned (OpenSpec.upto linkBackSpec)

/-- 'sallyportlaw05.LinkFirst', WHERE WHAT IT READS IS OF BULK AT MOST 1048576: true; the input reads as it did. -/
def linkFirstUptoRow : OpenClaim := { program := "ytaklgacadjipjaa", sum := "1d44bfbdb7d8726bd92feeb5ec2af4c8fa387bc65f93190cfc2920d87cbeacc4", func := "sallyport/sallyportlaw05.LinkFirst", spec := "linkFirst", apart := false, narrowed := true }
def LinkFirstUptoSaid : Prop := linkFirstUptoRow.holds Try.pinned (OpenSpec.upto linkFirstSpec)

/-- 'sallyportlaw05.LinkNames', WHERE WHAT IT READS IS OF BULK AT MOST 1048576: true; the input reads as it did. -/
def linkNamesUptoRow : OpenClaim := { program := "ytaklgacadjipjaa", sum := "1d44bfbdb7d8726bd92feeb5ec2af4c8fa387bc65f93190cfc2920d87cbeacc4", func := "sallyport/sallyportlaw05.LinkNames", spec := "linkNames", apart := false, narrowed := true }
def LinkNamesUptoSaid : Prop := linkNamesUptoRow.holds Try.pinned (OpenSpec.upto linkNamesSpec)

/-- 'sallyportlaw08.Net6Bytes', WHERE WHAT IT READS IS OF BULK AT MOST 1048576: true; the input reads as it did. -/
def net6BytesUptoRow : OpenClaim := { program := "ytaklgacadjipjaa", sum := "1d44bfbdb7d8726bd92feeb5ec2af4c8fa387bc65f93190cfc2920d87cbeacc4", func := "sallyport/sallyportlaw08.Net6Bytes", spec := "net6Bytes", apart := false, narrowed := true }
def Net6BytesUptoSaid : Prop := net6BytesUptoRow.holds Try.pinned (OpenSpec.upto net6BytesSpec)

/-- 'sallyportlaw08.Net6Reads', WHERE WHAT IT READS IS OF BULK AT MOST 1048576: true; the input reads as it did. -/
def net6ReadsUptoRow : OpenClaim := { program := "ytaklgacadjipjaa", sum := "1d44bfbdb7d8726bd92feeb5ec2af4c8fa387bc65f93190cfc2920d87cbeacc4", func := "sallyport/sallyportlaw08.Net6Reads", spec := "net6Reads", apart := false, narrowed := true }
def Net6ReadsUptoSaid : Prop := net6ReadsUptoRow.holds Try.pinned (OpenSpec.upto net6ReadsSpec)

/-- 'sallyportlaw08.Net6Back', WHERE WHAT IT READS IS OF BULK AT MOST 1048576: true; the input reads as it did. -/
def net6BackUptoRow : OpenClaim := { program := "ytaklgacadjipjaa", sum := "1d44bfbdb7d8726bd92feeb5ec2af4c8fa387bc65f93190cfc2920d87cbeacc4", func := "sallyport/sallyportlaw08.Net6Back", spec := "net6Back", apart := false, narrowed := true }
def Net6BackUptoSaid : Prop := net6BackUptoRow.holds Try.pinned (OpenSpec.upto net6BackSpec)

/-- 'sallyportlaw08.Net6First', WHERE WHAT IT READS IS OF BULK AT MOST 1048576: true; the input reads as it did. -/
def net6FirstUptoRow : OpenClaim := { program := "ytaklgacadjipjaa", sum := "1d44bfbdb7d8726bd92feeb5ec2af4c8fa387bc65f93190cfc2920d87cbeacc4", func := "sallyport/sallyportlaw08.Net6First", spec := "net6First", apart := false, narrowed := true }
def Net6FirstUptoSaid : Prop := net6FirstUptoRow.holds Try.pinned (OpenSpec.upto net6FirstSpec)

/-- 'sallyportlaw08.Net6Names', WHERE WHAT IT READS IS OF BULK AT MOST 1048576: true; the input reads as it did. -/
def net6NamesUptoRow : OpenClaim := { program := "ytaklgacadjipjaa", sum := "1d44bfbdb7d8726bd92feeb5ec2af4c8fa387bc65f93190cfc2920d87cbeacc4", func := "sallyport/sallyportlaw08.Net6Names", spec := "net6Names", apart := false, narrowed := true }
def Net6NamesUptoSaid : Prop := net6NamesUptoRow.holds Try.pinned (OpenSpec.upto net6NamesSpec)

end Rows
end Go.Proofs.Ytaklgacadjipjaa

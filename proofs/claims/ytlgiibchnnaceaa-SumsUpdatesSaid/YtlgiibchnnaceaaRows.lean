/-
  No cell of these rows narrows 'for every input' (looked for: loops, veiled, ifaces, maps, wideKeys, modest, calm, conditions, laid).
  DERIVED. THE GIVEN ROWS OF THIS SEAT. 12 by the template 'for every input the law returns true; each argument reads behind the call as it read before'; 0 by the template 'total and deterministic' (their statements: YtlgiibchnnaceaaTotals.lean).
  GIVEN WITH THE SEED: the statements are not yours to turn. If you find one false, say at which input.
  Laid BY PROGRAM, IN A SANDBOX (cutbox-rows.mjs): the forced cells as the released guide's own fill.sh prints them over the translation ab9672990d08a712… (all of the seat's roots in one cut). By AI agents, Wed Nov 11 2026. No macro, syntax, notation, axiom, sorry.
-/
import Derived.Test.YtlgiibchnnaceaaChecked
import GoSem.Claim
import GoSem.ClaimJoined
import GoSem.ClaimMapViews
import Derived.JoinedTies
import Derived.KernelRfl
namespace Go.Proofs.Ytlgiibchnnaceaa
/- THE CELL 'sum', in the pinned program and in every row, IS THE sha256 OF THE DUMP (.gsa) THAT YtlgiibchnnaceaaProg.lean LOADS. Nothing in Lean hashes anything: it is a label: what it is worth is what the hold of that sum in a sandbox is worth. -/
noncomputable def Try.pinned : Pinned := { name := "ytlgiibchnnaceaa", sum := "ab9672990d08a712a6b75280883ed8b87b4850b47f97dec6f1bc4c3910ab14bb", checked := Try.checked }
namespace Rows
def none {H : Type} : Left H := { results := [], args := [] }

/-- 'sallyportlaw01.SumsSums': WHATEVER THE INPUT: true; the input reads as it did. -/
def sumsSumsSpec : ChangeSpec := { name := "sumsSums", fn := fun _ => fun
  | [d] => { results := [.lit (.bool true)], args := [d] }
  | _ => none }
def sumsSumsRow : OpenClaim := { program := "ytlgiibchnnaceaa", sum := "ab9672990d08a712a6b75280883ed8b87b4850b47f97dec6f1bc4c3910ab14bb", func := "sallyport/sallyportlaw01.SumsSums", spec := "sumsSums", apart := false }
def SumsSumsSaid : Prop := sumsSumsRow.holds Try.pinned (OpenSpec.ofChange sumsSumsSpec)

/-- ITS FALSE NEIGHBOUR: 'it returns false'. Refute it at one input. -/
def sumsSumsWrong : ChangeSpec := { name := "sumsSums", fn := fun _ => fun
  | [d] => { results := [.lit (.bool false)], args := [d] }
  | _ => none }
def SumsSumsWrongFalsely : Prop := sumsSumsRow.holds Try.pinned (OpenSpec.ofChange sumsSumsWrong)

/-- 'sallyportlaw01.SumsAdds': WHATEVER THE INPUT: true; the input reads as it did. -/
def sumsAddsSpec : ChangeSpec := { name := "sumsAdds", fn := fun _ => fun
  | [d1, d2, d3] => { results := [.lit (.bool true)], args := [d1, d2, d3] }
  | _ => none }
def sumsAddsRow : OpenClaim := { program := "ytlgiibchnnaceaa", sum := "ab9672990d08a712a6b75280883ed8b87b4850b47f97dec6f1bc4c3910ab14bb", func := "sallyport/sallyportlaw01.SumsAdds", spec := "sumsAdds", apart := false }
def SumsAddsSaid : Prop := sumsAddsRow.holds Try.pinned (OpenSpec.ofChange sumsAddsSpec)

/-- ITS FALSE NEIGHBOUR: 'it returns false'. Refute it at one input. -/
def sumsAddsWrong : ChangeSpec := { name := "sumsAdds", fn := fun _ => fun
  | [d1, d2, d3] => { results := [.lit (.bool false)], args := [d1, d2, d3] }
  | _ => none }
def SumsAddsWrongFalsely : Prop := sumsAddsRow.holds Try.pinned (OpenSpec.ofChange sumsAddsWrong)

/-- 'sallyportlaw01.SumsDiffs': WHATEVER THE INPUT: true; the input reads as it did. -/
def sumsDiffsSpec : ChangeSpec := { name := "sumsDiffs", fn := fun _ => fun
  | [d1, d2] => { results := [.lit (.bool true)], args := [d1, d2] }
  | _ => none }
def sumsDiffsRow : OpenClaim := { program := "ytlgiibchnnaceaa", sum := "ab9672990d08a712a6b75280883ed8b87b4850b47f97dec6f1bc4c3910ab14bb", func := "sallyport/sallyportlaw01.SumsDiffs", spec := "sumsDiffs", apart := false }
def SumsDiffsSaid : Prop := sumsDiffsRow.holds Try.pinned (OpenSpec.ofChange sumsDiffsSpec)

/-- ITS FALSE NEIGHBOUR: 'it returns false'. Refute it at one input. -/
def sumsDiffsWrong : ChangeSpec := { name := "sumsDiffs", fn := fun _ => fun
  | [d1, d2] => { results := [.lit (.bool false)], args := [d1, d2] }
  | _ => none }
def SumsDiffsWrongFalsely : Prop := sumsDiffsRow.holds Try.pinned (OpenSpec.ofChange sumsDiffsWrong)

/-- 'sallyportlaw01.SumsPieces': WHATEVER THE INPUT: true; the input reads as it did. -/
def sumsPiecesSpec : ChangeSpec := { name := "sumsPieces", fn := fun _ => fun
  | [d1, d2] => { results := [.lit (.bool true)], args := [d1, d2] }
  | _ => none }
def sumsPiecesRow : OpenClaim := { program := "ytlgiibchnnaceaa", sum := "ab9672990d08a712a6b75280883ed8b87b4850b47f97dec6f1bc4c3910ab14bb", func := "sallyport/sallyportlaw01.SumsPieces", spec := "sumsPieces", apart := false }
def SumsPiecesSaid : Prop := sumsPiecesRow.holds Try.pinned (OpenSpec.ofChange sumsPiecesSpec)

/-- ITS FALSE NEIGHBOUR: 'it returns false'. Refute it at one input. -/
def sumsPiecesWrong : ChangeSpec := { name := "sumsPieces", fn := fun _ => fun
  | [d1, d2] => { results := [.lit (.bool false)], args := [d1, d2] }
  | _ => none }
def SumsPiecesWrongFalsely : Prop := sumsPiecesRow.holds Try.pinned (OpenSpec.ofChange sumsPiecesWrong)

/-- 'sallyportlaw01.SumsGroup': WHATEVER THE INPUT: true; the input reads as it did. -/
def sumsGroupSpec : ChangeSpec := { name := "sumsGroup", fn := fun _ => fun
  | [d1, d2, d3] => { results := [.lit (.bool true)], args := [d1, d2, d3] }
  | _ => none }
def sumsGroupRow : OpenClaim := { program := "ytlgiibchnnaceaa", sum := "ab9672990d08a712a6b75280883ed8b87b4850b47f97dec6f1bc4c3910ab14bb", func := "sallyport/sallyportlaw01.SumsGroup", spec := "sumsGroup", apart := false }
def SumsGroupSaid : Prop := sumsGroupRow.holds Try.pinned (OpenSpec.ofChange sumsGroupSpec)

/-- ITS FALSE NEIGHBOUR: 'it returns false'. Refute it at one input. -/
def sumsGroupWrong : ChangeSpec := { name := "sumsGroup", fn := fun _ => fun
  | [d1, d2, d3] => { results := [.lit (.bool false)], args := [d1, d2, d3] }
  | _ => none }
def SumsGroupWrongFalsely : Prop := sumsGroupRow.holds Try.pinned (OpenSpec.ofChange sumsGroupWrong)

/-- 'sallyportlaw01.SumsUpdates': WHATEVER THE INPUT: true; the input reads as it did. -/
def sumsUpdatesSpec : ChangeSpec := { name := "sumsUpdates", fn := fun _ => fun
  | [d1, d2, d3] => { results := [.lit (.bool true)], args := [d1, d2, d3] }
  | _ => none }
def sumsUpdatesRow : OpenClaim := { program := "ytlgiibchnnaceaa", sum := "ab9672990d08a712a6b75280883ed8b87b4850b47f97dec6f1bc4c3910ab14bb", func := "sallyport/sallyportlaw01.SumsUpdates", spec := "sumsUpdates", apart := false }
def SumsUpdatesSaid : Prop := sumsUpdatesRow.holds Try.pinned (OpenSpec.ofChange sumsUpdatesSpec)

/-- ITS FALSE NEIGHBOUR: 'it returns false'. Refute it at one input. -/
def sumsUpdatesWrong : ChangeSpec := { name := "sumsUpdates", fn := fun _ => fun
  | [d1, d2, d3] => { results := [.lit (.bool false)], args := [d1, d2, d3] }
  | _ => none }
def SumsUpdatesWrongFalsely : Prop := sumsUpdatesRow.holds Try.pinned (OpenSpec.ofChange sumsUpdatesWrong)

/-- 'sallyportlaw01.SumsNames': WHATEVER THE INPUT: true; the input reads as it did. -/
def sumsNamesSpec : ChangeSpec := { name := "sumsNames", fn := fun _ => fun
  | [] => { results := [.lit (.bool true)], args := [] }
  | _ => none }
def sumsNamesRow : OpenClaim := { program := "ytlgiibchnnaceaa", sum := "ab9672990d08a712a6b75280883ed8b87b4850b47f97dec6f1bc4c3910ab14bb", func := "sallyport/sallyportlaw01.SumsNames", spec := "sumsNames", apart := false }
def SumsNamesSaid : Prop := sumsNamesRow.holds Try.pinned (OpenSpec.ofChange sumsNamesSpec)

/-- ITS FALSE NEIGHBOUR: 'it returns false'. Refute it at one input. -/
def sumsNamesWrong : ChangeSpec := { name := "sumsNames", fn := fun _ => fun
  | [] => { results := [.lit (.bool false)], args := [] }
  | _ => none }
def SumsNamesWrongFalsely : Prop := sumsNamesRow.holds Try.pinned (OpenSpec.ofChange sumsNamesWrong)

/-- 'sallyportlaw06.TagBytes': WHATEVER THE INPUT: true; the input reads as it did. -/
def tagBytesSpec : ChangeSpec := { name := "tagBytes", fn := fun _ => fun
  | [d1, d2] => { results := [.lit (.bool true)], args := [d1, d2] }
  | _ => none }
def tagBytesRow : OpenClaim := { program := "ytlgiibchnnaceaa", sum := "ab9672990d08a712a6b75280883ed8b87b4850b47f97dec6f1bc4c3910ab14bb", func := "sallyport/sallyportlaw06.TagBytes", spec := "tagBytes", apart := false }
def TagBytesSaid : Prop := tagBytesRow.holds Try.pinned (OpenSpec.ofChange tagBytesSpec)

/-- ITS FALSE NEIGHBOUR: 'it returns false'. Refute it at one input. -/
def tagBytesWrong : ChangeSpec := { name := "tagBytes", fn := fun _ => fun
  | [d1, d2] => { results := [.lit (.bool false)], args := [d1, d2] }
  | _ => none }
def TagBytesWrongFalsely : Prop := tagBytesRow.holds Try.pinned (OpenSpec.ofChange tagBytesWrong)

/-- 'sallyportlaw06.TagReads': WHATEVER THE INPUT: true; the input reads as it did. -/
def tagReadsSpec : ChangeSpec := { name := "tagReads", fn := fun _ => fun
  | [d] => { results := [.lit (.bool true)], args := [d] }
  | _ => none }
def tagReadsRow : OpenClaim := { program := "ytlgiibchnnaceaa", sum := "ab9672990d08a712a6b75280883ed8b87b4850b47f97dec6f1bc4c3910ab14bb", func := "sallyport/sallyportlaw06.TagReads", spec := "tagReads", apart := false }
def TagReadsSaid : Prop := tagReadsRow.holds Try.pinned (OpenSpec.ofChange tagReadsSpec)

/-- ITS FALSE NEIGHBOUR: 'it returns false'. Refute it at one input. -/
def tagReadsWrong : ChangeSpec := { name := "tagReads", fn := fun _ => fun
  | [d] => { results := [.lit (.bool false)], args := [d] }
  | _ => none }
def TagReadsWrongFalsely : Prop := tagReadsRow.holds Try.pinned (OpenSpec.ofChange tagReadsWrong)

/-- 'sallyportlaw06.TagBack': WHATEVER THE INPUT: true; the input reads as it did. -/
def tagBackSpec : ChangeSpec := { name := "tagBack", fn := fun _ => fun
  | [d1, d2, d3] => { results := [.lit (.bool true)], args := [d1, d2, d3] }
  | _ => none }
def tagBackRow : OpenClaim := { program := "ytlgiibchnnaceaa", sum := "ab9672990d08a712a6b75280883ed8b87b4850b47f97dec6f1bc4c3910ab14bb", func := "sallyport/sallyportlaw06.TagBack", spec := "tagBack", apart := false }
def TagBackSaid : Prop := tagBackRow.holds Try.pinned (OpenSpec.ofChange tagBackSpec)

/-- ITS FALSE NEIGHBOUR: 'it returns false'. Refute it at one input. -/
def tagBackWrong : ChangeSpec := { name := "tagBack", fn := fun _ => fun
  | [d1, d2, d3] => { results := [.lit (.bool false)], args := [d1, d2, d3] }
  | _ => none }
def TagBackWrongFalsely : Prop := tagBackRow.holds Try.pinned (OpenSpec.ofChange tagBackWrong)

/-- 'sallyportlaw06.TagFirst': WHATEVER THE INPUT: true; the input reads as it did. -/
def tagFirstSpec : ChangeSpec := { name := "tagFirst", fn := fun _ => fun
  | [d1, d2] => { results := [.lit (.bool true)], args := [d1, d2] }
  | _ => none }
def tagFirstRow : OpenClaim := { program := "ytlgiibchnnaceaa", sum := "ab9672990d08a712a6b75280883ed8b87b4850b47f97dec6f1bc4c3910ab14bb", func := "sallyport/sallyportlaw06.TagFirst", spec := "tagFirst", apart := false }
def TagFirstSaid : Prop := tagFirstRow.holds Try.pinned (OpenSpec.ofChange tagFirstSpec)

/-- ITS FALSE NEIGHBOUR: 'it returns false'. Refute it at one input. -/
def tagFirstWrong : ChangeSpec := { name := "tagFirst", fn := fun _ => fun
  | [d1, d2] => { results := [.lit (.bool false)], args := [d1, d2] }
  | _ => none }
def TagFirstWrongFalsely : Prop := tagFirstRow.holds Try.pinned (OpenSpec.ofChange tagFirstWrong)

/-- 'sallyportlaw06.TagNames': WHATEVER THE INPUT: true; the input reads as it did. -/
def tagNamesSpec : ChangeSpec := { name := "tagNames", fn := fun _ => fun
  | [] => { results := [.lit (.bool true)], args := [] }
  | _ => none }
def tagNamesRow : OpenClaim := { program := "ytlgiibchnnaceaa", sum := "ab9672990d08a712a6b75280883ed8b87b4850b47f97dec6f1bc4c3910ab14bb", func := "sallyport/sallyportlaw06.TagNames", spec := "tagNames", apart := false }
def TagNamesSaid : Prop := tagNamesRow.holds Try.pinned (OpenSpec.ofChange tagNamesSpec)

/-- ITS FALSE NEIGHBOUR: 'it returns false'. Refute it at one input. -/
def tagNamesWrong : ChangeSpec := { name := "tagNames", fn := fun _ => fun
  | [] => { results := [.lit (.bool false)], args := [] }
  | _ => none }
def TagNamesWrongFalsely : Prop := tagNamesRow.holds Try.pinned (OpenSpec.ofChange tagNamesWrong)

/- THE SECOND FORM. 'bulk': how many values and letters a reading holds, each counted each time it is reached (what is shared counts as often as it is met; a slice's spare places count too). A statement '..UptoSaid' is the law's where the arguments, and the package variables that the reading takes, are together of bulk at most 1048576: NARROWER than '..Said'. Prove '..Said' where nothing that the law and all that it calls make is longer than what came in: it says more and counts as full. Else prove '..UptoSaid'. A law counts once. -/
mutual
def uptoBulk {H : Type} : DataW H → Nat
  | .lit (.string bytes) => bytes.length + 1
  | .lit _ => 1
  | .nil => 1
  | .ptr d => uptoBulk d + 1
  | .slice elems spare => uptoBulkAll elems + uptoBulkAll spare + 1
  | .agg parts => uptoBulkAll parts + 1
  | .iface _ d => uptoBulk d + 1
  | .map entries => uptoBulkEntries entries + 1
  | .held _ => 1
def uptoBulkAll {H : Type} : List (DataW H) → Nat
  | [] => 0
  | d :: r => uptoBulk d + uptoBulkAll r
def uptoBulkEntries {H : Type} : List (Lit × DataW H) → Nat
  | [] => 0
  | x :: r => uptoBulkEntry x + uptoBulkEntries r
def uptoBulkEntry {H : Type} : Lit × DataW H → Nat
  | (.string bytes, d) => bytes.length + uptoBulk d + 1
  | (_, d) => uptoBulk d + 1
 end
def uptoSmall : (H : Type) → List (DataW H) → Bool := fun _ ds => decide (uptoBulkAll ds ≤ 1048576)
def OpenSpec.upto (s : _root_.Go.ChangeSpec) : _root_.Go.OpenSpec := { _root_.Go.OpenSpec.ofChange s with cond := some uptoSmall }

/-- 'sallyportlaw01.SumsSums', WHERE WHAT IT READS IS OF BULK AT MOST 1048576: true; the input reads as it did. -/
def sumsSumsUptoRow : OpenClaim := { program := "ytlgiibchnnaceaa", sum := "ab9672990d08a712a6b75280883ed8b87b4850b47f97dec6f1bc4c3910ab14bb", func := "sallyport/sallyportlaw01.SumsSums", spec := "sumsSums", apart := false, narrowed := true }
def SumsSumsUptoSaid : Prop := sumsSumsUptoRow.holds Try.pinned (OpenSpec.upto sumsSumsSpec)

/-- 'sallyportlaw01.SumsAdds', WHERE WHAT IT READS IS OF BULK AT MOST 1048576: true; the input reads as it did. -/
def sumsAddsUptoRow : OpenClaim := { program := "ytlgiibchnnaceaa", sum := "ab9672990d08a712a6b75280883ed8b87b4850b47f97dec6f1bc4c3910ab14bb", func := "sallyport/sallyportlaw01.SumsAdds", spec := "sumsAdds", apart := false, narrowed := true }
def SumsAddsUptoSaid : Prop := sumsAddsUptoRow.holds Try.pinned (OpenSpec.upto sumsAddsSpec)

/-- 'sallyportlaw01.SumsDiffs', WHERE WHAT IT READS IS OF BULK AT MOST 1048576: true; the input reads as it did. -/
def sumsDiffsUptoRow : OpenClaim := { program := "ytlgiibchnnaceaa", sum := "ab9672990d08a712a6b75280883ed8b87b4850b47f97dec6f1bc4c3910ab14bb", func := "sallyport/sallyportlaw01.SumsDiffs", spec := "sumsDiffs", apart := false, narrowed := true }
def SumsDiffsUptoSaid : Prop := sumsDiffsUptoRow.holds Try.pinned (OpenSpec.upto sumsDiffsSpec)

/-- 'sallyportlaw01.SumsPieces', WHERE WHAT IT READS IS OF BULK AT MOST 1048576: true; the input reads as it did. -/
def sumsPiecesUptoRow : OpenClaim := { program := "ytlgiibchnnaceaa", sum := "ab9672990d08a712a6b75280883ed8b87b4850b47f97dec6f1bc4c3910ab14bb", func := "sallyport/sallyportlaw01.SumsPieces", spec := "sumsPieces", apart := false, narrowed := true }
def SumsPiecesUptoSaid : Prop := sumsPiecesUptoRow.holds Try.pinned (OpenSpec.upto sumsPiecesSpec)

/-- 'sallyportlaw01.SumsGroup', WHERE WHAT IT READS IS OF BULK AT MOST 1048576: true; the input reads as it did. -/
def sumsGroupUptoRow : OpenClaim := { program := "ytlgiibchnnaceaa", sum := "ab9672990d08a712a6b75280883ed8b87b4850b47f97dec6f1bc4c3910ab14bb", func := "sallyport/sallyportlaw01.SumsGroup", spec := "sumsGroup", apart := false, narrowed := true }
def SumsGroupUptoSaid : Prop := sumsGroupUptoRow.holds Try.pinned (OpenSpec.upto sumsGroupSpec)

/-- 'sallyportlaw01.SumsUpdates', WHERE WHAT IT READS IS OF BULK AT MOST 1048576: true; the input reads as it did. -/
def sumsUpdatesUptoRow : OpenClaim := { program := "ytlgiibchnnaceaa", sum := "ab9672990d08a712a6b75280883ed8b87b4850b47f97dec6f1bc4c3910ab14bb", func := "sallyport/sallyportlaw01.SumsUpdates", spec := "sumsUpdates", apart := false, narrowed := true }
def SumsUpdatesUptoSaid : Prop := sumsUpdatesUptoRow.holds Try.pinned (OpenSpec.upto sumsUpdatesSpec)

/-- 'sallyportlaw01.SumsNames', WHERE WHAT IT READS IS OF BULK AT MOST 1048576: true; the input reads as it did. -/
def sumsNamesUptoRow : OpenClaim := { program := "ytlgiibchnnaceaa", sum := "ab9672990d08a712a6b75280883ed8b87b4850b47f97dec6f1bc4c3910ab14bb", func := "sallyport/sallyportlaw01.SumsNames", spec := "sumsNames", apart := false, narrowed := true }
def SumsNamesUptoSaid : Prop := sumsNamesUptoRow.holds Try.pinned (OpenSpec.upto sumsNamesSpec)

/-- 'sallyportlaw06.TagBytes', WHERE WHAT IT READS IS OF BULK AT MOST 1048576: true; the input reads as it did. -/
def tagBytesUptoRow : OpenClaim := { program := "ytlgiibchnnaceaa", sum := "ab9672990d08a712a6b75280883ed8b87b4850b47f97dec6f1bc4c3910ab14bb", func := "sallyport/sallyportlaw06.TagBytes", spec := "tagBytes", apart := false, narrowed := true }
def TagBytesUptoSaid : Prop := tagBytesUptoRow.holds Try.pinned (OpenSpec.upto tagBytesSpec)

/-- 'sallyportlaw06.TagReads', WHERE WHAT IT READS IS OF BULK AT MOST 1048576: true; the input reads as it did. -/
def tagReadsUptoRow : OpenClaim := { program := "ytlgiibchnnaceaa", sum := "ab9672990d08a712a6b75280883ed8b87b4850b47f97dec6f1bc4c3910ab14bb", func := "sallyport/sallyportlaw06.TagReads", spec := "tagReads", apart := false, narrowed := true }
def TagReadsUptoSaid : Prop := tagReadsUptoRow.holds Try.pinned (OpenSpec.upto tagReadsSpec)

/-- 'sallyportlaw06.TagBack', WHERE WHAT IT READS IS OF BULK AT MOST 1048576: true; the input reads as it did. -/
def tagBackUptoRow : OpenClaim := { program := "ytlgiibchnnaceaa", sum := "ab9672990d08a712a6b75280883ed8b87b4850b47f97dec6f1bc4c3910ab14bb", func := "sallyport/sallyportlaw06.TagBack", spec := "tagBack", apart := false, narrowed := true }
def TagBackUptoSaid : Prop := tagBackUptoRow.holds Try.pinned (OpenSpec.upto tagBackSpec)

/-- 'sallyportlaw06.TagFirst', WHERE WHAT IT READS IS OF BULK AT MOST 1048576: true; the input reads as it did. -/
def tagFirstUptoRow : OpenClaim := { program := "ytlgiibchnnaceaa", sum := "ab9672990d08a712a6b75280883ed8b87b4850b47f97dec6f1bc4c3910ab14bb", func := "sallyport/sallyportlaw06.TagFirst", spec := "tagFirst", apart := false, narrowed := true }
def TagFirstUptoSaid : Prop := tagFirstUptoRow.holds Try.pinned (OpenSpec.upto tagFirstSpec)

/-- 'sallyportlaw06.TagNames', WHERE WHAT IT READS IS OF BULK AT MOST 1048576: true; the input reads as it did. -/
def tagNamesUptoRow : OpenClaim := { program := "ytlgiibchnnaceaa", sum := "ab9672990d08a712a6b75280883ed8b87b4850b47f97dec6f1bc4c3910ab14bb", func := "sallyport/sallyportlaw06.TagNames", spec := "tagNames", apart := false, narrowed := true }
def TagNamesUptoSaid : Prop := tagNamesUptoRow.holds Try.pinned (OpenSpec.upto tagNamesSpec)

end Rows
end Go.Proofs.Ytlgiibchnnaceaa

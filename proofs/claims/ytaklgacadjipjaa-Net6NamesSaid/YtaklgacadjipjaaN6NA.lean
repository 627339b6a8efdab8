/- Sx laws of layer 8, the closed one: contracts of the others. Conditions: none. -/
import Derived.Test.YtaklgacadjipjaaN6A
set_option linter.unusedVariables false
namespace Go.Proofs.Ytaklgacadjipjaa.Sx
open Go
def annsN : Anns := fun f i S => .unroll 60
def tN6Names : Tmpl := ⟨[], [], 0, truth 1000000000⟩
def consN : List (Nat × Con) := (9, tN6Reads.con) :: (8, tN6Bytes.con) :: (10, tN6Back.con) :: (32, tTrue.con) :: consEq
end Go.Proofs.Ytaklgacadjipjaa.Sx

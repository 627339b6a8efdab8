/- Sx laws of layer 8: contracts, and how loops are told. Conditions: none. -/
import Derived.Test.YtaklgacadjipjaaCom
set_option linter.unusedVariables false
namespace Go.Proofs.Ytaklgacadjipjaa.Sx
open Go
def anns : Anns := fun f i S => match f, i with
  | 20, 4 => .inv 0 ⟨[(5, .c (.i .i64 (.var S.nv)))], [], [], 1, [(.c2 .le (.num 0) (.var S.nv), true)]⟩
  | 8, 8 => turnAll 0 12 6 S
  | 11, 8 => turnAll 0 8 7 S
  | _, _ => .unroll 40
def consEq : List (Nat × Con) := [(20, tEq.con)]
def k6 : List IntKind := [.u8, .u32, .u8, .u8] ++ copiesK 32 .u8
def hdr6 (b : Nat) : V := .w (.g (cellsV b k6))
def tN6Bytes : Tmpl := ⟨[hdr6 0, slc 0 36], [(0, rowB 36)], 37, inKs 0 k6 (short 36 (bytes 36 (truth 10000)))⟩
def tN6Reads : Tmpl := ⟨[slc 0 0], [(0, rowB 0)], 1, short 0 (bytes 0 (truth 10000))⟩
def tN6Back : Tmpl := ⟨[hdr6 0, slc 0 36, slc 1 37], [(0, rowB 36), (1, rowB 37)], 38, inKs 0 k6 (short 36 (bytes 36 (short 37 (bytes 37 (truth 10000)))))⟩
def tN6First : Tmpl := ⟨[slc 0 0, .c (.i .u8 (.var 1))], [(0, rowB 0)], 2, short 0 (bytes 0 (inR 1 0 255 (truth 10000)))⟩
def tTrue : Tmpl := ⟨[], [], 0, truth 100⟩
end Go.Proofs.Ytaklgacadjipjaa.Sx

/- Sx laws of sums: how loops are told, contracts' patterns. Conditions: none. -/
import Derived.Test.YtlgiibchnnaceaaCom
set_option linter.unusedVariables false
namespace Go.Proofs.Ytlgiibchnnaceaa.Sx
open Go
/-- What a sum is, of bytes (symbol 1) and of a number (symbol 2). -/
def sumT (l : T) : T := .wr .u16 (.fn 1 l .nil .nil)
def ocsT (x : T) : T := .wr .u16 (.fn 2 x .nil .nil)
def annsSm : Anns := fun f i S => match f, i with
  | 45, 1 => .inv 0 ⟨[(0, .c (.i .u64 (.var S.nv)))], [], [], 1, [(.c2 .le (.num 0) (.var S.nv), true), (.c2 .le (.var S.nv) (.num 18446744073709551615), true)]⟩
  | 16, 3 => .inv 0 ⟨[(3, .c (.i .u64 (.var S.nv))), (8, .c (.i .i64 (.var (S.nv + 1))))], [], [], 2, [(.c2 .le (.num 0) (.var S.nv), true), (.c2 .le (.var S.nv) (.num 10000000000000000000), true), (.c2 .le (.num 0) (.var (S.nv + 1)), true)]⟩
  | 17, 3 => .inv 0 ⟨[(3, .c (.i .i64 (.var S.nv))), (4, .c (.i .i64 (.var (S.nv + 1))))], [], [], 2, [(.c2 .le (.num 0) (.var S.nv), true), (.c2 .le (.var S.nv) (.num 65535), true), (.c2 .le (.num 0) (.var (S.nv + 1)), true)]⟩
  | _, _ => .unroll 40
def tFold : Tmpl := ⟨[.c (.i .u64 (.var 0))], [], 1, inR 0 0 18446744073709551615 (.ret ⟨.c (.i .u16 (ocsT (.var 0))), [], 0⟩)⟩
def tSum : Tmpl := ⟨[slc 0 0], [(0, rowB 0)], 1, short 0 (bytes 0 (.ret ⟨.c (.i .u16 (sumT (.var 0))), [], 1⟩))⟩
def consFold : List (Nat × Con) := [(45, tFold.con)]
end Go.Proofs.Ytlgiibchnnaceaa.Sx

/- Sx laws of sums: patterns of the statement on updates. Conditions: none. -/
import Derived.Test.YtlgiibchnnaceaaSmA
set_option linter.unusedVariables false
namespace Go.Proofs.Ytlgiibchnnaceaa.Sx
open Go
def annsSu : Anns := fun _ _ _ => .unroll 40
def k2 : List IntKind := [.i64, .i64]
def tTrue : Tmpl := ⟨[], [], 0, truth 100⟩
/-- A number brought into 0 to n - 1 (symbol 3). -/
def brT (x y : T) : T := .fn 3 x y .nil
def tBring : Tmpl := ⟨[.c (.i .i64 (.var 0)), .c (.i .i64 (.var 1))], [], 2, inR 0 (-9223372036854775808) 9223372036854775807 (inR 1 1 4611686018427387904 (.chk (.c2 .le (.num 0) (brT (.var 0) (.var 1))) (.chk (.c2 .lt (brT (.var 0) (.var 1)) (.var 1)) (.ret ⟨.c (.i .i64 (brT (.var 0) (.var 1))), [], 0⟩))))⟩
/-- Are two sums the same (symbol 4)? -/
def tSame : Tmpl := ⟨[.c (.i .u16 (.var 0)), .c (.i .u16 (.var 1))], [], 2, inR 0 0 65535 (inR 1 0 65535 (.ret ⟨.c (.b (.fn 4 (.var 0) (.var 1) .nil)), [], 0⟩))⟩
/-- A field's update (symbol 5). -/
def tUpdate : Tmpl := ⟨[.c (.i .u16 (.var 0)), .c (.i .u16 (.var 1)), .c (.i .u16 (.var 2))], [], 3, inR 0 0 65535 (inR 1 0 65535 (inR 2 0 65535 (.ret ⟨.c (.i .u16 (.wr .u16 (.fn 5 (.var 0) (.var 1) (.var 2)))), [], 0⟩)))⟩
def consSu0 : List (Nat × Con) := [(16, tSum.con), (45, tFold.con)]
def consSu : List (Nat × Con) := (26, tSame.con) :: (28, tUpdate.con) :: (33, tBring.con) :: consSu0
def consSu2 : List (Nat × Con) := (21, tTrue.con) :: consSu
def tSu : Tmpl := ⟨[slc 0 0, .w (.g (cellsV 1 k2)), .c (.i .u16 (.var 3))], [(0, rowB 0)], 4, short 0 (bytes 0 (inKs 1 k2 (inR 3 0 65535 (truth 10000))))⟩
end Go.Proofs.Ytlgiibchnnaceaa.Sx

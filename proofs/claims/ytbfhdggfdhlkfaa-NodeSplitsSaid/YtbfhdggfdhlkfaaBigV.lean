/- Append and Uint of package bigend where the outcome is known. -/
import Derived.Test.YtbfhdggfdhlkfaaBig2
import Derived.Test.YtbfhdggfdhlkfaaBigVal
namespace Go.Proofs.Ytbfhdggfdhlkfaa
set_option linter.unusedVariables false
set_option linter.unusedSimpArgs false
open Go Go.RowKit
set_option maxRecDepth 100000
theorem append_v (a : Option Addr) (n cap : Nat) (l u : List UInt8) (x e : Nat) (wd : Int) (w : World) (hl : l.length = n) (hn : n ≤ 140737488355000) (hx : x < 18446744073709551616) (hr : CellsAt w a (bs l)) (h : Big.appended l x wd = (e, u)) :
    Calls Try.prog 33 #[.slice a n cap, .int .u64 (x : Int), .int .i64 wd] w (Gives (NewRow (fun s => .tuple #[s, .int .i64 (e : Int)]) 5 1 u.length (bs u)) w) := by
  have := append_c a n cap l x wd w hl hn hx hr
  rw [Appended, h] at this
  exact this
theorem uint_v (a : Option Addr) (n cap : Nat) (l : List UInt8) (at_ wd : Int) (p : Nat × Nat) (w : World) (hl : l.length = n) (hn : n ≤ 140737488355000) (hat : -9223372036854775808 ≤ at_ ∧ at_ ≤ 9223372036854775807) (hr : CellsAt w a (bs l)) (h : Big.uintAt l at_ wd = p) :
    Calls Try.prog 65 #[.slice a n cap, .int .i64 at_, .int .i64 wd] w (Gives (Val (two p)) w) := h ▸ uint_c a n cap l at_ wd w hl hn hat hr
end Go.Proofs.Ytbfhdggfdhlkfaa

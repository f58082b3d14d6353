/- Turns: what is done to a bank, by numbers. -/
import Derived.Test.YtjijjohhmokmmaaStp
namespace Go.Proofs.Ytjijjohhmokmmaa
set_option linter.unusedVariables false
set_option linter.unusedSimpArgs false
open Go Go.RowKit
structure Turn where
  k : UInt8
  s : UInt8
  n : UInt8
  m : UInt8
def Turn.cs (t : Turn) : List Value := [bv t.k, bv t.s, bv t.n, bv t.m]
theorem Turn.len (t : Turn) : t.cs.length = 4 := rfl
end Go.Proofs.Ytjijjohhmokmmaa

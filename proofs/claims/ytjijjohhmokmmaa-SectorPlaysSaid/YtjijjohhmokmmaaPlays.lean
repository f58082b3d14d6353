/- A bank, step by step. -/
import Derived.Test.YtjijjohhmokmmaaPlNo
import Derived.Test.YtjijjohhmokmmaaPlYs
namespace Go.Proofs.Ytjijjohhmokmmaa
set_option linter.unusedVariables false
set_option linter.unusedSimpArgs false
open Go Go.RowKit
set_option maxRecDepth 100000
set_option maxHeartbeats 8000000
theorem lplays_c (z : Int) (a : Option Addr) (m cap : Nat) (L : List Step) (w : World) (hl : L.length = m) (hm : m ≤ 9223372036854775807) (hr : CellsAt w a (L.flatMap Step.cs)) (hok : ∀ s ∈ L, s.Ok w) : Calls Try.prog 8 #[.int .i64 z, .slice a m cap] w (Gives (Val (.bool true)) w) := by
  by_cases hf : fewOk L 40
  · by_cases h1 : z < 1 ∨ 4096 < z
    · exact lplays_no z a m cap L w hl hm hr hok hf h1
    · by_cases h2 : 12 < z
      · exact lplays_many z a m cap L w hl hm hr hok hf h2 (by omega)
      · obtain ⟨n, rfl⟩ := Int.eq_ofNat_of_zero_le (show 0 ≤ z by omega)
        exact lplays_yes n a m cap L w hl hm hr hok hf (by omega) (by omega)
  · exact lplays_few z a m cap L w hl hm hr hok hf
end Go.Proofs.Ytjijjohhmokmmaa

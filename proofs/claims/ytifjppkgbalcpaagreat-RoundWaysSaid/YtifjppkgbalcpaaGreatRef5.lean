/- The document's own answers of layers 1 and 5: Clean, Has, Up, Other; of layer 7: in. -/
import Derived.Test.YtifjppkgbalcpaaGreatRef3r
namespace Go.Proofs.YtifjppkgbalcpaaGreat
set_option linter.unusedSimpArgs false
set_option linter.unusedVariables false
open Go.RowKit

theorem tmod_bound (f : Int) : -65536 < f.tmod 65536 ∧ f.tmod 65536 < 65536 ∧ (f.tmod 65536 + 65536) % 65536 = f % 65536 := by
  rw [Int.tmod_eq_emod]
  split <;> simp <;> omega
attribute [local go_sem ↓] Go.wp_at_zero Go.wp_at_succ
end Go.Proofs.YtifjppkgbalcpaaGreat

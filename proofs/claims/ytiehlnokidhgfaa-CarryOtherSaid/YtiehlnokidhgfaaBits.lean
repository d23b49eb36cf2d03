/- The walks of package bits: whether a link is in a set. -/
import Derived.Test.YtiehlnokidhgfaaBase
namespace Go.Proofs.Ytiehlnokidhgfaa
set_option linter.unusedSimpArgs false
set_option linter.unusedVariables false
open Go.RowKit

/-- Is link i in the set f? -/
def hasB (f i : Int) : Bool := decide (0 ≤ i ∧ i < 16) && decide (f / 2 ^ i.toNat % 2 = 1)

end Go.Proofs.Ytiehlnokidhgfaa

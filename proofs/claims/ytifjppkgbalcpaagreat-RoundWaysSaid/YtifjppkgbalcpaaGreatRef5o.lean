/- The document's own answers of layer 5: Up, Other. -/
import Derived.Test.YtifjppkgbalcpaaGreatRef5
namespace Go.Proofs.YtifjppkgbalcpaaGreat
set_option linter.unusedSimpArgs false
set_option linter.unusedVariables false
open Go.RowKit

def upB (p : Net) (f i : Int) : Bool := decide (0 ≤ i) && (decide (i < p.links.length) && !hasB f i)
end Go.Proofs.YtifjppkgbalcpaaGreat

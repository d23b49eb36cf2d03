/- From the rows' condition to the table of powers of ten. No program is walked here. -/
import Derived.Test.YtidmpfenkgihjaaDoorAttrP
import Derived.Lib.LaidTab
import Derived.Stop.LaidErr
namespace Go.Proofs.YtidmpfenkgihjaaDoor
set_option linter.unusedSimpArgs false
set_option linter.unusedVariables false
open Go.RowKit

theorem Tryd.pow_type : (Tryd.prog.globals[1]?).map (·.type) = some 164 := by kernel_rfl
theorem Tryd.pow_named : Tryd.prog.globalNamed "internal/strconv.uint64pow10" = some 1 := by kernel_rfl
theorem Tryd.pow_cells : Tryd.prog.cellsOf 164 = 20 := by kernel_rfl
theorem Tryd.u64_cells : Tryd.prog.cellsOf 141 = 1 := by kernel_rfl
theorem tab_of {W : World} (h : laidMet Tryd.prog [("math/bits.deBruijn32tab", Rows.laid_math_bits_deBruijn32tab), ("math/bits.deBruijn64tab", Rows.laid_math_bits_deBruijn64tab), ("internal/strconv.uint64pow10", Rows.laid_internal_strconv_uint64pow10)] W) : Tab W :=
  Lib.tabIs_of_head (rest := []) Tryd.pow_named Tryd.pow_type Tryd.underlying164 Tryd.underlying141 Tryd.u64_cells Tryd.pow_cells h.tail.tail
end Go.Proofs.YtidmpfenkgihjaaDoor

/- The walks of package attr: which of two routes is better. -/
import Derived.Test.YtiehlnokidhgfaaRt
import Derived.StillTailTactics
namespace Go.Proofs.Ytiehlnokidhgfaa
set_option linter.unusedSimpArgs false
set_option linter.unusedVariables false
open Go.RowKit

theorem isnan_any (x : Int) (w : World) : Calls Try.prog 93 #[.int .i64 x] w fun e w' => e = .returned (.bool false) ∧ w = w' := by
  go_enter Try.func93, Try.ntmps93
  go_wp2
  go_ret
  exact ⟨rfl, rfl⟩
theorem still_of {P : Program} {f : FuncId} {args : Array Value} {w : World} {v : Value} (h : Calls P f args w fun e w' => e = .returned v ∧ w = w') : Calls P f args w (fun e w'' => e = .returned v ∧ w'' = w) :=
  h.mono fun _ _ h => ⟨h.1, h.2.symm⟩
end Go.Proofs.Ytiehlnokidhgfaa

/- What the walks of layer 10's statements share. -/
import Derived.Test.YtakolnmoieiicaaGreatAwake10
import Derived.Test.YtakolnmoieiicaaGreatRoundV
import Derived.Test.YtakolnmoieiicaaGreatCarryH
import Derived.Test.YtakolnmoieiicaaGreatNetB
namespace Go.Proofs.YtakolnmoieiicaaGreat
set_option linter.unusedSimpArgs false
set_option linter.unusedVariables false
open Go.RowKit

theorem pick10_any (c n : Int) (w : World) (hc : In64 c) (hn : 0 < n) (hn2 : n < 10000000000) : Calls Tryz.prog 9 #[.int .i64 c, .int .i64 n] w fun e w' => e = .returned (.int .i64 (pickV c n)) ∧ w = w' := by
  obtain ⟨h1, h2⟩ := hc
  have hn0 : n ≠ 0 := by omega
  by_cases h : c < 0
  · have HN := Lib.hid (show pickV c n = Int.tmod (-(c + 1)) n from by unfold pickV; rw [if_pos h, Int.tmod_eq_emod_of_nonneg (by omega)])
    go_enter Tryz.func9, Tryz.ntmps9
    go_wp2
    go_ret
    exact ⟨ret_int (by rw [HN.out, Int.neg_tmod]), rfl⟩
  · have HN := Lib.hid (show pickV c n = c % n from by unfold pickV; rw [if_neg h])
    go_enter Tryz.func9, Tryz.ntmps9
    go_wp2
    go_ret
    exact ⟨ret_int (by rw [HN.out]), rfl⟩
/-- Solve with a budget that is enough. -/
theorem solve_ok {p : Net} {f b : Int} {R : Nat} {w : World} {e : Ending} {w' : World} (h : SolvePost p f 0 b R w e w') (hb : (R : Int) + 1 ≤ b) : ∃ (Z : List RtZ) (A : Option Addr) (c : Nat), e = .returned (.tuple #[.slice A Z.length c, .int .i64 R, .int .i64 0]) ∧ Z.map (·.1) = stL p (runF p f 0 R) ∧ LW w w' Z A c := by
  rcases h with ⟨-, h⟩ | ⟨h, -⟩
  · exact h
  · omega
theorem solve_bad {p : Net} {f b : Int} {R : Nat} {w : World} {e : Ending} {w' : World} (h : SolvePost p f 0 b R w e w') (hb : b < (R : Int) + 1) : e = .returned (.tuple #[.slice none 0 0, .int .i64 0, .int .i64 70]) ∧ Below w.heap.size w w' := by
  rcases h with ⟨h, -⟩ | ⟨-, h⟩
  · omega
  · exact h
end Go.Proofs.YtakolnmoieiicaaGreat

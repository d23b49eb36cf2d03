/- The walks of package bits: whether a link is in a set. -/
import Derived.Test.YtablbagdnmbbfaaGreatBase
namespace Go.Proofs.YtablbagdnmbbfaaGreat
set_option linter.unusedSimpArgs false
set_option linter.unusedVariables false
open Go.RowKit

/-- Is link i in the set f? -/
def hasB (f i : Int) : Bool := decide (0 ≤ i ∧ i < 16) && decide (f / 2 ^ i.toNat % 2 = 1)

theorem isLink_any (n : Int) (w : World) : Calls Tryz.prog 108 #[.int .i64 n] w fun e w' => e = .returned (.bool (decide (0 ≤ n ∧ n < 16))) ∧ w = w' := by
  go_enter Tryz.func108, Tryz.ntmps108
  go_wp2
  all_goals go_ret
  · have h : (0 : Int) ≤ n := by assumption
    exact ⟨ret_bool (by simp [h]), rfl⟩
  · have h : n < 0 := by assumption
    exact ⟨ret_bool (by simp; omega), rfl⟩

theorem has_any (f n : Int) (w : World) : Calls Tryz.prog 83 #[.int .i64 f, .int .i64 n] w fun e w' => e = .returned (.bool (hasB f n)) ∧ w = w' := by
  by_cases h : 0 ≤ n ∧ n < 16
  · have hb : decide (0 ≤ n ∧ n < 16) = true := by simpa using h
    obtain ⟨h0, h1⟩ := h
    go_enter Tryz.func83, Tryz.ntmps83
    go_wp2_with (go_at_call 108; refine (isLink_any _ _).mono ?_; rintro e w' ⟨rfl, rfl⟩)
    all_goals go_ret
    exact ⟨ret_bool (by simp [hasB, h0, h1, and_one]; rfl), rfl⟩
  · have hb : decide (0 ≤ n ∧ n < 16) = false := by simpa using h
    go_enter Tryz.func83, Tryz.ntmps83
    go_wp2_with (go_at_call 108; refine (isLink_any _ _).mono ?_; rintro e w' ⟨rfl, rfl⟩)
    all_goals go_ret
    exact ⟨ret_bool (by simp only [hasB, hb]; rfl), rfl⟩
end Go.Proofs.YtablbagdnmbbfaaGreat

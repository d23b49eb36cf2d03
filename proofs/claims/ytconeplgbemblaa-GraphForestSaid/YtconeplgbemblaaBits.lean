/- The walks of package bits: whether a link is in a set. -/
import Derived.Test.YtconeplgbemblaaBase
namespace Go.Proofs.Ytconeplgbemblaa
set_option linter.unusedSimpArgs false
set_option linter.unusedVariables false
open Go.RowKit

/-- Is link i in the set f? -/
def hasB (f i : Int) : Bool := decide (0 ≤ i ∧ i < 16) && decide (f / 2 ^ i.toNat % 2 = 1)

theorem isLink_any (n : Int) (w : World) : Calls Try.prog 34 #[.int .i64 n] w fun e w' => e = .returned (.bool (decide (0 ≤ n ∧ n < 16))) ∧ w = w' := by
  go_enter Try.func34, Try.ntmps34
  go_wp2
  all_goals go_ret
  · have h : (0 : Int) ≤ n := by assumption
    exact ⟨ret_bool (by simp [h]), rfl⟩
  · have h : n < 0 := by assumption
    exact ⟨ret_bool (by simp; omega), rfl⟩

theorem has_any (f n : Int) (w : World) : Calls Try.prog 24 #[.int .i64 f, .int .i64 n] w fun e w' => e = .returned (.bool (hasB f n)) ∧ w = w' := by
  by_cases h : 0 ≤ n ∧ n < 16
  · have hb : decide (0 ≤ n ∧ n < 16) = true := by simpa using h
    obtain ⟨h0, h1⟩ := h
    go_enter Try.func24, Try.ntmps24
    go_wp2_with (go_at_call 34; refine (isLink_any _ _).mono ?_; rintro e w' ⟨rfl, rfl⟩)
    all_goals go_ret
    exact ⟨ret_bool (by simp [hasB, h0, h1, and_one]; rfl), rfl⟩
  · have hb : decide (0 ≤ n ∧ n < 16) = false := by simpa using h
    go_enter Try.func24, Try.ntmps24
    go_wp2_with (go_at_call 34; refine (isLink_any _ _).mono ?_; rintro e w' ⟨rfl, rfl⟩)
    all_goals go_ret
    exact ⟨ret_bool (by simp only [hasB, hb]; rfl), rfl⟩
end Go.Proofs.Ytconeplgbemblaa

/- Sets of at most nine links as numbers: what is found bit by bit. No program is walked here. -/
import Derived.Test.YtidmpfenkgihjaaDoorFrom
import Derived.Lib.TrailingZeros
namespace Go.Proofs.YtidmpfenkgihjaaDoor
set_option linter.unusedSimpArgs false
set_option linter.unusedVariables false
open Go.RowKit

/-- The bits of a number below 512, rising. -/
def posL (x : Nat) : List Nat := (List.range 9).filter fun i => x / 2 ^ i % 2 == 1
/-- The lowest one. -/
def lowN (x : Nat) : Nat := (posL x).headD 16
/-- .. taken away. -/
def nxtN (x : Nat) : Nat := x &&& (x - 1)
def lowBit (x : Nat) : Nat := 2 ^ lowN x
theorem bit_facts : ∀ x, x < 512 → x ≠ 0 → posL x = lowN x :: posL (nxtN x) ∧ nxtN x < x ∧ lowN x < 9 ∧ bits BinOp.and IntKind.u16 (x : Int) (IntKind.u16.wrap ((x : Int) - 1)) = (nxtN x : Int) ∧
    bits BinOp.and IntKind.u16 (x : Int) (IntKind.u16.wrap (-(x : Int))) = (lowBit x : Int) := by decide +kernel
theorem posL_zero : posL 0 = [] := by decide
theorem posL_len : ∀ x, x < 512 → (posL x).length ≤ 9 := by decide +kernel
/-- How many are behind. -/
theorem posL_has (x : Nat) (hx : x < 512) (i : Nat) : i ∈ posL x ↔ hasB (x : Int) i = true := by
  unfold posL hasB
  rw [List.mem_filter, List.mem_range]
  simp only [beq_iff_eq, Bool.and_eq_true, decide_eq_true_eq]
  have e : ((x : Int) / 2 ^ (i : Int).toNat % 2 = 1) ↔ x / 2 ^ i % 2 = 1 := by
    rw [Int.toNat_natCast]
    have : ((x : Int) / 2 ^ i % 2) = ((x / 2 ^ i % 2 : Nat) : Int) := by push_cast; rfl
    rw [this]; omega
  rw [e]
  constructor
  · rintro ⟨h1, h2⟩; exact ⟨by omega, h2⟩
  · rintro ⟨h1, h2⟩
    refine ⟨?_, h2⟩
    apply Nat.lt_of_not_le
    intro h9
    have : x < 2 ^ i := Nat.lt_of_lt_of_le hx (Nat.pow_le_pow_right (n := 2) (i := 9) (by omega) h9)
    rw [Nat.div_eq_of_lt this] at h2
    simp at h2
/-- The set of a list. -/
def setN (l : List Nat) : Int := l.foldl (fun f i => bits BinOp.or IntKind.i64 f (IntKind.i64.wrap (2 ^ i))) 0
theorem setN_snoc (l : List Nat) (i : Nat) : setN (l ++ [i]) = bits BinOp.or IntKind.i64 (setN l) (IntKind.i64.wrap (2 ^ i)) := by simp [setN]
theorem setN_pos : ∀ x, x < 512 → setN (posL x) = (x : Int) := by decide +kernel
/-- What the table of TrailingZeros16 is asked. -/
def ixN (x : Nat) : Nat := lowBit x * 125613361 % 4294967296 / 134217728
theorem ix_facts : ∀ x, x < 512 → x ≠ 0 → ixN x < 32 ∧ Lib.deBruijn32tab.getD (ixN x) 0 = lowN x ∧ IntKind.u32.wrap ((lowBit x : Int) * 125613361) / 134217728 = (ixN x : Int) := by decide +kernel
end Go.Proofs.YtidmpfenkgihjaaDoor

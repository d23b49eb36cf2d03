/- The document's own answers of layer 5: Up, Other. -/
import Derived.Test.YtakolnmoieiicaaGreatRef5
namespace Go.Proofs.YtakolnmoieiicaaGreat
set_option linter.unusedSimpArgs false
set_option linter.unusedVariables false
open Go.RowKit

def upB (p : Net) (f i : Int) : Bool := decide (0 ≤ i) && (decide (i < p.links.length) && !hasB f i)
set_option maxHeartbeats 1000000 in
theorem rup_any (p : Net) (h : Hd) (f i : Int) (w : World) (hp : NetR w w.heap.size p h) :
    Calls Tryz.prog 52 #[netV p h, .int .i64 f, .int .i64 i] w fun e w' => e = .returned (.bool (upB p f i)) ∧ Below w.heap.size w w' := by
  have HA := Lib.hid (AtRight.begin hp)
  clear hp
  unfold netV netVal
  by_cases h0 : 0 ≤ i
  · have h0' : decide (0 ≤ i) = true := decide_eq_true h0
    by_cases h1 : i < p.links.length
    · have h1' : decide (i < (p.links.length : Int)) = true := decide_eq_true h1
      have HF := Lib.hid (show (!hasB f i) = upB p f i from by unfold upB; rw [h0', h1']; rfl)
      clear h0 h1
      go_enter Tryz.func52, Tryz.ntmps52
      go_wp2_with (go_at_call 79; refine (rhas_any _ _ _).mono ?_; rintro e w1 ⟨rfl, hb1⟩; have HB1 := Lib.hid hb1; clear hb1)
      go_ret
      exact ⟨ret_bool HF.out, (HA.out.call HB1.out).below⟩
    · have h1' : decide (i < (p.links.length : Int)) = false := decide_eq_false h1
      have HF := Lib.hid (show false = upB p f i from by unfold upB; rw [h1']; simp)
      clear h0 h1
      go_enter Tryz.func52, Tryz.ntmps52
      go_wp2
      go_ret
      exact ⟨ret_bool HF.out, HA.out.below⟩
  · have h0' : decide (0 ≤ i) = false := decide_eq_false h0
    have HF := Lib.hid (show false = upB p f i from by unfold upB; rw [h0']; simp)
    clear h0
    go_enter Tryz.func52, Tryz.ntmps52
    go_wp2
    go_ret
    exact ⟨ret_bool HF.out, HA.out.below⟩
end Go.Proofs.YtakolnmoieiicaaGreat

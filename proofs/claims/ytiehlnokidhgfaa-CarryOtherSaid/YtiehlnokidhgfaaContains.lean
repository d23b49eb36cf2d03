/- slices.Contains and slices.Index at []int. -/
import Derived.Test.YtiehlnokidhgfaaBase
namespace Go.Proofs.Ytiehlnokidhgfaa
set_option linter.unusedSimpArgs false
set_option linter.unusedVariables false
open Go.RowKit

def IndexIPost (l : List Int) (s : Int) (w : World) (e : Ending) (w' : World) : Prop := ∃ r : Int, e = .returned (.int .i64 r) ∧ (decide (0 ≤ r) = decide (s ∈ l)) ∧ w = w'
theorem indexI_any (l : List Int) (s : Int) (A : Option Addr) (c : Nat) (B : Nat) (w : World) (h : Rd w B 1 A l.length (ints l)) (hl : l.length ≤ 1000000) :
    Calls Try.prog 33 #[.slice A l.length c, .int .i64 s] w (IndexIPost l s w) := by
  go_enter Try.func33, Try.ntmps33
  go_wp2_with fail
  go_loop [8] (fun i => ∃ k : Nat, k ≤ l.length ∧ i = .int .i64 k ∧ s ∉ l.take k) (fun i => l.length - (intOf i).toNat)
  case atStart => exact ⟨0, Nat.zero_le _, rfl, by simp⟩
  case round =>
    obtain ⟨k, hk, rfl, hall⟩ := hrel
    have HA := Lib.hid hall
    clear hall
    by_cases hlt : k < l.length
    · obtain ⟨x, hx⟩ : ∃ x, l[k]? = some x := ⟨_, List.getElem?_eq_getElem hlt⟩
      obtain ⟨b, o, rfl, hb, hc⟩ := h.one (i := k) (x := .int .i64 x) (by simp [ints, hx])
      have HX := Lib.hid hx
      clear hx h
      have hts : l.take (k + 1) = l.take k ++ [x] := by
        rw [List.take_add_one, HX.out]; rfl
      have HT := Lib.hid hts
      clear hts
      by_cases he : (s == x) = true
      · have hfin : IndexIPost l s w (.returned (.int .i64 k)) w := by
          refine ⟨k, rfl, ?_, rfl⟩
          have h1 : decide ((0 : Int) ≤ (k : Int)) = true := by simp
          rw [h1]
          symm
          rw [decide_eq_true_eq]
          have : s = x := by simpa using he
          rw [this]; exact List.mem_of_getElem? HX.out
        have HF := Lib.hid hfin
        clear hfin
        go_wp2
        go_ret
        exact HF.out
      · have he : (s == x) = false := by simpa using he
        go_wp2
        go_round
        case rel => exact ⟨k + 1, by omega, by go_num, by rw [HT.out]; intro h; rcases List.mem_append.1 h with h | h; exact HA.out h; simp at h; simp [h] at he⟩
        case measure => simp [intOf]; omega
    · have hfin : IndexIPost l s w (.returned (.int .i64 (-1))) w := by
        refine ⟨-1, rfl, ?_, rfl⟩
        have := HA.out
        rw [List.take_of_length_le (by omega)] at this
        simp [this]
      have HF := Lib.hid hfin
      clear hfin h
      go_wp2
      go_ret
      exact HF.out
theorem containsI_any (l : List Int) (s : Int) (A : Option Addr) (c : Nat) (B : Nat) (w : World) (h : Rd w B 1 A l.length (ints l)) (hl : l.length ≤ 1000000) :
    Calls Try.prog 17 #[.slice A l.length c, .int .i64 s] w fun e w' => e = .returned (.bool (decide (s ∈ l))) ∧ w = w' := by
  go_enter Try.func17, Try.ntmps17
  go_wp2_with (go_at_call 33; refine (indexI_any l s A c B _ h hl).mono ?_; rintro e w' ⟨r, rfl, hr, rfl⟩)
  go_ret
  exact ⟨ret_bool (by rw [← hr]), rfl⟩
end Go.Proofs.Ytiehlnokidhgfaa

/- The walk of backstayref05.Ints, for any two lists. -/
import Derived.Test.YtidmpfenkgihjaaApi
import Derived.Test.YtidmpfenkgihjaaRegs
namespace Go.Proofs.Ytidmpfenkgihjaa
set_option linter.unusedSimpArgs false
set_option linter.unusedVariables false
open Go.RowKit

set_option maxRecDepth 100000 in
set_option maxHeartbeats 1000000 in
theorem refInts_any (l m : List Nat) (n n' : Nat) (hn : l.length = n) (hn' : m.length = n') (A A' : Option Addr) (c c' : Nat) (w : World) (h : Rd w w.heap.size 1 A n (nats l)) (h' : Rd w w.heap.size 1 A' n' (nats m)) (hl : n ≤ 1000) (hl' : n' ≤ 1000) :
    Calls Try.prog 8 #[.slice A n c, .slice A' n' c'] w fun e w' => e = .returned (.bool (decide (l = m))) ∧ Below w.heap.size w w' := by
  have HA := Lib.hid h
  have HB := Lib.hid h'
  have HN := Lib.hid hn
  have HN' := Lib.hid hn'
  clear h h'
  by_cases hnn : n = n'
  · subst hnn
    clear hn hn'
    go_enter Try.func8, Try.ntmps8
    go_wp2_with fail
    go_loopw [5] (fun i wr => ∃ k : Nat, k ≤ n ∧ i = .int .i64 k ∧ l.take k = m.take k ∧ Below w.heap.size w wr) (fun i _ => n - (intOf i).toNat)
    case atStart => exact ⟨0, Nat.zero_le _, rfl, rfl, Below.refl _ _⟩
    case round =>
      obtain ⟨k, hk, rfl, htk, hb⟩ := hrel
      have HX := Lib.hid hb
      have HT := Lib.hid htk
      clear hb htk
      by_cases hlt : k < n
      · obtain ⟨x, hx⟩ : ∃ x, l[k]? = some x := ⟨_, List.getElem?_eq_getElem (by have := HN.out; omega)⟩
        obtain ⟨y, hy⟩ : ∃ y, m[k]? = some y := ⟨_, List.getElem?_eq_getElem (by have := HN'.out; omega)⟩
        have HXY : Hid (l.take (k + 1) = l.take k ++ [x] ∧ m.take (k + 1) = m.take k ++ [y] ∧ (x ≠ y → decide (l = m) = false)) := Lib.hid ⟨by rw [List.take_add_one, hx]; rfl, by rw [List.take_add_one, hy]; rfl, fun hne => decide_eq_false (fun e => by subst e; rw [hx] at hy; injection hy with hy; exact hne hy)⟩
        obtain ⟨b1, o1, rfl, -, hc1⟩ := (HA.out.below HX.out (Nat.le_refl _)).one (nats_at hx)
        obtain ⟨b2, o2, rfl, -, hc2⟩ := (HB.out.below HX.out (Nat.le_refl _)).one (nats_at hy)
        have hz0 : (0 : Int) ≤ (k : Int) := by omega
        have hz1 : (k : Int) < (n : Int) := by omega
        clear hx hy
        by_cases hxy : x = y
        · subst hxy
          go_wp2_with fail
          go_quiet (fail)
          go_wp2
          go_roundw
          case rel => exact ⟨k + 1, by omega, by go_num, by rw [HXY.out.1, HXY.out.2.1, HT.out], below_drewN HX.out _⟩
          case measure => simp [intOf]; omega
        · have hq : ((x : Int) != (y : Int)) = true := by simp; omega
          have hq2 : (x != y) = true := by simp; omega
          have HF := Lib.hid (HXY.out.2.2 hxy)
          go_wp2_with fail
          go_quiet (fail)
          go_wp2
          go_ret
          exact ⟨ret_bool (by rw [HF.out]), below_drewN HX.out _⟩
      · have hke : k = n := by omega
        have hd : decide (l = m) = true := decide_eq_true (by
          have h1 := HT.out
          rw [hke, List.take_of_length_le (by have := HN.out; omega), List.take_of_length_le (by have := HN'.out; omega)] at h1
          exact h1)
        have HD := Lib.hid hd
        clear hd hke
        go_wp2
        go_ret
        exact ⟨ret_bool (by rw [HD.out]), HX.out⟩
  · have HD : Hid (decide (l = m) = false) := Lib.hid (decide_eq_false (fun e => by subst e; exact hnn (HN.out.symm.trans HN'.out)))
    have hq : ((n : Int) != (n' : Int)) = true := by simp; omega
    have hq2 : (n != n') = true := by simp; omega
    clear hn hn' hnn
    go_enter Try.func8, Try.ntmps8
    go_wp2
    go_ret
    exact ⟨ret_bool (by rw [HD.out]), Below.refl _ _⟩
end Go.Proofs.Ytidmpfenkgihjaa

/- The walks of pick and of (*source).next. -/
import Derived.Test.YtablbagdnmbbfaaGreatCuts
import Derived.Deep.AppendLies
namespace Go.Proofs.YtablbagdnmbbfaaGreat
set_option linter.unusedSimpArgs false
set_option linter.unusedVariables false
open Go.RowKit

theorem pick_any (c n : Int) (w : World) (hc : In64 c) (hn : 0 < n) (hn2 : n < 10000000000) : Calls Tryz.prog 51 #[.int .i64 c, .int .i64 n] w fun e w' => e = .returned (.int .i64 (pickV c n)) ∧ w = w' := by
  obtain ⟨h1, h2⟩ := hc
  have hn0 : n ≠ 0 := by omega
  by_cases h : c < 0
  · have HN := Lib.hid (show pickV c n = Int.tmod (-(c + 1)) n from by unfold pickV; rw [if_pos h, Int.tmod_eq_emod_of_nonneg (by omega)])
    go_enter Tryz.func51, Tryz.ntmps51
    go_wp2
    go_ret
    exact ⟨ret_int (by rw [HN.out, Int.neg_tmod]), rfl⟩
  · have HN := Lib.hid (show pickV c n = c % n from by unfold pickV; rw [if_neg h])
    go_enter Tryz.func51, Tryz.ntmps51
    go_wp2
    go_ret
    exact ⟨ret_int (by rw [HN.out]), rfl⟩

/-- Block b holds the numbers that are still to come. -/
def Src (B b : Nat) (w : World) : Prop := ∃ (A : Option Addr) (l : List Int) (c : Nat), w.heap[b]? = some (.cells #[.slice A l.length c] 68 (0, 0)) ∧ l.length ≤ c ∧ (∀ x ∈ l, In64 x) ∧ Rd w B 1 A l.length (ints l)
/-- A number below n came; only the source has turned. -/
def NextPost (B b : Nat) (n : Int) (w : World) (e : Ending) (w' : World) : Prop := ∃ k : Int, e = .returned (.int .i64 k) ∧ 0 ≤ k ∧ k < n ∧ Src B b w' ∧ w.grownBy w' (some b)
theorem Src.grown {B b : Nat} {w w' : World} {row : Option Nat} (h : Src B b w) (hg : w.grownBy w' row) (hb : row ≠ some b) (hB : B ≤ w.heap.size) (hr : ∀ g, row = some g → B ≤ g) : Src B b w' := by
  obtain ⟨A, l, c, hh, hc, hi, hr'⟩ := h
  exact ⟨A, l, c, by rw [hg.block b (lt_heap hh) (fun e => hb e.symm)]; exact hh, hc, hi, hr'.grown hg hB hr⟩
theorem ints_at {l : List Int} {i : Nat} {x : Int} (h : l[i]? = some x) : (ints l)[i]? = some (.int .i64 x) := by simp [ints, h]
theorem rd_tail {w : World} {B : Nat} {b o : Nat} {x : Int} {l : List Int} (h : Rd w B 1 (some ⟨b, o, none⟩) (l.length + 1) (ints (x :: l))) : Rd w B 1 (some ⟨b, o + 1, none⟩) l.length (ints l) := by
  refine ⟨by simp [ints], fun _ => ?_⟩
  obtain ⟨b', o', e, hb, hc⟩ := h.2 (by omega)
  injection e with e
  injection e with e1 e2
  subst e1 e2
  exact ⟨b, o + 1, rfl, hb, fun j u hu => by have := hc (j + 1) u (by simpa [ints] using hu); rwa [show o + 1 + j = o + (j + 1) from by omega]⟩
theorem Src.set {B b : Nat} {w : World} {cs : Array Value} {A : Option Addr} {l : List Int} {c : Nat} (hh : w.heap[b]? = some (.cells cs 68 (0, 0))) (h1 : cs.size = 1) (hB : B ≤ b) (hc : l.length ≤ c) (hi : ∀ x ∈ l, In64 x) (hr : Rd w B 1 A l.length (ints l)) :
    Src B b (w.setCell ⟨b, 0, none⟩ (.slice A l.length c)) ∧ w.grownBy (w.setCell ⟨b, 0, none⟩ (.slice A l.length c)) (some b) := by
  refine ⟨⟨A, l, c, ?_, hc, hi, hr.setCell hB _⟩, ⟨rfl, rfl, rfl, by simp [World.setCell], fun i _ hne => Below.heap_setCell _ _ _ _ (fun e => hne (by simp [e]))⟩⟩
  rw [heap_setCell_same w b 0 cs _ _ hh]
  have : cs.setIfInBounds 0 (.slice A l.length c) = #[.slice A l.length c] := by
    apply Array.ext_getElem?
    intro i
    rw [Array.getElem?_setIfInBounds]
    by_cases e : i = 0
    · subst e; simp [h1]
    · rw [if_neg (fun h => e h.symm), Array.getElem?_eq_none (by omega), Array.getElem?_eq_none (by simp; omega)]
  rw [this]

theorem next_any (B b : Nat) (n : Int) (w : World) (h : Src B b w) (hB : B ≤ b) (hn : 0 < n) (hn2 : n < 1000000) : Calls Tryz.prog 31 #[.pointer (some ⟨b, 0, none⟩), .int .i64 n] w (NextPost B b n w) := by
  obtain ⟨A, l, c, hh, hc, hi, hr⟩ := h
  have hcell : w.cell? ⟨b, 0, none⟩ = some (.slice A l.length c) := by rw [cell_of_row w b 0 _ _ _ hh]; rfl
  rcases l with _ | ⟨x, l⟩
  · have HF : Hid (NextPost B b n w (.returned (.int .i64 0)) w) := Lib.hid ⟨0, rfl, by omega, hn, ⟨A, [], c, hh, hc, hi, hr⟩, World.grownBy.refl _ _⟩
    clear hr hi hh
    go_enter Tryz.func31, Tryz.ntmps31
    go_wp2
    go_ret
    exact HF.out
  · obtain ⟨b', o, rfl, hb, hx⟩ := hr.one (i := 0) (x := .int .i64 x) rfl
    simp at hx
    have HX := Lib.hid (hi x (by simp))
    have HF : Hid (∀ (A : Option Addr) (c' : Nat), l.length ≤ c' → Rd w B 1 A l.length (ints l) → NextPost B b n w (.returned (.int .i64 (pickV x n))) (w.setCell ⟨b, 0, none⟩ (.slice A l.length c'))) := Lib.hid (fun A c' h1 h2 =>
      ⟨pickV x n, rfl, (pickV_in hn).1, (pickV_in hn).2, (Src.set hh (by simp) hB h1 (fun y hy => hi y (List.mem_cons_of_mem _ hy)) h2).1, (Src.set hh (by simp) hB h1 (fun y hy => hi y (List.mem_cons_of_mem _ hy)) h2).2⟩)
    have HR := Lib.hid (rd_tail hr)
    have HQ := Lib.hid hr
    have hfr : w.frozen? ⟨b, 0, none⟩ = false := frozen_of_row w b 0 _ _ hh
    simp only [List.length_cons] at hcell hc
    clear hr hi hh
    by_cases hc1 : c = 1
    · have hl0 : l = [] := by cases l with | nil => rfl | cons => simp at hc; omega
      subst hc1 hl0
      simp at hcell
      go_enter Tryz.func31, Tryz.ntmps31
      go_wp2_with (go_at_call 51; refine (pick_any _ _ _ HX.out hn (by omega)).mono ?_; rintro e w' ⟨rfl, rfl⟩)
      go_ret
      exact HF.out _ 0 (by simp) (Rd.nil _)
    · go_enter Tryz.func31, Tryz.ntmps31
      go_wp2_with (go_at_call 51; refine (pick_any _ _ _ HX.out hn (by omega)).mono ?_; rintro e w' ⟨rfl, rfl⟩)
      go_ret
      exact HF.out _ (c - 1) (by omega) HR.out
end Go.Proofs.YtablbagdnmbbfaaGreat

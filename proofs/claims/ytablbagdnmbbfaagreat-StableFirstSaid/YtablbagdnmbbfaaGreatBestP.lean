/- The best of some routes, plainly: it is one of them, none of them is better; so it hangs neither on the order nor on how often each is there. No program is walked here. -/
import Derived.Test.YtablbagdnmbbfaaGreatRtBox
import Derived.Test.YtablbagdnmbbfaaGreatAttrB
namespace Go.Proofs.YtablbagdnmbbfaaGreat
set_option linter.unusedSimpArgs false
set_option linter.unusedVariables false
open Go.RowKit

theorem ok_none : RtOk rtNone := ⟨.inl rfl, by simp [rtNone], by simp [rtNone], by simp [rtNone]⟩
theorem fold_best : ∀ (l : List Rt) (m : Rt), (∀ x ∈ m :: l, RtOk x) → l.foldl bestStepR m ∈ m :: l ∧ ∀ x ∈ m :: l, betterB x (l.foldl bestStepR m) = false
  | [], m, _ => ⟨by simp, by intro x hx; simp at hx; subst hx; exact betterB_self _⟩
  | y :: l, m, hok => by
    have hm := hok m (by simp)
    have hy := hok y (by simp)
    have hl : ∀ x ∈ bestStepR m y :: l, RtOk x := by
      intro x hx
      rcases List.mem_cons.1 hx with e | hx
      · rw [e]; unfold bestStepR; split
        · exact hy
        · exact hm
      · exact hok x (by simp [hx])
    obtain ⟨h1, h2⟩ := fold_best l (bestStepR m y) hl
    show l.foldl bestStepR (bestStepR m y) ∈ m :: y :: l ∧ ∀ x ∈ m :: y :: l, betterB x (l.foldl bestStepR (bestStepR m y)) = false
    generalize hf : l.foldl bestStepR (bestStepR m y) = f at *
    have hstep := h2 _ (List.mem_cons_self ..)
    have hfok : RtOk f := hl f h1
    have hboth : betterB m f = false ∧ betterB y f = false := by
      unfold bestStepR at hstep
      by_cases hb : betterB y m = true
      · rw [if_pos hb] at hstep
        refine ⟨?_, hstep⟩
        cases hmf : betterB m f with
        | false => rfl
        | true => rw [betterB_trans hb hmf] at hstep; cases hstep
      · rw [if_neg hb] at hstep
        refine ⟨hstep, ?_⟩
        cases hyf : betterB y f with
        | false => rfl
        | true =>
          by_cases e : f = m
          · rw [e] at hyf; exact absurd hyf hb
          · rcases betterB_total hfok hm e with h | h
            · exact absurd (betterB_trans hyf h) hb
            · rw [h] at hstep; cases hstep
    refine ⟨?_, ?_⟩
    · rcases List.mem_cons.1 h1 with e | h
      · rw [e]; unfold bestStepR; split <;> simp
      · simp [h]
    · intro x hx
      rcases List.mem_cons.1 hx with rfl | hx
      · exact hboth.1
      · rcases List.mem_cons.1 hx with rfl | hx
        · exact hboth.2
        · exact h2 x (List.mem_cons_of_mem _ hx)
theorem best_mem {l : List Rt} (hok : ∀ x ∈ l, RtOk x) (h : l ≠ []) : bestR l ∈ l := by
  cases l with
  | nil => exact absurd rfl h
  | cons m l => exact (fold_best l m hok).1
theorem best_min {l : List Rt} (hok : ∀ x ∈ l, RtOk x) : ∀ x ∈ l, betterB x (bestR l) = false := by
  cases l with
  | nil => intro x hx; cases hx
  | cons m l => exact (fold_best l m hok).2
theorem best_ok {l : List Rt} (hok : ∀ x ∈ l, RtOk x) : RtOk (bestR l) := by
  by_cases h : l = []
  · subst h; exact ok_none
  · exact hok _ (best_mem hok h)
theorem best_uniq {l : List Rt} (hok : ∀ x ∈ l, RtOk x) {f : Rt} (hf : f ∈ l) (h : ∀ x ∈ l, betterB x f = false) : f = bestR l := by
  have hne : l ≠ [] := by rintro rfl; cases hf
  by_cases e : f = bestR l
  · exact e
  · rcases betterB_total (hok f hf) (hok _ (best_mem hok hne)) e with h1 | h1
    · rw [best_min hok f hf] at h1; cases h1
    · rw [h _ (best_mem hok hne)] at h1; cases h1
/-- Neither on the order nor on how often each is there. -/
theorem best_same {l m : List Rt} (hok : ∀ x ∈ l, RtOk x) (h : ∀ x, x ∈ l ↔ x ∈ m) : bestR m = bestR l := by
  have hok' : ∀ x ∈ m, RtOk x := fun x hx => hok x ((h x).2 hx)
  by_cases hne : m = []
  · subst hne
    have : l = [] := by
      cases l with
      | nil => rfl
      | cons y l => exact absurd ((h y).1 (by simp)) (by simp)
    subst this; rfl
  · exact best_uniq hok ((h _).2 (best_mem hok' hne)) (fun x hx => best_min hok' x ((h x).1 hx))
/-- Best of some and of others is Best of all. -/
theorem best_parts {l m : List Rt} (hl : ∀ x ∈ l, RtOk x) (hm : ∀ x ∈ m, RtOk x) (h1 : l ≠ []) (h2 : m ≠ []) : bestR [bestR l, bestR m] = bestR (l ++ m) := by
  have hok : ∀ x ∈ l ++ m, RtOk x := fun x hx => (List.mem_append.1 hx).elim (hl x) (hm x)
  have hok2 : ∀ x ∈ [bestR l, bestR m], RtOk x := by
    intro x hx
    simp at hx
    rcases hx with rfl | rfl
    · exact best_ok hl
    · exact best_ok hm
  have hmem := best_mem hok2 (by simp)
  have hmin := best_min hok2
  generalize hf : bestR [bestR l, bestR m] = f at *
  have a1 := hmin (bestR l) (by simp)
  have a2 := hmin (bestR m) (by simp)
  have key : ∀ (k : List Rt), (∀ x ∈ k, RtOk x) → betterB (bestR k) f = false → RtOk f → k ≠ [] → ∀ x ∈ k, betterB x f = false := by
    intro k hk hb hfok hne x hx
    cases hxf : betterB x f with
    | false => rfl
    | true =>
      have hbx := best_min hk x hx
      by_cases e : x = bestR k
      · rw [e, hb] at hxf; cases hxf
      · rcases betterB_total (hk x hx) (best_ok hk) e with h | h
        · rw [hbx] at h; cases h
        · rw [betterB_trans h hxf] at hb; cases hb
  have hfok : RtOk f := hok2 f hmem
  refine best_uniq hok ?_ ?_
  · simp at hmem
    rcases hmem with rfl | rfl
    · exact List.mem_append_left _ (best_mem hl h1)
    · exact List.mem_append_right _ (best_mem hm h2)
  · intro x hx
    rcases List.mem_append.1 hx with hx | hx
    · exact key l hl a1 hfok h1 x hx
    · exact key m hm a2 hfok h2 x hx
end Go.Proofs.YtablbagdnmbbfaaGreat

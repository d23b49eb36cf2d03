/- Sorted and compacted lists: when nothing was there twice; a row of the call's own that is sorted in place. No program is walked here. -/
import Derived.Test.YtablbagdnmbbfaaGreatBase
import Derived.Lib.SlicesCompact
import Derived.Sort.OwnSorted
import Derived.Shelf.Sort.Plain
namespace Go.Proofs.YtablbagdnmbbfaaGreat
set_option linter.unusedSimpArgs false
set_option linter.unusedVariables false
open Go.RowKit Go.Sort

/-! ### Plain: nothing goes at a compacting just if nothing was there twice -/
theorem count_all {f : Nat → Bool} {n : Nat} : ((List.range n).filter f).length = n ↔ ∀ j, j < n → f j = true := by
  constructor
  · intro h j hj
    have : (List.range n).filter f = List.range n := List.filter_sublist.eq_of_length (by simpa using h)
    exact (List.filter_eq_self.1 this) j (List.mem_range.2 hj)
  · intro h
    rw [List.filter_eq_self.2 (fun j hj => h j (List.mem_range.1 hj))]; simp
theorem compact_len {α : Type} [Inhabited α] [DecidableEq α] (zs : List α) : (Lib.compact zs).length = zs.length ↔ ∀ j, j + 1 < zs.length → zs[j + 1]! ≠ zs[j]! := by
  unfold Lib.compact Lib.compactUpTo
  rw [List.length_map, count_all]
  constructor
  · intro h j hj
    have := h (j + 1) hj
    simpa [Lib.keeps] using this
  · intro h j hj
    cases j with
    | zero => simp [Lib.keeps]
    | succ j => simpa [Lib.keeps] using h j hj
theorem sorted_nodup {α : Type} [Inhabited α] {r : α → α → Prop} (htr : ∀ a b c, r a b → r b c → r a c) (has : ∀ a b, r a b → r b a → a = b) (zs : List α) (hs : zs.Pairwise r) :
    zs.Nodup ↔ ∀ j, j + 1 < zs.length → zs[j + 1]! ≠ zs[j]! := by
  constructor
  · intro h j hj e
    rw [getElem!_pos zs (j + 1) hj, getElem!_pos zs j (by omega)] at e
    have := (List.getElem_inj h).1 e
    omega
  · induction zs with
    | nil => intro _; simp
    | cons a t ih =>
      intro h
      obtain ⟨h1, h2⟩ := List.pairwise_cons.1 hs
      refine List.nodup_cons.2 ⟨fun hm => ?_, ih h2 (fun j hj => ?_)⟩
      · cases t with
        | nil => simp at hm
        | cons b t =>
          have hab := h1 b (by simp)
          have hne := h 0 (by simp)
          have hba : r b a := by
            rcases List.mem_cons.1 hm with rfl | hm
            · simp at hne
            · exact (List.pairwise_cons.1 h2).1 a hm
          exact hne (by simpa using has b a hba hab)
      · have := h (j + 1) (by simpa using hj)
        rw [getElem!_pos _ (j + 1 + 1) (by simpa using hj), getElem!_pos _ (j + 1) (by simp; omega)] at this
        rw [getElem!_pos t (j + 1) hj, getElem!_pos t j (by omega)]
        simpa using this

section
variable {α : Type} [Inhabited α] {enc : α → Value} {w : World} {B e c g off q : Nat} {zs ys : List α} {os : Array Obj}
theorem Own.holdsE (h : Own w B e 1 (some ⟨g, off, none⟩) zs.length c (zs.map enc)) (hp : 0 < c) : Holds enc w g off zs.toArray := by
  obtain ⟨g', off', cur, e', hh, _, hx⟩ := h.2.2.2.2.2 hp
  injection e' with e'
  injection e' with e1 e2
  subst e1 e2
  intro j hj
  have hj' : j < zs.length := by simpa using hj
  refine ⟨?_, frozen_of_row w g _ cur e hh⟩
  rw [cell_of_row w g _ cur e (0, 0) hh]
  refine (hx j (enc zs[j]) (by simp [hj'])).trans ?_
  rw [getElem!_pos _ j hj]; simp
theorem Own.putRowE (h : Own w B e 1 (some ⟨g, off, none⟩) zs.length c (zs.map enc)) (hp : 0 < c) (hl : ys.length = zs.length) :
    Own (grow (Go.Sort.putRow enc (Sort.ahead w q) g off ys.toArray) os) B e 1 (some ⟨g, off, none⟩) ys.length c (ys.map enc) ∧ w.grownBy (grow (Go.Sort.putRow enc (Sort.ahead w q) g off ys.toArray) os) (some g) := by
  obtain ⟨h1, h2, h3, h4, h5, h6⟩ := h
  obtain ⟨g', off', cur, e', hh, hs, hx⟩ := h6 hp
  injection e' with e'
  injection e' with e1 e2
  subst e1 e2
  have hg := lt_heap hh
  refine ⟨⟨by simp, by omega, h3, h4, h5, fun _ => ⟨g, off, putCells enc off ys.toArray cur, rfl, ?_, by simp [putCells]; omega, fun j u hu => ?_⟩⟩, ⟨rfl, rfl, rfl, by simp, fun k hk hne => ?_⟩⟩
  · rw [heap_grow_old _ _ (by simpa using hg)]
    simp [Go.Sort.putRow, mapBlock, Sort.ahead, Array.getElem?_modify, hh, onCells]
  · have hj : j < ys.length := by
      have := (List.getElem?_eq_some_iff.1 hu).1
      simpa using this
    have hcs : off + j < cur.size := by omega
    rw [List.getElem?_map, List.getElem?_eq_getElem hj] at hu
    simp at hu
    subst hu
    simp [putCells, Array.getElem?_mapIdx, hcs, hj]
  · rw [heap_grow_old _ _ (by simpa using hk)]
    have : g ≠ k := fun e => hne (by rw [e])
    simp [Go.Sort.putRow, mapBlock, Sort.ahead, Array.getElem?_modify, this]
end
theorem sorted_ints (l : List Int) : (l.mergeSort fun x y => decide (x ≤ y)).Pairwise (fun a b => a ≤ b) := by
  have := List.pairwise_mergeSort (le := fun x y : Int => decide (x ≤ y)) (fun a b c h1 h2 => by simp at h1 h2 ⊢; omega) (fun a b => by simp; omega) l
  exact this.imp fun {a b} h => by simpa using h
theorem compact_nodup (l : List Int) : (Lib.compact (l.mergeSort fun x y => decide (x ≤ y))).length = l.length ↔ l.Nodup := by
  have hp := List.mergeSort_perm l (fun x y => decide (x ≤ y))
  rw [← hp.nodup_iff, ← hp.length_eq, compact_len]
  exact (sorted_nodup (r := fun a b : Int => a ≤ b) (fun a b c => Int.le_trans) (fun a b => Int.le_antisymm) _ (sorted_ints l)).symm
end Go.Proofs.YtablbagdnmbbfaaGreat

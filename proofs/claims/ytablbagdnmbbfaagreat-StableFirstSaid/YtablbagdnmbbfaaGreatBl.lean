/- The blocks that a call has laid for its own, one behind the other, from where its world ended. No program is walked here. -/
import Derived.Test.YtablbagdnmbbfaaGreatBase
namespace Go.Proofs.YtablbagdnmbbfaaGreat
set_option linter.unusedSimpArgs false
set_option linter.unusedVariables false
open Go.RowKit

/-- From w on the blocks L lie in wr; what lay in w lies as it lay. -/
structure Bl (w wr : World) (L : List Obj) : Prop where
  below : Below w.heap.size w wr
  at_ : ∀ i o, L[i]? = some o → wr.heap[w.heap.size + i]? = some o
section
variable {w wr w' : World} {L : List Obj}
theorem Bl.begin (w : World) : Bl w w [] := ⟨Below.refl _ _, by intro i o h; simp at h⟩
theorem Bl.lt (a : Bl w wr L) {i : Nat} (h : i < L.length) : w.heap.size + i < wr.heap.size := lt_heap (a.at_ i _ (List.getElem?_eq_getElem h))
theorem Bl.call (a : Bl w wr L) (hb : Below wr.heap.size wr w') : Bl w w' L :=
  ⟨a.below.trans (hb.mono a.below.size), fun i o h => (hb.block _ (lt_heap (a.at_ i o h))).trans (a.at_ i o h)⟩
theorem Bl.alloc (a : Bl w wr L) (o : Obj) : Bl w (wr.alloc o) L := a.call ((Below.refl _ _).alloc (Nat.le_refl _) o)
theorem Bl.drew (a : Bl w wr L) : Bl w wr.drew L := a.call (below_drew (Below.refl _ _))
theorem Bl.push (a : Bl w wr L) (hs : wr.heap.size = w.heap.size + L.length) (o : Obj) : Bl w (wr.alloc o) (L ++ [o]) := by
  refine ⟨(a.alloc o).below, fun i x h => ?_⟩
  by_cases hi : i < L.length
  · rw [List.getElem?_append_left hi] at h
    exact (a.alloc o).at_ i x h
  · have hi' : i = L.length := by
      have := (List.getElem?_eq_some_iff.1 h).1
      simp at this; omega
    subst hi'
    simp at h
    subst h
    rw [← hs]
    exact heap_alloc_new wr o
/-- A cell behind them is written. -/
theorem Bl.set (a : Bl w wr L) {q : Addr} (hq : w.heap.size + L.length ≤ q.block) (v : Value) : Bl w (wr.setCell q v) L :=
  ⟨a.below.setCell (by omega) v, fun i o h => by
    rw [Below.heap_setCell _ _ _ _ (by have := (List.getElem?_eq_some_iff.1 h).1; omega)]
    exact a.at_ i o h⟩
/-- A cell of block i is written. -/
theorem Bl.put (a : Bl w wr L) {i k : Nat} {cs : Array Value} {t : TypeId} (h : L[i]? = some (.cells cs t (0, 0))) (v : Value) : Bl w (wr.setCell ⟨w.heap.size + i, k, none⟩ v) (L.set i (.cells (cs.setIfInBounds k v) t (0, 0))) := by
  refine ⟨a.below.setCell (Nat.le_add_right _ _) v, fun j o hj => ?_⟩
  by_cases e : i = j
  · subst e
    rw [heap_setCell_same _ _ _ _ _ _ (a.at_ i _ h)]
    rw [List.getElem?_set_self (List.getElem?_eq_some_iff.1 h).1] at hj
    exact hj
  · rw [List.getElem?_set_ne e] at hj
    rw [Below.heap_setCell _ _ _ _ (by show w.heap.size + j ≠ w.heap.size + i; omega)]
    exact a.at_ j o hj
theorem Bl.cell (a : Bl w wr L) {i k : Nat} {cs : Array Value} {t : TypeId} (h : L[i]? = some (.cells cs t (0, 0))) : wr.cell? ⟨w.heap.size + i, k, none⟩ = cs[k]? := cell_of_row wr _ k _ _ _ (a.at_ i _ h)
theorem Bl.free (a : Bl w wr L) {i k : Nat} {cs : Array Value} {t : TypeId} (h : L[i]? = some (.cells cs t (0, 0))) : wr.frozen? ⟨w.heap.size + i, k, none⟩ = false := frozen_of_row wr _ k _ _ (a.at_ i _ h)
theorem Bl.grown (a : Bl w wr L) {row : Option Nat} (hg : wr.grownBy w' row) (hr : ∀ g, row = some g → w.heap.size + L.length ≤ g) : Bl w w' L :=
  ⟨a.below.grown hg a.below.size (fun g h => by have := hr g h; omega), fun i o h => (hg.block _ (lt_heap (a.at_ i o h)) (fun e => by have := hr _ e.symm; have := (List.getElem?_eq_some_iff.1 h).1; omega)).trans (a.at_ i o h)⟩
end
/-- A block of the call's own reads as what it holds. -/
theorem Bl.rd {w wr : World} {L : List Obj} (a : Bl w wr L) {i m s : Nat} {cs : Array Value} {t : TypeId} (h : L[i]? = some (.cells cs t (0, 0))) (hl : cs.size = m * s) : Rd wr wr.heap.size s (some ⟨w.heap.size + i, 0, none⟩) m cs.toList := by
  refine ⟨by simpa using hl, fun _ => ⟨_, 0, rfl, lt_heap (a.at_ i _ h), fun j u hu => ?_⟩⟩
  rw [Nat.zero_add, a.cell h]
  simpa using hu
end Go.Proofs.YtablbagdnmbbfaaGreat

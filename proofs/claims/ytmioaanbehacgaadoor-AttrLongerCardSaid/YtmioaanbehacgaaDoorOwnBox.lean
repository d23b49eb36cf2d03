/- A route in a box of its own, whose list is owned too: both may be written. No program is walked here. -/
import Derived.Test.YtmioaanbehacgaaDoorStepApp
namespace Go.Proofs.YtmioaanbehacgaaDoor
set_option linter.unusedSimpArgs false
set_option linter.unusedVariables false
open Go.RowKit

theorem RtOk.short {r : Rt} (h : RtOk r) : r.path.length ≤ 12 := by
  rcases h.kind with e | e | e
  · rw [h.k0 e]; simp [rtNone]
  · rw [(h.k1 e).2.2]; simp
  · exact (h.k2 e).2.1
structure OB (w0 wr : World) (b : Nat) (r : Rt) (A : Option Addr) (c : Nat) : Prop where
  below : Below w0.heap.size w0 wr
  lo : w0.heap.size ≤ b
  box : wr.heap[b]? = some (.cells #[.int .i64 r.kind, .int .i64 r.cost, .slice A r.path.length c] 24 (0, 0))
  own : Own wr (b + 1) 3 1 A r.path.length c (ints r.path)
section
variable {w0 wr w2 : World} {b : Nat} {r : Rt} {A : Option Addr} {c : Nat}
theorem OB.lt (a : OB w0 wr b r A c) : b < wr.heap.size := lt_heap a.box
theorem OB.alloc (a : OB w0 wr b r A c) (o : Obj) : OB w0 (wr.alloc o) b r A c :=
  ⟨a.below.alloc (by have := a.lt; have := a.lo; omega) o, a.lo, (Below.heap_alloc _ _ _ a.lt).trans a.box, a.own.alloc o⟩
theorem OB.at_ (a : OB w0 wr b r A c) : wr.cell? ⟨b, 0, none⟩ = some (.int .i64 r.kind) ∧ wr.cell? ⟨b, 1, none⟩ = some (.int .i64 r.cost) ∧ wr.cell? ⟨b, 2, none⟩ = some (.slice A r.path.length c) :=
  ⟨cell_of_row wr _ 0 _ _ _ a.box, cell_of_row wr _ 1 _ _ _ a.box, cell_of_row wr _ 2 _ _ _ a.box⟩
theorem OB.free (a : OB w0 wr b r A c) (i : Nat) : wr.frozen? ⟨b, i, none⟩ = false := frozen_of_row wr _ i _ _ a.box
theorem OB.rt (a : OB w0 wr b r A c) : RtR wr wr.heap.size r A c := ⟨a.own.rd, a.own.2.1, a.own.2.2.1⟩
theorem OB.call (a : OB w0 wr b r A c) (hb : Below wr.heap.size wr w2) : OB w0 w2 b r A c :=
  ⟨a.below.trans (hb.mono a.below.size), a.lo, (hb.block _ a.lt).trans a.box, a.own.call hb⟩
theorem OB.kind (a : OB w0 wr b r A c) (k : Int) : OB w0 (wr.setCell ⟨b, 0, none⟩ (.int .i64 k)) b ⟨k, r.cost, r.path⟩ A c := by
  refine ⟨a.below.setCell a.lo _, a.lo, ?_, a.own.setCell_far (fun g hg => by have := a.own.from_ g hg; simp; omega) _⟩
  rw [heap_setCell_same _ _ _ _ _ _ a.box]; simp
theorem OB.cost (a : OB w0 wr b r A c) (k : Int) : OB w0 (wr.setCell ⟨b, 1, none⟩ (.int .i64 k)) b ⟨r.kind, k, r.path⟩ A c := by
  refine ⟨a.below.setCell a.lo _, a.lo, ?_, a.own.setCell_far (fun g hg => by have := a.own.from_ g hg; simp; omega) _⟩
  rw [heap_setCell_same _ _ _ _ _ _ a.box]; simp
theorem OB.grow (a : OB w0 wr b r A c) {row : Option Nat} (hr : ∀ g, row = some g → b + 1 ≤ g) (hg : wr.grownBy w2 row) : w2.heap[b]? = some (.cells #[.int .i64 r.kind, .int .i64 r.cost, .slice A r.path.length c] 24 (0, 0)) :=
  (hg.block _ a.lt (fun e => by have := hr _ e.symm; omega)).trans a.box
/-- The list is put in another's place. -/
theorem OB.path (a : OB w0 wr b r A c) {row : Option Nat} (hr : ∀ g, row = some g → b + 1 ≤ g) (hg : wr.grownBy w2 row) {A2 : Option Addr} {n c2 : Nat} {q : List Int} (hn : n = q.length) (hown : Own w2 (b + 1) 3 1 A2 n c2 (ints q)) :
    OB w0 (w2.setCell ⟨b, 2, none⟩ (.slice A2 n c2)) b ⟨r.kind, r.cost, q⟩ A2 c2 := by
  subst hn
  refine ⟨(a.below.grown hg (by have := a.lt; have := a.lo; omega) (fun g h => by have := hr g h; have := a.lo; omega)).setCell a.lo _, a.lo, ?_, hown.setCell_far (fun g hg => by have := hown.from_ g hg; simp; omega) _⟩
  rw [heap_setCell_same _ _ _ _ _ _ (a.grow hr hg)]; simp
theorem OB.begin {A2 : Option Addr} {c2 n : Nat} (hb : Below w0.heap.size w0 wr) (lo : w0.heap.size ≤ b) (x : Box wr b r A c) (hg : wr.grownBy w2 (blk none)) (hn : n = r.path.length) (hown : Own w2 (b + 1) 3 1 A2 n c2 (ints r.path)) :
    OB w0 (w2.setCell ⟨b, 2, none⟩ (.slice A2 n c2)) b r A2 c2 := by
  subst hn
  have h1 := (hg.block b x.lt (by simp [blk])).trans x.box
  refine ⟨(hb.grown hg hb.size (fun g h => by simp [blk] at h)).setCell lo _, lo, ?_, hown.setCell_far (fun g hg => by have := hown.from_ g hg; simp; omega) _⟩
  rw [heap_setCell_same _ _ _ _ _ _ h1]; simp
/-- One number of the list is written. -/
theorem OB.put {g off : Nat} (a : OB w0 wr b r (some ⟨g, off, none⟩) c) {k : Nat} (hk : k < r.path.length) (x : Int) :
    OB w0 (wr.setCell ⟨g, off + k, none⟩ (.int .i64 x)) b ⟨r.kind, r.cost, r.path.set k x⟩ (some ⟨g, off, none⟩) c := by
  have hc : 0 < c := by have := a.own.2.1; omega
  obtain ⟨h1, h2, h3, h4, h5, h6⟩ := a.own
  obtain ⟨g', off', cur, e, hh, hs, hx⟩ := h6 hc
  injection e with e; injection e with e1 e2; subst e1 e2
  have hgb : b + 1 ≤ g := h5 g rfl
  refine ⟨a.below.setCell (by have := a.lo; show _ ≤ g; omega) _, a.lo, ?_, by simp [ints], by simpa using h2, h3, by simp, h5, fun _ => ⟨g, off, cur.setIfInBounds (off + k) (.int .i64 x), rfl, ?_, by simpa using hs, ?_⟩⟩
  · rw [Below.heap_setCell _ _ _ _ (by simp; omega)]
    simpa using a.box
  · rw [heap_setCell_same _ _ _ _ _ _ hh]
  · intro j u hu
    simp only [ints, List.getElem?_map, List.getElem?_set] at hu
    rw [Array.getElem?_setIfInBounds]
    have hx' := hx j
    by_cases hkj : k = j
    · subst hkj
      rw [if_pos rfl, if_pos hk] at hu
      have : off + k < cur.size := by have := a.own.2.1; omega
      simp at hu
      simp [this, hu]
    · rw [if_neg hkj] at hu
      rw [if_neg (by omega)]
      exact hx' u (by simpa [ints] using hu)
theorem Box.grown (x : Box wr b r A c) (hg : wr.grownBy w2 (blk none)) : (∀ i, w2.frozen? ⟨b, i, none⟩ = false) ∧ w2.cell? ⟨b, 0, none⟩ = some (.int .i64 r.kind) ∧ w2.cell? ⟨b, 1, none⟩ = some (.int .i64 r.cost) ∧ w2.cell? ⟨b, 2, none⟩ = some (.slice A r.path.length c) := by
  have h1 := (hg.block b x.lt (by simp [blk])).trans x.box
  exact ⟨fun i => frozen_of_row w2 _ i _ _ h1, cell_of_row w2 _ 0 _ _ _ h1, cell_of_row w2 _ 1 _ _ _ h1, cell_of_row w2 _ 2 _ _ _ h1⟩
theorem OB.grownAt (a : OB w0 wr b r A c) (hg : wr.grownBy w2 (blk A)) : (∀ i, w2.frozen? ⟨b, i, none⟩ = false) ∧ w2.cell? ⟨b, 0, none⟩ = some (.int .i64 r.kind) ∧ w2.cell? ⟨b, 1, none⟩ = some (.int .i64 r.cost) ∧ w2.cell? ⟨b, 2, none⟩ = some (.slice A r.path.length c) := by
  have h1 := a.grow (fun g h => a.own.from_ g h) hg
  exact ⟨fun i => frozen_of_row w2 _ i _ _ h1, cell_of_row w2 _ 0 _ _ _ h1, cell_of_row w2 _ 1 _ _ _ h1, cell_of_row w2 _ 2 _ _ _ h1⟩
end
end Go.Proofs.YtmioaanbehacgaaDoor

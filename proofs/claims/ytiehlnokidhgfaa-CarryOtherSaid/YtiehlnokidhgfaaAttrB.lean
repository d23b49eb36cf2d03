/- The walks of slices.MinFunc at routes, and of attr.Best. -/
import Derived.Test.YtiehlnokidhgfaaAttrX
namespace Go.Proofs.Ytiehlnokidhgfaa
set_option linter.unusedSimpArgs false
set_option linter.unusedVariables false
open Go.RowKit

/-- A route, and where its list lies. -/
abbrev RtZ := Rt × (Option Addr × Nat)
def rtZV (z : RtZ) : Value := rtV z.1 z.2.1 z.2.2
def rtCells (z : RtZ) : List Value := [.int .i64 z.1.kind, .int .i64 z.1.cost, .slice z.2.1 z.1.path.length z.2.2]
/-- A slice of routes reads out of memory below block B. -/
structure RtsR (w : World) (B : Nat) (L : List RtZ) (A : Option Addr) : Prop where
  row : Rd w B 3 A L.length (L.flatMap rtCells)
  each : ∀ z ∈ L, RtR w B z.1 z.2.1 z.2.2
theorem RtsR.below {w w' : World} {B C : Nat} {L : List RtZ} {A : Option Addr} (h : RtsR w B L A) (hb : Below C w w') (hC : B ≤ C) : RtsR w' B L A := ⟨h.row.below hb hC, fun z hz => (h.each z hz).below hb hC⟩
theorem RtsR.more {w : World} {B B' : Nat} {L : List RtZ} {A : Option Addr} (h : RtsR w B L A) (hB : B ≤ B') : RtsR w B' L A := ⟨h.row.more hB, fun z hz => (h.each z hz).more hB⟩
theorem RtsR.call {w w' : World} {L : List RtZ} {A : Option Addr} (h : RtsR w w.heap.size L A) (hb : Below w.heap.size w w') : RtsR w' w'.heap.size L A := (h.below hb (Nat.le_refl _)).more hb.size
theorem RtsR.alloc {w : World} {B : Nat} {L : List RtZ} {A : Option Addr} (h : RtsR w B L A) (hB : B ≤ w.heap.size) (o : Obj) : RtsR (w.alloc o) B L A := ⟨h.row.alloc hB o, fun z hz => (h.each z hz).alloc hB o⟩
theorem RtsR.at_ {w : World} {B i : Nat} {L : List RtZ} {A : Option Addr} {z : RtZ} (h : RtsR w B L A) (hi : L[i]? = some z) :
    ∃ b o, A = some ⟨b, o, none⟩ ∧ b < B ∧ w.cell? ⟨b, o + i * 3, none⟩ = some (.int .i64 z.1.kind) ∧ w.cell? ⟨b, o + i * 3 + 1, none⟩ = some (.int .i64 z.1.cost) ∧ w.cell? ⟨b, o + i * 3 + 2, none⟩ = some (.slice z.2.1 z.1.path.length z.2.2) := by
  obtain ⟨b, o, e, hb, hc⟩ := h.row.elem (f := rtCells) (fun _ => rfl) hi
  exact ⟨b, o, e, hb, hc 0 _ (by omega) rfl, hc 1 _ (by omega) rfl, hc 2 _ (by omega) rfl⟩
def pickB (m x : RtZ) : RtZ := if betterB x.1 m.1 then x else m
def bestStepR (m x : Rt) : Rt := if betterB x m then x else m
def bestR : List Rt → Rt
  | [] => rtNone
  | r :: l => l.foldl bestStepR r
theorem fold_fst : ∀ (L : List RtZ) (z : RtZ), (L.foldl pickB z).1 = (L.map (·.1)).foldl bestStepR z.1
  | [], _ => rfl
  | x :: L, z => by
    simp only [List.foldl_cons, List.map_cons]
    rw [fold_fst L]
    congr 1
    unfold pickB bestStepR
    split <;> rfl
theorem fold_mem : ∀ (L : List RtZ) (z : RtZ), L.foldl pickB z = z ∨ L.foldl pickB z ∈ L
  | [], _ => .inl rfl
  | x :: L, z => by
    simp only [List.foldl_cons]
    rcases fold_mem L (pickB z x) with h | h
    · rw [h]
      unfold pickB
      split
      · exact .inr (by simp)
      · exact .inl rfl
    · exact .inr (List.mem_cons_of_mem _ h)
/-- The current best of the first k, and the blocks of the walk. -/
structure MinW (w wr : World) (y : RtZ) : Prop where
  below : Below w.heap.size w wr
  size : w.heap.size + 2 ≤ wr.heap.size
  res : wr.heap[w.heap.size]? = some (.cells #[.int .i64 0, .int .i64 0, .slice none 0 0] 24 (0, 0))
  m : wr.heap[w.heap.size + 1]? = some (.cells #[.int .i64 y.1.kind, .int .i64 y.1.cost, .slice y.2.1 y.1.path.length y.2.2] 24 (0, 0))
section
variable {w wr w' : World} {y : RtZ}
theorem MinW.begin : MinW w ((w.alloc (.cells #[.int .i64 0, .int .i64 0, .slice none 0 0] 24)).alloc (.cells #[.int .i64 y.1.kind, .int .i64 y.1.cost, .slice y.2.1 y.1.path.length y.2.2] 24)) y where
  below := ((Below.refl _ _).alloc (Nat.le_refl _) _).alloc (by simp) _
  size := by simp
  res := (Below.heap_alloc _ _ _ (by simp)).trans (heap_alloc_new _ _)
  m := by have := heap_alloc_new (w.alloc (.cells #[.int .i64 0, .int .i64 0, .slice none 0 0] 24)) (.cells #[.int .i64 y.1.kind, .int .i64 y.1.cost, .slice y.2.1 y.1.path.length y.2.2] 24); simpa using this
theorem MinW.call (a : MinW w wr y) (hb : Below wr.heap.size wr w') : MinW w w' y :=
  ⟨a.below.trans (hb.mono (by have := a.size; omega)), Nat.le_trans a.size hb.size, (hb.block _ (by have := a.size; omega)).trans a.res, (hb.block _ (by have := a.size; omega)).trans a.m⟩
theorem MinW.at_ (a : MinW w wr y) : wr.cell? ⟨w.heap.size + 1, 0, none⟩ = some (.int .i64 y.1.kind) ∧ wr.cell? ⟨w.heap.size + 1, 1, none⟩ = some (.int .i64 y.1.cost) ∧ wr.cell? ⟨w.heap.size + 1, 2, none⟩ = some (.slice y.2.1 y.1.path.length y.2.2) :=
  ⟨cell_of_row wr _ 0 _ _ _ a.m, cell_of_row wr _ 1 _ _ _ a.m, cell_of_row wr _ 2 _ _ _ a.m⟩
theorem MinW.free (a : MinW w wr y) (i : Nat) : wr.frozen? ⟨w.heap.size + 1, i, none⟩ = false := frozen_of_row wr _ i _ _ a.m
theorem MinW.resAt (a : MinW w wr y) : wr.cell? ⟨w.heap.size, 0, none⟩ = some (.int .i64 0) ∧ wr.cell? ⟨w.heap.size, 1, none⟩ = some (.int .i64 0) ∧ wr.cell? ⟨w.heap.size, 2, none⟩ = some (.slice none 0 0) :=
  ⟨cell_of_row wr _ 0 _ _ _ a.res, cell_of_row wr _ 1 _ _ _ a.res, cell_of_row wr _ 2 _ _ _ a.res⟩
theorem MinW.resFree (a : MinW w wr y) (i : Nat) : wr.frozen? ⟨w.heap.size, i, none⟩ = false := frozen_of_row wr _ i _ _ a.res
theorem MinW.set (a : MinW w wr y) (x : RtZ) : MinW w (((wr.setCell ⟨w.heap.size + 1, 0, none⟩ (.int .i64 x.1.kind)).setCell ⟨w.heap.size + 1, 1, none⟩ (.int .i64 x.1.cost)).setCell ⟨w.heap.size + 1, 2, none⟩ (.slice x.2.1 x.1.path.length x.2.2)) x := by
  have h1 := heap_setCell_same wr (w.heap.size + 1) 0 _ _ (.int .i64 x.1.kind) a.m
  have h2 := heap_setCell_same _ (w.heap.size + 1) 1 _ _ (.int .i64 x.1.cost) h1
  have h3 := heap_setCell_same _ (w.heap.size + 1) 2 _ _ (.slice x.2.1 x.1.path.length x.2.2) h2
  refine ⟨((a.below.setCell (by simp) _).setCell (by simp) _).setCell (by simp) _, by simpa [World.setCell] using a.size, ?_, h3⟩
  exact (Below.heap_setCell _ _ _ _ (by simp)).trans ((Below.heap_setCell _ _ _ _ (by simp)).trans ((Below.heap_setCell _ _ _ _ (by simp)).trans a.res))
theorem MinW.answer (a : MinW w wr y) : Below w.heap.size w (((wr.setCell ⟨w.heap.size, 0, none⟩ (.int .i64 y.1.kind)).setCell ⟨w.heap.size, 1, none⟩ (.int .i64 y.1.cost)).setCell ⟨w.heap.size, 2, none⟩ (.slice y.2.1 y.1.path.length y.2.2)) :=
  ((a.below.setCell (by simp) _).setCell (by simp) _).setCell (by simp) _
end
def MinPost (z : RtZ) (L : List RtZ) (w : World) (e : Ending) (w' : World) : Prop := e = .returned (rtZV (L.foldl pickB z)) ∧ Below w.heap.size w w'

/-- What Best hands back: the best one, its list in memory of the call's own. -/
def BestPost (r : Rt) (w : World) (e : Ending) (w' : World) : Prop :=
  ∃ A c, e = .returned (rtV r A c) ∧ Own w' w.heap.size 3 1 A r.path.length c (ints r.path) ∧ (A = none ∨ ∃ g, A = some ⟨g, 0, none⟩) ∧ Below w.heap.size w w'
theorem results_best {w : World} {r : Rt} {A : Option Addr} {c : Nat} {b : Nat} {fr : Nat × Nat} (h : w.heap[b]? = some (.cells #[.int .i64 r.kind, .int .i64 r.cost, .slice A r.path.length c] 24 fr)) :
    w.cell? ⟨b, 0, none⟩ = some (.int .i64 r.kind) ∧ w.cell? ⟨b, 1, none⟩ = some (.int .i64 r.cost) ∧ w.cell? ⟨b, 2, none⟩ = some (.slice A r.path.length c) :=
  ⟨cell_of_row w _ 0 _ _ _ h, cell_of_row w _ 1 _ _ _ h, cell_of_row w _ 2 _ _ _ h⟩
/-- The answer's block: it holds some route. -/
structure OutW (w wr : World) (r : Rt) (A : Option Addr) (c : Nat) : Prop where
  below : Below w.heap.size w wr
  size : w.heap.size < wr.heap.size
  out : wr.heap[w.heap.size]? = some (.cells #[.int .i64 r.kind, .int .i64 r.cost, .slice A r.path.length c] 24 (0, 0))
theorem OutW.begin (w : World) : OutW w (w.alloc (.cells #[.int .i64 0, .int .i64 0, .slice none 0 0] 24)) rtNone none 0 :=
  ⟨(Below.refl _ _).alloc (Nat.le_refl _) _, by simp, heap_alloc_new _ _⟩
section
variable {w wr w' : World} {r x : Rt} {A A' : Option Addr} {c c' : Nat}
theorem OutW.call (a : OutW w wr r A c) (hb : Below wr.heap.size wr w') : OutW w w' r A c :=
  ⟨a.below.trans (hb.mono (by have := a.size; omega)), Nat.lt_of_lt_of_le a.size hb.size, (hb.block _ a.size).trans a.out⟩
theorem OutW.set (a : OutW w wr r A c) (x : Rt) (A' : Option Addr) (c' : Nat) : OutW w (((wr.setCell ⟨w.heap.size, 0, none⟩ (.int .i64 x.kind)).setCell ⟨w.heap.size, 1, none⟩ (.int .i64 x.cost)).setCell ⟨w.heap.size, 2, none⟩ (.slice A' x.path.length c')) x A' c' := by
  have h1 := heap_setCell_same wr w.heap.size 0 _ _ (.int .i64 x.kind) a.out
  have h2 := heap_setCell_same _ w.heap.size 1 _ _ (.int .i64 x.cost) h1
  have h3 := heap_setCell_same _ w.heap.size 2 _ _ (.slice A' x.path.length c') h2
  exact ⟨((a.below.setCell (by simp) _).setCell (by simp) _).setCell (by simp) _, by simpa [World.setCell] using a.size, h3⟩
theorem OutW.setP (a : OutW w wr r A c) (A' : Option Addr) (c' : Nat) : OutW w (wr.setCell ⟨w.heap.size, 2, none⟩ (.slice A' r.path.length c')) r A' c' :=
  ⟨a.below.setCell (by simp) _, by simpa [World.setCell] using a.size, heap_setCell_same wr w.heap.size 2 _ _ _ a.out⟩
theorem OutW.free (a : OutW w wr r A c) (i : Nat) : wr.frozen? ⟨w.heap.size, i, none⟩ = false := frozen_of_row wr _ i _ _ a.out
end
end Go.Proofs.Ytiehlnokidhgfaa

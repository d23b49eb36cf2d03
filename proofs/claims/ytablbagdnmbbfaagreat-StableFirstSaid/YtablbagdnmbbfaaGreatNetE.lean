/- What the walk of Net keeps in its last loop, and at its end. No program is walked here. -/
import Derived.Test.YtablbagdnmbbfaaGreatNetD
namespace Go.Proofs.YtablbagdnmbbfaaGreat
set_option linter.unusedSimpArgs false
set_option linter.unusedVariables false
open Go.RowKit

/-- What follows where the ways meet, behind a name of ours. -/
def Meet (J K : Act → World → Prop) : Prop := ∀ a w, Met J a w → K a w
structure CkIn (p : Net) (x : Ck) : Prop where
  k1 : 1 ≤ x.kind
  k4 : x.kind ≤ 4
  n0 : 0 ≤ x.node
  n1 : x.node < p.nodes.length
  d0 : 0 ≤ x.dest
  d1 : x.dest < p.dests.length
/-- The check, its limit told. -/
def CkA (p : Net) (x : Ck) : Prop := CkIn p x ∧ 0 ≤ x.limit ∧ x.limit ≤ limitOf x ∧ x.other = 0
def CkB (p : Net) (x : Ck) : Prop := CkIn p x ∧ 0 ≤ x.limit ∧ x.limit ≤ limitOf x ∧ 0 ≤ x.other ∧ x.other < othersOf p x
theorem CkB.check {p : Net} {x : Ck} (h : CkB p x) : checkB p x = true := by
  obtain ⟨⟨h1, h2, h3, h4, h5, h6⟩, h7, h8, h9, h10⟩ := h
  unfold checkB kindB placeB withinB
  simp only [Bool.and_eq_true, Bool.or_eq_true, beq_iff_eq, decide_eq_true_eq]
  omega
theorem CkA.limit {p : Net} {x : Ck} {k : Int} (h : CkIn p x) (ho : x.other = 0) (hk : x.kind = 2) (h0 : 0 ≤ k) (h1 : k < 20) : CkA p { x with limit := k } :=
  ⟨⟨h.k1, h.k4, h.n0, h.n1, h.d0, h.d1⟩, h0, by unfold limitOf; rw [if_pos hk]; show k ≤ 65535; omega, ho⟩
theorem CkA.none {p : Net} {x : Ck} (h : CkIn p x) (ho : x.other = 0) (hl : x.limit = 0) : CkA p x :=
  ⟨h, by omega, by unfold limitOf; rw [hl]; split <;> omega, ho⟩
theorem CkB.other {p : Net} {x : Ck} {k : Int} (h : CkA p x) (hk : x.kind = 3 ∨ x.kind = 4) (h0 : 0 ≤ k) (h1 : k < p.nodes.length) : CkB p { x with other := k } := by
  obtain ⟨h, h2, h3, h4⟩ := h
  exact ⟨⟨h.k1, h.k4, h.n0, h.n1, h.d0, h.d1⟩, h2, h3, h0, by unfold othersOf; rw [if_pos hk]; exact h1⟩
theorem CkB.none {p : Net} {x : Ck} (h : CkA p x) (hk : ¬ (x.kind = 3 ∨ x.kind = 4)) : CkB p x := by
  obtain ⟨h, h2, h3, h4⟩ := h
  exact ⟨h, h2, h3, by omega, by unfold othersOf; rw [if_neg hk, h4]; omega⟩
theorem DestsOk.same {p p' : Net} {N : Nat} (a : DestsOk p N) (e : p'.dests = p.dests) : DestsOk p' N := ⟨by rw [e]; exact a.names, by rw [e]; exact a.each⟩
theorem checks_add {p : Net} {x : Ck} (h : ∀ c ∈ p.checks, checkB p c = true) (hx : checkB p x = true) : ∀ c ∈ p.checks ++ [x], checkB { p with checks := p.checks ++ [x] } c = true := by
  intro c hc
  rcases List.mem_append.1 hc with hc | hc
  · exact h c hc
  · simp at hc; subst hc; exact hx
theorem NetOk.of {p : Net} {N : Nat} (hN : 2 ≤ N ∧ N ≤ 7) (hM : Mid p N) (hD : DestsOk p N) (h12 : 1 ≤ p.dests.length ∧ p.dests.length ≤ 2) (h6 : p.checks.length ≤ 6) (hc : ∀ c ∈ p.checks, checkB p c = true) : NetOk p := by
  have hl := hM.nodes.1
  subst hl
  exact ⟨hM.head, hM.k, hN, hM.nodes, hM.l9, hM.links, hM.pairs, h12, hD, h6, hc⟩
theorem grown_set {x y : World} {b i : Nat} {v : Value} (h : x.grownBy y (some b)) : x.grownBy (y.setCell ⟨b, i, none⟩ v) (some b) :=
  ⟨h.os, h.tape, h.output, by simpa [World.setCell] using h.size, fun k hk hne => (Below.heap_setCell _ _ _ _ (by rintro rfl; exact hne rfl)).trans (h.block k hk hne)⟩
/-- The world behind Net. -/
def netEnd (b : Nat) (wr : World) (p : Net) (h : Hd) : World :=
  ((((((wr.setCell ⟨b, 0, none⟩ (.int .i64 p.proto)).setCell ⟨b, 1, none⟩ (.int .i64 p.cap)).setCell ⟨b, 2, none⟩ (.int .i64 p.k)).setCell ⟨b, 3, none⟩ (.slice h.an p.nodes.length h.cn)).setCell ⟨b, 4, none⟩ (.slice h.al p.links.length h.cl)).setCell ⟨b, 5, none⟩ (.slice h.ad p.dests.length h.cd)).setCell ⟨b, 6, none⟩ (.slice h.ac p.checks.length h.cc)
theorem netEnd_grown (b : Nat) (wr : World) (p : Net) (h : Hd) : wr.grownBy (netEnd b wr p h) (some b) :=
  grown_set (grown_set (grown_set (grown_set (grown_set (grown_set (grown_set (World.grownBy.refl _ _)))))))
theorem NS.post {w wr : World} {p : Net} {h : Hd} (a : NS w wr p h) (hp : NetOk p) : NetPost w (.returned (netV p h)) (netEnd w.heap.size wr p h) := by
  obtain ⟨h1, h2⟩ := a.b.answer (netEnd_grown _ _ _ _)
  exact ⟨p, h, rfl, hp, h1, h2⟩
theorem NS.res {w wr : World} {p : Net} {h : Hd} (a : NS w wr p h) : (∀ i, wr.frozen? ⟨w.heap.size, i, none⟩ = false) ∧ wr.cell? ⟨w.heap.size, 0, none⟩ = some (.int .i64 0) ∧ wr.cell? ⟨w.heap.size, 1, none⟩ = some (.int .i64 0) ∧ wr.cell? ⟨w.heap.size, 2, none⟩ = some (.int .i64 0) ∧
    wr.cell? ⟨w.heap.size, 3, none⟩ = some (.slice none 0 0) ∧ wr.cell? ⟨w.heap.size, 4, none⟩ = some (.slice none 0 0) ∧ wr.cell? ⟨w.heap.size, 5, none⟩ = some (.slice none 0 0) ∧ wr.cell? ⟨w.heap.size, 6, none⟩ = some (.slice none 0 0) :=
  ⟨fun i => frozen_of_row wr _ i _ _ a.b.res, cell_of_row wr _ 0 _ _ _ a.b.res, cell_of_row wr _ 1 _ _ _ a.b.res, cell_of_row wr _ 2 _ _ _ a.b.res, cell_of_row wr _ 3 _ _ _ a.b.res, cell_of_row wr _ 4 _ _ _ a.b.res, cell_of_row wr _ 5 _ _ _ a.b.res, cell_of_row wr _ 6 _ _ _ a.b.res⟩
end Go.Proofs.YtablbagdnmbbfaaGreat

/- What the walk of Net keeps. No program is walked here. -/
import Derived.Test.YtablbagdnmbbfaaGreatSrc
namespace Go.Proofs.YtablbagdnmbbfaaGreat
set_option linter.unusedSimpArgs false
set_option linter.unusedVariables false
open Go.RowKit

theorem Own.kept' {w w' : World} {B s n c : Nat} {e : TypeId} {A : Option Addr} {xs : List Value} {row : Option Nat} (h : Own w B e s A n c xs) (hg : w.grownBy w' row) (hne : 0 < c → blk A ≠ row) : Own w' B e s A n c xs := by
  obtain ⟨h1, h2, h3, h4, hb, h5⟩ := h
  refine ⟨h1, h2, h3, h4, hb, fun hc => ?_⟩
  obtain ⟨g, off, cur, rfl, hh, r⟩ := h5 hc
  refine ⟨g, off, cur, rfl, ?_, r⟩
  rw [hg.block g (lt_heap hh) (by have := hne hc; simpa [blk] using this)]
  exact hh
/-- Rows of different types lie in different blocks. -/
theorem own_apart {w : World} {B B' s s' n n' c c' : Nat} {e e' : TypeId} {A A' : Option Addr} {xs xs' : List Value} (h : Own w B e s A n c xs) (h' : Own w B' e' s' A' n' c' xs') (he : e ≠ e') (hz : c' = 0 → A' = none) : 0 < c → blk A ≠ blk A' := by
  intro hc hb
  obtain ⟨g, off, cur, rfl, hh, _⟩ := h.2.2.2.2.2 hc
  by_cases hc' : c' = 0
  · rw [hz hc'] at hb; simp [blk] at hb
  · obtain ⟨g', off', cur', rfl, hh', _⟩ := h'.2.2.2.2.2 (by omega)
    simp [blk] at hb
    subst hb
    rw [hh] at hh'
    injection hh' with hh'
    injection hh' with _ h2
    exact he h2

def zeroCells : Array Value := #[.int .i64 0, .int .i64 0, .int .i64 0, .slice none 0 0, .slice none 0 0, .slice none 0 0, .slice none 0 0]
/-- All but the plan's own block. -/
structure NB (w wr : World) (p : Net) (h : Hd) : Prop where
  below : Below w.heap.size w wr
  size : w.heap.size + 3 ≤ wr.heap.size
  src : Src w.heap.size (w.heap.size + 1) wr
  res : wr.heap[w.heap.size]? = some (.cells zeroCells 30 (0, 0))
  nodes : Own wr (w.heap.size + 3) 50 2 h.an p.nodes.length h.cn (p.nodes.flatMap ndCells)
  links : Own wr (w.heap.size + 3) 60 3 h.al p.links.length h.cl (p.links.flatMap lkCells)
  dlen : h.dv.length = p.dests.length
  dests : Own wr (w.heap.size + 3) 55 2 h.ad p.dests.length h.cd ((p.dests.zip h.dv).flatMap dsCells)
  origins : ∀ z ∈ p.dests.zip h.dv, Own wr (w.heap.size + 3) 3 1 z.2.1 z.1.origins.length z.2.2 (ints z.1.origins)
  checks : Own wr (w.heap.size + 3) 73 5 h.ac p.checks.length h.cc (p.checks.flatMap ckCells)
  zn : h.cn = 0 → h.an = none
  zl : h.cl = 0 → h.al = none
  zd : h.cd = 0 → h.ad = none
  zc : h.cc = 0 → h.ac = none
/-- .. and the plan's own block. -/
structure NS (w wr : World) (p : Net) (h : Hd) : Prop where
  b : NB w wr p h
  plan : wr.heap[w.heap.size + 1 + 1]? = some (.cells (netCells p h) 30 (0, 0))
section
variable {w wr w' w2 : World} {p p' : Net} {h : Hd}
theorem Own.far {B B' s n c : Nat} {e : TypeId} {A : Option Addr} {xs : List Value} (h : Own w B e s A n c xs) (hB : B' < B) (hg : w.grownBy w' (some B')) : Own w' B e s A n c xs :=
  h.kept' hg (fun _ e => by have := h.from_ _ e; omega)
/-- Behind steps that turn the source alone. -/
theorem NS.next (a : NS w wr p h) (hg : wr.grownBy w' (some (w.heap.size + 1))) (hs : Src w.heap.size (w.heap.size + 1) w') : NS w w' p h := by
  obtain ⟨⟨h1, h2, h3, h4, h5, h6, h7, h8, h9, h10, z1, z2, z3, z4⟩, h11⟩ := a
  have hsz := hg.size
  refine ⟨⟨h1.grown hg (by omega) (fun g hg => by injection hg with hg; omega), by omega, hs, ?_, h5.far (by omega) hg, h6.far (by omega) hg, h7, h8.far (by omega) hg, fun z hz => (h9 z hz).far (by omega) hg, h10.far (by omega) hg, z1, z2, z3, z4⟩, ?_⟩
  · rw [hg.block _ (by omega) (by simp)]; exact h4
  · rw [hg.block _ (by omega) (by simp)]; exact h11
theorem NS.cells (a : NS w wr p h) (i : Nat) : wr.cell? ⟨w.heap.size + 1 + 1, i, none⟩ = (netCells p h)[i]? := cell_of_row wr _ i _ _ _ a.plan
theorem NS.free (a : NS w wr p h) (i : Nat) : wr.frozen? ⟨w.heap.size + 1 + 1, i, none⟩ = false := frozen_of_row wr _ i _ _ a.plan
theorem NS.all (a : NS w wr p h) : wr.cell? ⟨w.heap.size + 1 + 1, 0, none⟩ = some (.int .i64 p.proto) ∧ wr.cell? ⟨w.heap.size + 1 + 1, 1, none⟩ = some (.int .i64 p.cap) ∧ wr.cell? ⟨w.heap.size + 1 + 1, 2, none⟩ = some (.int .i64 p.k) ∧
    wr.cell? ⟨w.heap.size + 1 + 1, 3, none⟩ = some (.slice h.an p.nodes.length h.cn) ∧ wr.cell? ⟨w.heap.size + 1 + 1, 4, none⟩ = some (.slice h.al p.links.length h.cl) ∧ wr.cell? ⟨w.heap.size + 1 + 1, 5, none⟩ = some (.slice h.ad p.dests.length h.cd) ∧ wr.cell? ⟨w.heap.size + 1 + 1, 6, none⟩ = some (.slice h.ac p.checks.length h.cc) :=
  ⟨a.cells 0, a.cells 1, a.cells 2, a.cells 3, a.cells 4, a.cells 5, a.cells 6⟩
theorem NB.set (a : NB w wr p h) (i : Nat) (v : Value) : NB w (wr.setCell ⟨w.heap.size + 1 + 1, i, none⟩ v) p h := by
  obtain ⟨h1, h2, h3, h4, h5, h6, h7, h8, h9, h10, z1, z2, z3, z4⟩ := a
  have hf : ∀ {s n c : Nat} {e : TypeId} {A : Option Addr} {xs : List Value}, Own wr (w.heap.size + 3) e s A n c xs → Own (wr.setCell ⟨w.heap.size + 1 + 1, i, none⟩ v) (w.heap.size + 3) e s A n c xs :=
    fun h => h.setCell_far (fun g hg => by have := h.from_ g hg; simp; omega) v
  obtain ⟨A, l, c, s1, s2, s3, s4⟩ := h3
  refine ⟨h1.setCell (by simp; omega) _, by simpa [World.setCell] using h2, ⟨A, l, c, (Below.heap_setCell _ _ _ _ (by simp <;> omega)).trans s1, s2, s3, s4.setCell (by simp; omega) _⟩, (Below.heap_setCell _ _ _ _ (by simp <;> omega)).trans h4, hf h5, hf h6, h7, hf h8, fun z hz => hf (h9 z hz), hf h10, z1, z2, z3, z4⟩
theorem NS.set (a : NS w wr p h) (i : Nat) (v : Value) (hp : netCells p' h = (netCells p h).setIfInBounds i v) (e1 : p'.nodes = p.nodes) (e2 : p'.links = p.links) (e3 : p'.dests = p.dests) (e4 : p'.checks = p.checks) : NS w (wr.setCell ⟨w.heap.size + 1 + 1, i, none⟩ v) p' h := by
  have hb := a.b.set i v
  refine ⟨?_, by rw [hp, heap_setCell_same _ _ _ _ _ _ a.plan]⟩
  obtain ⟨h1, h2, h3, h4, h5, h6, h7, h8, h9, h10, z1, z2, z3, z4⟩ := hb
  exact ⟨h1, h2, h3, h4, by rw [e1]; exact h5, by rw [e2]; exact h6, by rw [e3]; exact h7, by rw [e3]; exact h8, by rw [e3]; exact h9, by rw [e4]; exact h10, z1, z2, z3, z4⟩
theorem Src.kept {B b : Nat} {row : Option Nat} (h : Src B b wr) (hg : wr.grownBy w' row) (hbB : B ≤ b) (hbw : b < wr.heap.size) (hr : ∀ g, row = some g → b < g) : Src B b w' :=
  h.grown hg (fun e => by have := hr b e; omega) (by omega) (fun g hg => by have := hr g hg; omega)
/-- What is not touched by an append to a row of the call's own. -/
theorem NS.base (a : NS w wr p h) {row : Option Nat} (hg : wr.grownBy w' row) (hr : ∀ g, row = some g → w.heap.size + 3 ≤ g) :
    Below w.heap.size w w' ∧ w.heap.size + 3 ≤ w'.heap.size ∧ Src w.heap.size (w.heap.size + 1) w' ∧ w'.heap[w.heap.size]? = some (.cells zeroCells 30 (0, 0)) ∧ w'.heap[w.heap.size + 1 + 1]? = some (.cells (netCells p h) 30 (0, 0)) := by
  have hsz := hg.size
  have h2 := a.b.size
  refine ⟨a.b.below.grown hg (by omega) (fun g hg => by have := hr g hg; omega), by omega, a.b.src.kept hg (by omega) (by omega) (fun g hg => by have := hr g hg; omega), ?_, ?_⟩
  · rw [hg.block _ (by omega) (fun e => by have := hr _ e.symm; omega)]; exact a.b.res
  · rw [hg.block _ (by omega) (fun e => by have := hr _ e.symm; omega)]; exact a.plan
theorem flat_snoc {α : Type} (f : α → List Value) (l : List α) (x : α) : (l ++ [x]).flatMap f = l.flatMap f ++ f x := by simp
theorem NS.addNode (a : NS w wr p h) {x : Nd} {A2 : Option Addr} {c2 : Nat} (hg : wr.grownBy w2 (blk h.an)) (hown : Own w2 (w.heap.size + 3) 50 2 A2 (p.nodes.length + 1) c2 (p.nodes.flatMap ndCells ++ ndCells x)) :
    NS w (w2.setCell ⟨w.heap.size + 1 + 1, 3, none⟩ (.slice A2 (p.nodes.length + 1) c2)) { p with nodes := p.nodes ++ [x] } { h with an := A2, cn := c2 } := by
  obtain ⟨b1, b2, b3, b4, b5⟩ := a.base hg a.b.nodes.from_
  obtain ⟨⟨h1, h2, h3, h4, h5, h6, h7, h8, h9, h10, z1, z2, z3, z4⟩, h11⟩ := a
  refine ⟨NB.set (p := { p with nodes := p.nodes ++ [x] }) (h := { h with an := A2, cn := c2 }) ⟨b1, b2, b3, b4, ?_, h6.kept' hg (own_apart h6 h5 (by decide) z1), h7, h8.kept' hg (own_apart h8 h5 (by decide) z1), fun z hz => (h9 z hz).kept' hg (own_apart (h9 z hz) h5 (by decide) z1), h10.kept' hg (own_apart h10 h5 (by decide) z1), ?_, z2, z3, z4⟩ 3 _, ?_⟩
  · rw [flat_snoc]; simpa using hown
  · intro e; have := hown.2.1; simp at e; omega
  · rw [heap_setCell_same _ _ _ _ _ _ b5]; simp [netCells]
theorem NS.addLink (a : NS w wr p h) {x : Lk} {A2 : Option Addr} {c2 : Nat} (hg : wr.grownBy w2 (blk h.al)) (hown : Own w2 (w.heap.size + 3) 60 3 A2 (p.links.length + 1) c2 (p.links.flatMap lkCells ++ lkCells x)) :
    NS w (w2.setCell ⟨w.heap.size + 1 + 1, 4, none⟩ (.slice A2 (p.links.length + 1) c2)) { p with links := p.links ++ [x] } { h with al := A2, cl := c2 } := by
  obtain ⟨b1, b2, b3, b4, b5⟩ := a.base hg a.b.links.from_
  obtain ⟨⟨h1, h2, h3, h4, h5, h6, h7, h8, h9, h10, z1, z2, z3, z4⟩, h11⟩ := a
  refine ⟨NB.set (p := { p with links := p.links ++ [x] }) (h := { h with al := A2, cl := c2 }) ⟨b1, b2, b3, b4, h5.kept' hg (own_apart h5 h6 (by decide) z2), ?_, h7, h8.kept' hg (own_apart h8 h6 (by decide) z2), fun z hz => (h9 z hz).kept' hg (own_apart (h9 z hz) h6 (by decide) z2), h10.kept' hg (own_apart h10 h6 (by decide) z2), z1, ?_, z3, z4⟩ 4 _, ?_⟩
  · rw [flat_snoc]; simpa using hown
  · intro e; have := hown.2.1; simp at e; omega
  · rw [heap_setCell_same _ _ _ _ _ _ b5]; simp [netCells]
theorem NS.addCheck (a : NS w wr p h) {x : Ck} {A2 : Option Addr} {c2 : Nat} (hg : wr.grownBy w2 (blk h.ac)) (hown : Own w2 (w.heap.size + 3) 73 5 A2 (p.checks.length + 1) c2 (p.checks.flatMap ckCells ++ ckCells x)) :
    NS w (w2.setCell ⟨w.heap.size + 1 + 1, 6, none⟩ (.slice A2 (p.checks.length + 1) c2)) { p with checks := p.checks ++ [x] } { h with ac := A2, cc := c2 } := by
  obtain ⟨b1, b2, b3, b4, b5⟩ := a.base hg a.b.checks.from_
  obtain ⟨⟨h1, h2, h3, h4, h5, h6, h7, h8, h9, h10, z1, z2, z3, z4⟩, h11⟩ := a
  refine ⟨NB.set (p := { p with checks := p.checks ++ [x] }) (h := { h with ac := A2, cc := c2 }) ⟨b1, b2, b3, b4, h5.kept' hg (own_apart h5 h10 (by decide) z4), h6.kept' hg (own_apart h6 h10 (by decide) z4), h7, h8.kept' hg (own_apart h8 h10 (by decide) z4), fun z hz => (h9 z hz).kept' hg (own_apart (h9 z hz) h10 (by decide) z4), ?_, z1, z2, z3, ?_⟩ 6 _, ?_⟩
  · rw [flat_snoc]; simpa using hown
  · intro e; have := hown.2.1; simp at e; omega
  · rw [heap_setCell_same _ _ _ _ _ _ b5]; simp [netCells]
theorem NS.addDest (a : NS w wr p h) {x : Ds} {o : Option Addr × Nat} {A2 : Option Addr} {c2 : Nat} (ho : Own wr (w.heap.size + 3) 3 1 o.1 x.origins.length o.2 (ints x.origins)) (hg : wr.grownBy w2 (blk h.ad))
    (hown : Own w2 (w.heap.size + 3) 55 2 A2 (p.dests.length + 1) c2 ((p.dests.zip h.dv).flatMap dsCells ++ dsCells (x, o))) :
    NS w (w2.setCell ⟨w.heap.size + 1 + 1, 5, none⟩ (.slice A2 (p.dests.length + 1) c2)) { p with dests := p.dests ++ [x] } { h with ad := A2, cd := c2, dv := h.dv ++ [o] } := by
  obtain ⟨b1, b2, b3, b4, b5⟩ := a.base hg a.b.dests.from_
  obtain ⟨⟨h1, h2, h3, h4, h5, h6, h7, h8, h9, h10, z1, z2, z3, z4⟩, h11⟩ := a
  have hz : (p.dests ++ [x]).zip (h.dv ++ [o]) = p.dests.zip h.dv ++ [(x, o)] := by rw [List.zip_append h7.symm]; rfl
  refine ⟨NB.set (p := { p with dests := p.dests ++ [x] }) (h := { h with ad := A2, cd := c2, dv := h.dv ++ [o] }) ⟨b1, b2, b3, b4, h5.kept' hg (own_apart h5 h8 (by decide) z3), h6.kept' hg (own_apart h6 h8 (by decide) z3), by simp [h7], ?_, ?_, h10.kept' hg (own_apart h10 h8 (by decide) z3), z1, z2, ?_, z4⟩ 5 _, ?_⟩
  · rw [hz, flat_snoc]; simpa using hown
  · intro z hzm
    rw [hz] at hzm
    rcases List.mem_append.1 hzm with hzm | hzm
    · exact (h9 z hzm).kept' hg (own_apart (h9 z hzm) h8 (by decide) z3)
    · simp at hzm; subst hzm
      exact ho.kept' hg (own_apart ho h8 (by decide) z3)
  · intro e; have := hown.2.1; simp at e; omega
  · rw [heap_setCell_same _ _ _ _ _ _ b5]; simp [netCells]
/-- As it reads. -/
theorem NS.net (a : NS w wr p h) : NetR wr wr.heap.size p h :=
  ⟨a.b.nodes.rd, a.b.links.rd, a.b.dlen, a.b.dests.rd, fun z hz => (a.b.origins z hz).rd, a.b.checks.rd⟩
end
end Go.Proofs.YtablbagdnmbbfaaGreat

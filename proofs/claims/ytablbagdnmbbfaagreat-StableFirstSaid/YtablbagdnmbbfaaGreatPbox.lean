/- A network in a box. No program is walked here. -/
import Derived.Test.YtablbagdnmbbfaaGreatNetD
namespace Go.Proofs.YtablbagdnmbbfaaGreat
set_option linter.unusedSimpArgs false
set_option linter.unusedVariables false
open Go.RowKit

/-- Block b holds a network, which reads. -/
structure PB (w0 wr : World) (b : Nat) (p : Net) (h : Hd) : Prop where
  below : Below w0.heap.size w0 wr
  lt : b < wr.heap.size
  cells : ∀ i u, (netCells p h)[i]? = some u → wr.cell? ⟨b, i, none⟩ = some u
  net : NetR wr wr.heap.size p h
section
variable {w0 wr w' : World} {b : Nat} {p : Net} {h : Hd}
theorem PB.call (a : PB w0 wr b p h) (hb : Below wr.heap.size wr w') : PB w0 w' b p h :=
  ⟨a.below.trans (hb.mono a.below.size), Nat.lt_of_lt_of_le a.lt hb.size, fun i u hu => (hb.cell (p := ⟨b, i, none⟩) a.lt).trans (a.cells i u hu), a.net.call hb⟩
theorem PB.all (a : PB w0 wr b p h) : wr.cell? ⟨b, 0, none⟩ = some (.int .i64 p.proto) ∧ wr.cell? ⟨b, 1, none⟩ = some (.int .i64 p.cap) ∧ wr.cell? ⟨b, 2, none⟩ = some (.int .i64 p.k) ∧ wr.cell? ⟨b, 3, none⟩ = some (.slice h.an p.nodes.length h.cn) ∧
    wr.cell? ⟨b, 4, none⟩ = some (.slice h.al p.links.length h.cl) ∧ wr.cell? ⟨b, 5, none⟩ = some (.slice h.ad p.dests.length h.cd) ∧ wr.cell? ⟨b, 6, none⟩ = some (.slice h.ac p.checks.length h.cc) :=
  ⟨a.cells 0 _ rfl, a.cells 1 _ rfl, a.cells 2 _ rfl, a.cells 3 _ rfl, a.cells 4 _ rfl, a.cells 5 _ rfl, a.cells 6 _ rfl⟩
theorem PB.begin (hb : Below w0.heap.size w0 wr) (hn : NetR wr wr.heap.size p h) : PB w0 (wr.alloc (.cells (netCells p h) 30)) wr.heap.size p h :=
  ⟨hb.alloc hb.size _, by simp, fun i u hu => by rw [cell_of_row _ _ i _ _ _ (heap_alloc_new wr (.cells (netCells p h) 30))]; exact hu, (hn.alloc (Nat.le_refl _) _).more (by simp)⟩
end

/-- A network is handed back. -/
def PairPost (q : Net) (w : World) (e : Ending) (w' : World) : Prop := ∃ h, e = .returned (netV q h) ∧ NetR w' w'.heap.size q h ∧ Below w.heap.size w w'
end Go.Proofs.YtablbagdnmbbfaaGreat

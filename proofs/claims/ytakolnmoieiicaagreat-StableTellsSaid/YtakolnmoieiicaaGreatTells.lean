/- Two networks in one row, one of them in a box. No program is walked here. -/
import Derived.Test.YtakolnmoieiicaaGreatNetD
import Derived.Test.YtakolnmoieiicaaGreatRegs
namespace Go.Proofs.YtakolnmoieiicaaGreat
set_option linter.unusedSimpArgs false
set_option linter.unusedVariables false
open Go.RowKit

/-- Two networks in one row, which read. -/
structure GS (w wx : World) (bs : Nat) (p1 : Net) (h1 : Hd) (p2 : Net) (h2 : Hd) : Prop where
  below : Below w.heap.size w wx
  row : wx.heap[bs]? = some (.cells (netCells p1 h1 ++ netCells p2 h2) 30 (0, 0))
  n1 : NetR wx wx.heap.size p1 h1
  n2 : NetR wx wx.heap.size p2 h2
section
variable {w wx wy : World} {bs : Nat} {p1 p2 : Net} {h1 h2 : Hd}
theorem GS.call (a : GS w wx bs p1 h1 p2 h2) (hb : Below wx.heap.size wx wy) : GS w wy bs p1 h1 p2 h2 := ⟨since_trans a.below hb, (hb.block _ (lt_heap a.row)).trans a.row, a.n1.call hb, a.n2.call hb⟩
theorem GS.at1 (a : GS w wx bs p1 h1 p2 h2) : wx.cell? ⟨bs, 0, none⟩ = some (.int .i64 p1.proto) ∧ wx.cell? ⟨bs, 1, none⟩ = some (.int .i64 p1.cap) ∧ wx.cell? ⟨bs, 2, none⟩ = some (.int .i64 p1.k) ∧ wx.cell? ⟨bs, 3, none⟩ = some (.slice h1.an p1.nodes.length h1.cn) ∧
    wx.cell? ⟨bs, 4, none⟩ = some (.slice h1.al p1.links.length h1.cl) ∧ wx.cell? ⟨bs, 5, none⟩ = some (.slice h1.ad p1.dests.length h1.cd) ∧ wx.cell? ⟨bs, 6, none⟩ = some (.slice h1.ac p1.checks.length h1.cc) :=
  ⟨cell_of_row wx _ 0 _ _ _ a.row, cell_of_row wx _ 1 _ _ _ a.row, cell_of_row wx _ 2 _ _ _ a.row, cell_of_row wx _ 3 _ _ _ a.row, cell_of_row wx _ 4 _ _ _ a.row, cell_of_row wx _ 5 _ _ _ a.row, cell_of_row wx _ 6 _ _ _ a.row⟩
theorem GS.at2 (a : GS w wx bs p1 h1 p2 h2) : wx.cell? ⟨bs, 7, none⟩ = some (.int .i64 p2.proto) ∧ wx.cell? ⟨bs, 8, none⟩ = some (.int .i64 p2.cap) ∧ wx.cell? ⟨bs, 9, none⟩ = some (.int .i64 p2.k) ∧ wx.cell? ⟨bs, 10, none⟩ = some (.slice h2.an p2.nodes.length h2.cn) ∧
    wx.cell? ⟨bs, 11, none⟩ = some (.slice h2.al p2.links.length h2.cl) ∧ wx.cell? ⟨bs, 12, none⟩ = some (.slice h2.ad p2.dests.length h2.cd) ∧ wx.cell? ⟨bs, 13, none⟩ = some (.slice h2.ac p2.checks.length h2.cc) :=
  ⟨cell_of_row wx _ 7 _ _ _ a.row, cell_of_row wx _ 8 _ _ _ a.row, cell_of_row wx _ 9 _ _ _ a.row, cell_of_row wx _ 10 _ _ _ a.row, cell_of_row wx _ 11 _ _ _ a.row, cell_of_row wx _ 12 _ _ _ a.row, cell_of_row wx _ 13 _ _ _ a.row⟩
/-- .. and one of them in a box. -/
structure GB (w wx : World) (bs : Nat) (p1 : Net) (h1 : Hd) (p2 : Net) (h2 : Hd) (b : Nat) (p : Net) (h : Hd) : Prop where
  gs : GS w wx bs p1 h1 p2 h2
  box : wx.heap[b]? = some (.cells (netCells p h) 30 (0, 0))
  net : NetR wx wx.heap.size p h
variable {b : Nat} {p : Net} {h : Hd}
theorem GB.call (a : GB w wx bs p1 h1 p2 h2 b p h) (hb : Below wx.heap.size wx wy) : GB w wy bs p1 h1 p2 h2 b p h := ⟨a.gs.call hb, (hb.block _ (lt_heap a.box)).trans a.box, a.net.call hb⟩
theorem GB.all (a : GB w wx bs p1 h1 p2 h2 b p h) : wx.cell? ⟨b, 0, none⟩ = some (.int .i64 p.proto) ∧ wx.cell? ⟨b, 1, none⟩ = some (.int .i64 p.cap) ∧ wx.cell? ⟨b, 2, none⟩ = some (.int .i64 p.k) ∧ wx.cell? ⟨b, 3, none⟩ = some (.slice h.an p.nodes.length h.cn) ∧
    wx.cell? ⟨b, 4, none⟩ = some (.slice h.al p.links.length h.cl) ∧ wx.cell? ⟨b, 5, none⟩ = some (.slice h.ad p.dests.length h.cd) ∧ wx.cell? ⟨b, 6, none⟩ = some (.slice h.ac p.checks.length h.cc) :=
  ⟨cell_of_row wx _ 0 _ _ _ a.box, cell_of_row wx _ 1 _ _ _ a.box, cell_of_row wx _ 2 _ _ _ a.box, cell_of_row wx _ 3 _ _ _ a.box, cell_of_row wx _ 4 _ _ _ a.box, cell_of_row wx _ 5 _ _ _ a.box, cell_of_row wx _ 6 _ _ _ a.box⟩
end
end Go.Proofs.YtakolnmoieiicaaGreat

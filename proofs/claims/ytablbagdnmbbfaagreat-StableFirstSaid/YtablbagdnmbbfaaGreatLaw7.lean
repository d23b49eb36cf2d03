/- What the walks of layer 7's statements share: a network, and routes, each in a box. No program is walked here. -/
import Derived.Test.YtablbagdnmbbfaaGreatPbox
import Derived.Test.YtablbagdnmbbfaaGreatRtBox
import Derived.Test.YtablbagdnmbbfaaGreatAttrB
namespace Go.Proofs.YtablbagdnmbbfaaGreat
set_option linter.unusedSimpArgs false
set_option linter.unusedVariables false
open Go.RowKit

/-- Block b holds a network, further blocks routes; all read. -/
structure NW (w0 wr : World) (b : Nat) (p : Net) (h : Hd) (L : List (Nat × RtZ)) : Prop where
  pb : PB w0 wr b p h
  each : ∀ z ∈ L, Box wr z.1 z.2.1 z.2.2.1 z.2.2.2
section
variable {w0 wr w' : World} {b : Nat} {p : Net} {h : Hd} {L : List (Nat × RtZ)}
theorem NW.call (a : NW w0 wr b p h L) (hb : Below wr.heap.size wr w') : NW w0 w' b p h L := ⟨a.pb.call hb, fun z hz => (a.each z hz).call hb⟩
theorem NW.push (a : NW w0 wr b p h L) {r : Rt} {A : Option Addr} {c : Nat} (hr : RtR wr wr.heap.size r A c) : NW w0 (wr.alloc (.cells #[.int .i64 r.kind, .int .i64 r.cost, .slice A r.path.length c] 53)) b p h ((wr.heap.size, (r, (A, c))) :: L) := by
  have hb : Below wr.heap.size wr (wr.alloc (.cells #[.int .i64 r.kind, .int .i64 r.cost, .slice A r.path.length c] 53)) := (Below.refl _ _).alloc (Nat.le_refl _) _
  refine ⟨a.pb.call hb, fun z hz => ?_⟩
  rcases List.mem_cons.1 hz with rfl | hz
  · exact Box.new hr
  · exact (a.each z hz).call hb
theorem NW.drew (a : NW w0 wr b p h L) : NW w0 wr.drew b p h L := a.call (below_drew (Below.refl _ _))
theorem NW.box {z : Nat × RtZ} (a : NW w0 wr b p h L) (hz : z ∈ L) : Box wr z.1 z.2.1 z.2.2.1 z.2.2.2 := a.each z hz
theorem NW.net (a : NW w0 wr b p h L) : NetR wr wr.heap.size p h := a.pb.net
end
end Go.Proofs.YtablbagdnmbbfaaGreat

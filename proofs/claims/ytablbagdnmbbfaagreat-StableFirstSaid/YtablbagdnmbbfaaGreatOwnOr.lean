/- A list of numbers of the call's own, or none; a route with such a list. No program is walked here. -/
import Derived.Test.YtablbagdnmbbfaaGreatRt
import Derived.Test.YtablbagdnmbbfaaGreatBl
namespace Go.Proofs.YtablbagdnmbbfaaGreat
set_option linter.unusedSimpArgs false
set_option linter.unusedVariables false
open Go.RowKit

/-- A list of the call's own from block B on, or none. -/
def OwnOr (w : World) (B : Nat) (A : Option Addr) (c : Nat) (l : List Int) : Prop := Own w B 3 1 A l.length c (ints l) ∨ (l = [] ∧ c ≤ maxLen)
section
variable {w w' : World} {B : Nat} {A : Option Addr} {c : Nat} {l : List Int}
theorem OwnOr.rt (h : OwnOr w B A c l) (k co : Int) : RtR w w.heap.size ⟨k, co, l⟩ A c := by
  rcases h with h | ⟨rfl, h⟩
  · exact ⟨h.rd, h.2.1, h.2.2.1⟩
  · exact ⟨Rd.nil _, Nat.zero_le _, h⟩
theorem OwnOr.call (h : OwnOr w B A c l) (hb : Below w.heap.size w w') : OwnOr w' B A c l := h.imp (fun h => h.call hb) id
theorem OwnOr.alloc (h : OwnOr w B A c l) (o : Obj) : OwnOr (w.alloc o) B A c l := h.imp (fun h => h.alloc o) id
theorem OwnOr.more {B' : Nat} (h : OwnOr w B A c l) (hB : B' ≤ B) : OwnOr w B' A c l := h.imp (fun h => h.more hB) id
theorem OwnOr.far (h : OwnOr w B A c l) {q : Addr} (hq : q.block < B) (u : Value) : OwnOr (w.setCell q u) B A c l :=
  h.imp (fun h => h.setCell_far (fun g hg => by have := h.from_ g hg; omega) u) id
theorem OwnOr.nil : OwnOr w B none 0 [] := .inl (Own.nil _ _ _ _)
end
/-- A route is handed back, its list in memory of the call's own. -/
def OrPost (r : Rt) (w : World) (e : Ending) (w' : World) : Prop := ∃ A c, e = .returned (rtV r A c) ∧ OwnOr w' w.heap.size A c r.path ∧ Below w.heap.size w w'
end Go.Proofs.YtablbagdnmbbfaaGreat

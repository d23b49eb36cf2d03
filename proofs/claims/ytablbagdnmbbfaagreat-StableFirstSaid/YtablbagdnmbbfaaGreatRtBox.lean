/- A route in a box of its own; what came in behind calls. No program is walked here. -/
import Derived.Test.YtablbagdnmbbfaaGreatAttrX
import Derived.Test.YtablbagdnmbbfaaGreatAttrR
import Derived.Test.YtablbagdnmbbfaaGreatOpen
namespace Go.Proofs.YtablbagdnmbbfaaGreat
set_option linter.unusedSimpArgs false
set_option linter.unusedVariables false
open Go.RowKit

/-- Block b holds a route, whose list reads. -/
structure Box (w : World) (b : Nat) (r : Rt) (A : Option Addr) (c : Nat) : Prop where
  box : w.heap[b]? = some (.cells #[.int .i64 r.kind, .int .i64 r.cost, .slice A r.path.length c] 53 (0, 0))
  rt : RtR w w.heap.size r A c
section
variable {w w' : World} {b : Nat} {r : Rt} {A : Option Addr} {c : Nat}
theorem RtR.of_own {B : Nat} (h : Own w B 3 1 A r.path.length c (ints r.path)) : RtR w w.heap.size r A c := ⟨h.rd, h.2.1, h.2.2.1⟩
theorem Box.new (h : RtR w w.heap.size r A c) : Box (w.alloc (.cells #[.int .i64 r.kind, .int .i64 r.cost, .slice A r.path.length c] 53)) w.heap.size r A c :=
  ⟨heap_alloc_new _ _, (h.alloc (Nat.le_refl _) _).more (by simp)⟩
theorem Box.lt (h : Box w b r A c) : b < w.heap.size := lt_heap h.box
theorem Box.call (h : Box w b r A c) (hb : Below w.heap.size w w') : Box w' b r A c := ⟨(hb.block _ h.lt).trans h.box, h.rt.call hb⟩
theorem Box.alloc (h : Box w b r A c) (o : Obj) : Box (w.alloc o) b r A c := h.call ((Below.refl _ _).alloc (Nat.le_refl _) o)
theorem Box.at_ (h : Box w b r A c) : w.cell? ⟨b, 0, none⟩ = some (.int .i64 r.kind) ∧ w.cell? ⟨b, 1, none⟩ = some (.int .i64 r.cost) ∧ w.cell? ⟨b, 2, none⟩ = some (.slice A r.path.length c) :=
  ⟨cell_of_row w _ 0 _ _ _ h.box, cell_of_row w _ 1 _ _ _ h.box, cell_of_row w _ 2 _ _ _ h.box⟩
end
theorem betterB_iff (a b : Rt) : betterB a b = true ↔ ltR a b := by unfold betterB; rw [decide_eq_true_eq, cmpR_neg]
theorem betterB_self (a : Rt) : betterB a a = false := by
  cases h : betterB a a with
  | false => rfl
  | true => exact absurd ((betterB_iff a a).1 h) (ltR_irrefl a)
theorem betterB_asymm {a b : Rt} (h : betterB a b = true) : betterB b a = false := by
  cases h' : betterB b a with
  | false => rfl
  | true => exact (ltR_asymm ((betterB_iff a b).1 h) ((betterB_iff b a).1 h')).elim
theorem betterB_trans {a b c : Rt} (h : betterB a b = true) (h' : betterB b c = true) : betterB a c = true :=
  (betterB_iff a c).2 (ltR_trans ((betterB_iff a b).1 h) ((betterB_iff b c).1 h'))
theorem RtOk.kinds {r : Rt} (h : RtOk r) : 0 ≤ r.kind ∧ r.kind ≤ 2 := by rcases h.kind with e | e | e <;> rw [e] <;> decide
theorem betterB_total {a b : Rt} (ha : RtOk a) (hb : RtOk b) (h : a ≠ b) : betterB a b = true ∨ betterB b a = true := by
  rcases ltR_total ha.kinds hb.kinds h with h | h
  · exact .inl ((betterB_iff a b).2 h)
  · exact .inr ((betterB_iff b a).2 h)
theorem RtOk.short {r : Rt} (h : RtOk r) : r.path.length ≤ 12 := by
  rcases h.kind with e | e | e
  · rw [h.k0 e]; simp [rtNone]
  · rw [(h.k1 e).2.2]; simp
  · exact (h.k2 e).2.1
end Go.Proofs.YtablbagdnmbbfaaGreat

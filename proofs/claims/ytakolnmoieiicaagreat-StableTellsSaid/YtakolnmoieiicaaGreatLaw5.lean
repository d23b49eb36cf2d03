/- What the walks of layer 5's statements share; pick. -/
import Derived.Test.YtakolnmoieiicaaGreatPb
import Derived.Test.YtakolnmoieiicaaGreatBase
import Derived.Test.YtakolnmoieiicaaGreatRegs
namespace Go.Proofs.YtakolnmoieiicaaGreat
set_option linter.unusedSimpArgs false
set_option linter.unusedVariables false
open Go.RowKit

theorem place_in {a : Int} {N : Nat} (h : 0 ≤ a ∧ a < N) : placeB a N = true := by simp [placeB]; omega
theorem eq_bools {d a b : Int} (h : d = 0 ↔ a = b) : (d == 0) = (a == b) := by rw [Bool.eq_iff_iff]; simpa using h
section
variable {p : Net} {h : Hd} {w : World} {f a b : Int}
theorem around_in (hp : NetR w w.heap.size p h) (hg : Good p) :
    Calls Tryz.prog 73 #[netV p h, .int .i64 f, .int .i64 a] w fun e w' => ∃ (A : Option Addr) (c : Nat), e = .returned (.slice A (arL p.links f a p.links.length).length c) ∧ Own w' w.heap.size 3 1 A (arL p.links f a p.links.length).length c (nats (arL p.links f a p.links.length)) ∧ Below w.heap.size w w' :=
  aroundX_any p h f a w hp hg
end
open Classical in
/-- The nodes that are joined with a. -/
noncomputable def reachL (L : List Lk) (f : Int) (N a : Nat) : List Nat := (List.range N).filter fun v => decide (∃ k, Gr.Ball (Adj L f) k a v)
theorem reachL_is {L : List Lk} {f : Int} {N a : Nat} (ha : a < N) (hok : LksOk L N) : IsReach (Adj L f) N a (reachL L f N a) := by
  have hlt : ∀ k v, Gr.Ball (Adj L f) k a v → v < N := fun k v h => h.lt (by
    rintro u v ⟨i, x, hx, _, h⟩
    have := hok x (List.mem_of_getElem? hx)
    omega) ha
  refine ⟨List.Pairwise.filter _ List.pairwise_lt_range, fun v => ?_, fun v hv => ?_⟩
  · simp only [reachL, List.mem_filter, List.mem_range, decide_eq_true_eq]
    exact ⟨fun h => h.2, fun ⟨k, h⟩ => ⟨hlt k v h, k, h⟩⟩
  · unfold reachL at hv
    exact List.mem_range.1 (List.mem_filter.1 hv).1
theorem reachL_eq {L : List Lk} {f : Int} {N a : Nat} {l : List Nat} (ha : a < N) (hok : LksOk L N) (h : IsReach (Adj L f) N a l) : l = reachL L f N a :=
  h.ext (reachL_is ha hok) (fun _ => Iff.rfl)
theorem reachL_fewer {L : List Lk} {f g : Int} {N a : Nat} (ha : a < N) (hok : LksOk L N) (hfg : ∀ i : Nat, hasB f i = true → hasB g i = true) : (reachL L g N a).length ≤ (reachL L f N a).length :=
  (reachL_is ha hok).fewer (reachL_is ha hok) (fun v hv => by
    obtain ⟨k, h⟩ := ((reachL_is ha hok).2.1 v).1 hv
    exact ((reachL_is ha hok).2.1 v).2 ⟨k, h.sub (Adj.sub hfg)⟩)
end Go.Proofs.YtakolnmoieiicaaGreat

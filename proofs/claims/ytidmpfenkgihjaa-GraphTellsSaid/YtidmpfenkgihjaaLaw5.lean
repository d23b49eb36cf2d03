/- What the walks of layer 5's statements share; pick. -/
import Derived.Test.YtidmpfenkgihjaaPb
import Derived.Test.YtidmpfenkgihjaaBase
import Derived.Test.YtidmpfenkgihjaaRegs
namespace Go.Proofs.Ytidmpfenkgihjaa
set_option linter.unusedSimpArgs false
set_option linter.unusedVariables false
open Go.RowKit

theorem pick5_any (c n : Int) (w : World) (hc : In64 c) (hn : 0 < n) (hn2 : n < 10000000000) : Calls Try.prog 7 #[.int .i64 c, .int .i64 n] w fun e w' => e = .returned (.int .i64 (pickV c n)) ∧ w = w' := by
  obtain ⟨h1, h2⟩ := hc
  have hn0 : n ≠ 0 := by omega
  by_cases h : c < 0
  · have HN := Lib.hid (show pickV c n = Int.tmod (-(c + 1)) n from by unfold pickV; rw [if_pos h, Int.tmod_eq_emod_of_nonneg (by omega)])
    go_enter Try.func7, Try.ntmps7
    go_wp2
    go_ret
    exact ⟨ret_int (by rw [HN.out, Int.neg_tmod]), rfl⟩
  · have HN := Lib.hid (show pickV c n = c % n from by unfold pickV; rw [if_neg h])
    go_enter Try.func7, Try.ntmps7
    go_wp2
    go_ret
    exact ⟨ret_int (by rw [HN.out]), rfl⟩
theorem place_in {a : Int} {N : Nat} (h : 0 ≤ a ∧ a < N) : placeB a N = true := by simp [placeB]; omega
theorem eq_bools {d a b : Int} (h : d = 0 ↔ a = b) : (d == 0) = (a == b) := by rw [Bool.eq_iff_iff]; simpa using h
section
variable {p : Net} {h : Hd} {w : World} {f a b : Int}
theorem hops_in (hp : NetR w w.heap.size p h) (hg : Good p) (ha : 0 ≤ a ∧ a < p.nodes.length) (hb : 0 ≤ b ∧ b < p.nodes.length) :
    Calls Try.prog 15 #[netV p h, .int .i64 f, .int .i64 a, .int .i64 b] w fun e w' => ∃ d : Int, e = .returned (.int .i64 d) ∧ (Gr.IsHops (Adj p.links f) a.toNat b.toNat d ∧ -1 ≤ d ∧ d < p.nodes.length) ∧ Below w.heap.size w w' := by
  refine (hops_any p h f a b w hp hg).mono fun e w' ⟨d, h1, h2, h3⟩ => ?_
  rw [place_in ha, place_in hb, if_pos (by rfl)] at h2
  exact ⟨d, h1, ⟨h2.1, h2.1.low, h2.2⟩, h3⟩
theorem reach_in (hp : NetR w w.heap.size p h) (hg : Good p) (ha : 0 ≤ a ∧ a < p.nodes.length) :
    Calls Try.prog 13 #[netV p h, .int .i64 f, .int .i64 a] w fun e w' => ∃ (l : List Nat) (A : Option Addr) (c : Nat), e = .returned (.slice A l.length c) ∧ (Own w' w.heap.size 3 1 A l.length c (nats l) ∧ IsReach (Adj p.links f) p.nodes.length a.toNat l) ∧ Below w.heap.size w w' := by
  refine (reach_any p h f a w hp hg).mono fun e w' ⟨l, A, c, h1, h2, h3, h4⟩ => ?_
  rw [place_in ha, if_pos (by rfl)] at h3
  exact ⟨l, A, c, h1, ⟨h2, h3⟩, h4⟩
theorem around_in (hp : NetR w w.heap.size p h) (hg : Good p) :
    Calls Try.prog 9 #[netV p h, .int .i64 f, .int .i64 a] w fun e w' => ∃ (A : Option Addr) (c : Nat), e = .returned (.slice A (arL p.links f a p.links.length).length c) ∧ Own w' w.heap.size 3 1 A (arL p.links f a p.links.length).length c (nats (arL p.links f a p.links.length)) ∧ Below w.heap.size w w' :=
  aroundX_any p h f a w hp hg
end
open Classical in
/-- The nodes that are joined with a. -/
noncomputable def reachL (L : List Lk) (f : Int) (N a : Nat) : List Nat := (List.range N).filter fun v => decide (∃ k, Gr.Ball (Adj L f) k a v)
theorem reachL_is {L : List Lk} {f : Int} {N a : Nat} (ha : a < N) (hok : LksOk L N) : IsReach (Adj L f) N a (reachL L f N a) := by
  have hlt : ∀ k v, Gr.Ball (Adj L f) k a v → v < N := fun k v h => h.lt (by
    rintro u v ⟨i, x, hx, _, h⟩
    have := hok x (List.mem_of_getElem? hx)
    omega) ha
  refine ⟨List.Pairwise.filter _ List.pairwise_lt_range, fun v => ?_, fun v hv => ?_⟩
  · simp only [reachL, List.mem_filter, List.mem_range, decide_eq_true_eq]
    exact ⟨fun h => h.2, fun ⟨k, h⟩ => ⟨hlt k v h, k, h⟩⟩
  · unfold reachL at hv
    exact List.mem_range.1 (List.mem_filter.1 hv).1
theorem reachL_eq {L : List Lk} {f : Int} {N a : Nat} {l : List Nat} (ha : a < N) (hok : LksOk L N) (h : IsReach (Adj L f) N a l) : l = reachL L f N a :=
  h.ext (reachL_is ha hok) (fun _ => Iff.rfl)
theorem reach_len {p : Net} {h : Hd} {w : World} {f a : Int} (hp : NetR w w.heap.size p h) (hg : Good p) (ha : 0 ≤ a ∧ a < p.nodes.length) :
    Calls Try.prog 13 #[netV p h, .int .i64 f, .int .i64 a] w fun e w' => ∃ (A : Option Addr) (c : Nat), e = .returned (.slice A (reachL p.links f p.nodes.length a.toNat).length c) ∧ Own w' w.heap.size 3 1 A (reachL p.links f p.nodes.length a.toNat).length c (nats (reachL p.links f p.nodes.length a.toNat)) ∧ Below w.heap.size w w' := by
  refine (reach_in hp hg ha).mono fun e w' ⟨l, A, c, h1, ⟨h2, h3⟩, h4⟩ => ?_
  have := reachL_eq (by omega) hg.lksOk h3
  subst this
  exact ⟨A, c, h1, h2, h4⟩
theorem reachL_fewer {L : List Lk} {f g : Int} {N a : Nat} (ha : a < N) (hok : LksOk L N) (hfg : ∀ i : Nat, hasB f i = true → hasB g i = true) : (reachL L g N a).length ≤ (reachL L f N a).length :=
  (reachL_is ha hok).fewer (reachL_is ha hok) (fun v hv => by
    obtain ⟨k, h⟩ := ((reachL_is ha hok).2.1 v).1 hv
    exact ((reachL_is ha hok).2.1 v).2 ⟨k, h.sub (Adj.sub hfg)⟩)
end Go.Proofs.Ytidmpfenkgihjaa

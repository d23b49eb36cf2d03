/- The walk of graph.Cuts. -/
import Derived.Test.YtablbagdnmbbfaaGreatApi
namespace Go.Proofs.YtablbagdnmbbfaaGreat
set_option linter.unusedSimpArgs false
set_option linter.unusedVariables false
open Go.RowKit

theorem below_drewN {B : Nat} {a w : World} (h : Below B a w) (n : Nat) : Below B a (w.drewN n) := h.trans ⟨rfl, rfl, rfl, Nat.le_refl _, fun _ _ => rfl⟩
/-- With link i failed too. -/
def withB (f i : Int) : Int := bits BinOp.or IntKind.i64 f (IntKind.i64.wrap (2 ^ i.toNat))

/-- Behind an append to a row of the call's own. -/
theorem AtRight.grown {w : World} {p : Net} {h : Hd} {wx w' : World} {row : Option Nat} (a : AtRight w p h wx) (hp : NetR w w.heap.size p h) (hg : wx.grownBy w' row) (hr : ∀ g, row = some g → w.heap.size + 1 ≤ g) : AtRight w p h w' := by
  have hs := a.size
  have hgs := hg.size
  have hb : Below w.heap.size w w' := a.below.grown hg (by omega) (fun g hg => by have := hr g hg; omega)
  refine ⟨hb, by omega, fun i u hu => ?_, (hp.below hb (Nat.le_refl _)).more hb.size⟩
  rw [World.cell?_of_block (hg.block w.heap.size hs (fun e => by have := hr _ e.symm; omega))]
  exact a.cells i u hu
open Classical in
/-- Is link i a cut? -/
noncomputable def cutB (L : List Lk) (f : Int) (i : Nat) : Bool :=
  match L[i]? with
  | some x => decide (hasB f i = false ∧ ∀ k, ¬ Gr.Ball (Adj L (withB f i)) k x.a.toNat x.b.toNat)
  | none => false
noncomputable def cutL (L : List Lk) (f : Int) (k : Nat) : List Nat := (List.range k).filter (cutB L f)
theorem cutL_le (L : List Lk) (f : Int) (k : Nat) : (cutL L f k).length ≤ k := by
  have := List.length_filter_le (cutB L f) (List.range k)
  simpa [cutL] using this
theorem cutL_hit {L : List Lk} {f : Int} {k : Nat} (h : cutB L f k = true) : cutL L f (k + 1) = cutL L f k ++ [k] := by
  simp [cutL, List.range_succ, List.filter_append, h]
theorem cutL_miss {L : List Lk} {f : Int} {k : Nat} (h : cutB L f k = false) : cutL L f (k + 1) = cutL L f k := by
  simp [cutL, List.range_succ, List.filter_append, h]
theorem cut_hit_step {w2 : World} {L : List Lk} {f : Int} {k m : Nat} {A2 : Option Addr} {c2 B : Nat} (h : cutB L f k = true) (hm : m = (cutL L f k).length + 1)
    (hown2 : Own w2 B 3 1 A2 m c2 (nats (cutL L f k) ++ [Value.int .i64 (k : Int)])) :
    m = (cutL L f (k + 1)).length ∧ Own w2 B 3 1 A2 (cutL L f (k + 1)).length c2 (nats (cutL L f (k + 1))) := by
  have e : m = (cutL L f (k + 1)).length := by rw [cutL_hit h, hm]; simp
  subst e
  refine ⟨rfl, ?_⟩
  rw [← nats_snoc, ← cutL_hit h] at hown2
  exact hown2
theorem cutB_of {L : List Lk} {f : Int} {i : Nat} {x : Lk} {d : Int} (hx : L[i]? = some x) (hf : hasB f i = false) (hd : Gr.IsHops (Adj L (withB f i)) x.a.toNat x.b.toNat d) : cutB L f i = decide (d < 0) := by
  unfold cutB
  rw [hx]
  rcases hd with ⟨e, h⟩ | ⟨n, e, h, _⟩
  · have : d < 0 := by omega
    simp [hf, this, h]
  · have : ¬ d < 0 := by omega
    simp [this, hf]
    exact ⟨n, h⟩
theorem cutB_has {L : List Lk} {f : Int} {i : Nat} (hf : hasB f i = true) : cutB L f i = false := by
  unfold cutB
  split <;> simp [hf]

def CutsPost (L : List Lk) (f : Int) (w : World) (e : Ending) (w' : World) : Prop :=
  ∃ A c, e = .returned (.slice A (cutL L f L.length).length c) ∧ Own w' w.heap.size 3 1 A (cutL L f L.length).length c (nats (cutL L f L.length)) ∧ Below w.heap.size w w'

end Go.Proofs.YtablbagdnmbbfaaGreat

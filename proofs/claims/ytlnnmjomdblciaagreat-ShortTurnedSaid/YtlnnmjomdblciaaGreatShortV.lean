/- What ShortTurned asks, plainly: a way that is turned is a way back, as dear; the shortest way is as long as Hops says. No program is walked here. -/
import Derived.Test.YtlnnmjomdblciaaGreatShortP
import Derived.Test.YtlnnmjomdblciaaGreatNetD
namespace Go.Proofs.YtlnnmjomdblciaaGreat
set_option linter.unusedSimpArgs false
set_option linter.unusedVariables false
open Go.RowKit

/-- The network by distances. -/
def distN (p : Net) : Net := { p with proto := 1, cap := 0 }
theorem dist_ok {p : Net} (a : NetOk p) : NetOk (distN p) where
  head := .inl ⟨rfl, rfl⟩
  k := a.k
  n := a.n
  nodes := a.nodes
  l9 := a.l9
  links := a.links
  pairs := a.pairs
  d12 := a.d12
  dests := ⟨a.dests.names, a.dests.each⟩
  c6 := a.c6
  checks := a.checks
theorem dist_rev {p : Net} {f : Int} {b u : Nat} {q : List Nat} (G : NetG p) (hok : LksOk p.links p.nodes.length) (hnd : (pairsOf p.links).Nodup) (hp : p.proto ≠ 2) (hb : b < p.nodes.length) (hu : u < p.nodes.length) (h : Gr.Way (Adj p.links f) b u q) : wayR p f q.reverse = wayR p f q := by
  rw [← along_way G hok hnd hb h, ← along_way G hok hnd hu (h.rev Adj.symm)]
  unfold alongR
  rw [if_neg hp, if_neg hp, costL_rev]
/-- What the statement's loop makes. -/
def leastS (m : Int) (q : List Nat) : Int := if m < 0 ∨ (q.length : Int) - 1 < m then (q.length : Int) - 1 else m
theorem least_is : ∀ (l : List (List Nat)) (m d : Int), 0 ≤ d → (∀ q ∈ l, d ≤ (q.length : Int) - 1) → (m < 0 ∨ d ≤ m) → (m = d ∨ ∃ q ∈ l, (q.length : Int) - 1 = d) → l.foldl leastS m = d
  | [], m, d, _, _, _, h => by
    rcases h with h | ⟨q, hq, _⟩
    · exact h
    · cases hq
  | q :: l, m, d, h0, hd, hm, h => by
    have hq := hd q (by simp)
    refine least_is l (leastS m q) d h0 (fun y hy => hd y (by simp [hy])) ?_ ?_
    · right; unfold leastS; split <;> omega
    · rcases h with h | ⟨y, hy, e⟩
      · left; unfold leastS; split <;> omega
      · rcases List.mem_cons.1 hy with rfl | hy
        · left; unfold leastS; split <;> omega
        · exact .inr ⟨y, hy, e⟩
theorem turned_least {p : Net} {f : Int} {a b : Nat} {d : Int} (hg : Good p) (ha : a < p.nodes.length) (h : Gr.IsHops (Adj p.links f) a b d) : (waysN p f a b).foldl leastS (-1) = d ∧ ((waysN p f a b).length = 0 ↔ d < 0) := by
  have hw : ∀ q ∈ waysN p f a b, Gr.Ball (Adj p.links f) (q.length - 1) a b ∧ 1 ≤ q.length := fun q hq => by
    have h1 := (mem_waysN hg.lksOk ha q).1 hq
    obtain ⟨t, e⟩ := h1.head
    exact ⟨h1.ball Adj.symm, by rw [e]; simp⟩
  rcases h with ⟨rfl, hno⟩ | ⟨n, rfl, hb, hmin⟩
  · have he : waysN p f a b = [] := by
      cases hl : waysN p f a b with
      | nil => rfl
      | cons q l => exact absurd (hw q (by rw [hl]; simp)).1 (hno _)
    rw [he]; exact ⟨rfl, by simp⟩
  · obtain ⟨q, hq, hql, -⟩ := Gr.way_near (b := b) Adj.symm n a (Gr.Ball.symm Adj.symm hb) (fun j hj hbj => by have := hmin j (Gr.Ball.symm Adj.symm hbj); omega)
    have hqm := (mem_waysN hg.lksOk ha q).2 hq
    refine ⟨least_is _ _ _ (by omega) (fun y hy => ?_) (.inl (by omega)) (.inr ⟨q, hqm, by omega⟩), ?_⟩
    · have h1 := hw y hy
      have := hmin _ h1.1
      omega
    · have := List.length_pos_of_mem hqm
      omega
theorem turned_len {p : Net} {f : Int} {a b : Nat} (hg : Good p) (ha : a < p.nodes.length) (hb : b < p.nodes.length) : (waysN p f a b).length = (waysN p f b a).length :=
  Gr.ways_back (fun _ _ => mem_nb hg.lksOk) (adj_lt hg.lksOk) Adj.symm (fun u => nb_sorted _ _ _ u) ha hb
theorem turned_in {p : Net} {f : Int} {a b : Nat} {q : List Nat} (hg : Good p) (ha : a < p.nodes.length) (hb : b < p.nodes.length) (hq : q ∈ waysN p f a b) : q.reverse ∈ waysN p f b a :=
  (mem_waysN hg.lksOk hb _).2 (((mem_waysN hg.lksOk ha q).1 hq).rev Adj.symm)
end Go.Proofs.YtlnnmjomdblciaaGreat

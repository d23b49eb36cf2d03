/- A network whose nodes' AS are turned in place. No program is walked here. -/
import Derived.Test.YtlnnmjomdblciaaGreatRoundP
import Derived.Test.YtlnnmjomdblciaaGreatNetD
namespace Go.Proofs.YtlnnmjomdblciaaGreat
set_option linter.unusedSimpArgs false
set_option linter.unusedVariables false
open Go.RowKit

/-- A cell of what is owned is written. -/
theorem Own.put {w : World} {B s n c : Nat} {e : TypeId} {g off : Nat} {xs : List Value} (h : Own w B e s (some ⟨g, off, none⟩) n c xs) (hn : 0 < n) {j : Nat} (hj : j < xs.length) (v : Value) :
    Own (w.setCell ⟨g, off + j, none⟩ v) B e s (some ⟨g, off, none⟩) n c (xs.set j v) := by
  obtain ⟨h1, h2, h3, h4, hb, h5⟩ := h
  refine ⟨by rw [List.length_set]; exact h1, h2, h3, h4, hb, fun hc => ?_⟩
  obtain ⟨g', off', cur, e', hh, hs, hx⟩ := h5 hc
  injection e' with e'
  injection e' with e1 e2
  subst e1 e2
  refine ⟨g, off, cur.setIfInBounds (off + j) v, rfl, heap_setCell_same w g (off + j) cur _ v hh, by simpa using hs, fun i u hu => ?_⟩
  by_cases e : i = j
  · subst e
    rw [List.getElem?_set_self hj] at hu
    injection hu with hu
    have : off + i < cur.size := by
      have := hx i _ (List.getElem?_eq_getElem hj)
      exact (Array.getElem?_eq_some_iff.1 this).1
    rw [← hu]; simp [this]
  · rw [List.getElem?_set_ne (Ne.symm e)] at hu
    rw [Array.getElem?_setIfInBounds_ne (by omega)]
    exact hx i u hu
theorem nd_set : ∀ (L : List Nd) (k : Nat) (x : Nd) (a : Int), L[k]? = some x → (L.set k ⟨x.name, a⟩).flatMap ndCells = (L.flatMap ndCells).set (k * 2 + 1) (.int .i64 a)
  | [], k, x, a, h => by simp at h
  | y :: L, 0, x, a, h => by simp at h; subst h; simp [ndCells]
  | y :: L, k + 1, x, a, h => by
    have ih := nd_set L k x a (by simpa using h)
    have e : (k + 1) * 2 + 1 = (k * 2 + 1) + 1 + 1 := by omega
    simp only [List.set_cons_succ, List.flatMap_cons, ih, e]
    simp [ndCells]
/-- The first k nodes' AS are 100, 101 .. -/
def reAs (L : List Nd) : Nat → List Nd
  | 0 => L
  | k + 1 => (reAs L k).set k ⟨(((reAs L k)[k]?).getD ⟨⟨#[]⟩, 0⟩).name, 100 + k⟩
theorem reAs_len (L : List Nd) : ∀ k, (reAs L k).length = L.length
  | 0 => rfl
  | k + 1 => by show ((reAs L k).set k _).length = _; rw [List.length_set, reAs_len L k]
theorem reAs_at {L : List Nd} {i : Nat} {x : Nd} (h : L[i]? = some x) : ∀ k, (reAs L k)[i]? = some (if i < k then ⟨x.name, 100 + i⟩ else x)
  | 0 => by simpa [reAs] using h
  | k + 1 => by
    have ih := reAs_at h k
    show ((reAs L k).set k _)[i]? = _
    by_cases e : k = i
    · subst e
      rw [List.getElem?_set_self (by rw [reAs_len]; exact (List.getElem?_eq_some_iff.1 h).1), ih]
      simp
    · rw [List.getElem?_set_ne e, ih]
      congr 1
      by_cases h1 : i < k
      · rw [if_pos h1, if_pos (by omega)]
      · rw [if_neg h1, if_neg (by omega)]
def reNet (p : Net) (k : Nat) : Net := { p with nodes := reAs p.nodes k }
theorem reNet_zero (p : Net) : reNet p 0 = p := rfl
theorem reNet_n (p : Net) (k : Nat) : (reNet p k).nodes.length = p.nodes.length := reAs_len _ _
theorem NetOwn.put {w : World} {B : Nat} {p : Net} {h : Hd} {k g off : Nat} {x : Nd} (a : NetOwn w B (reNet p k) h) (hx : (reNet p k).nodes[k]? = some x) (he : h.an = some ⟨g, off, none⟩) :
    NetOwn (w.setCell ⟨g, off + (k * 2 + 1), none⟩ (.int .i64 (100 + k))) B (reNet p (k + 1)) h ∧ B ≤ g := by
  have hk := (List.getElem?_eq_some_iff.1 hx).1
  have hn : 0 < (reNet p k).nodes.length := by omega
  obtain ⟨g', off', cur, e', hh, -, -⟩ := a.nodes.2.2.2.2.2 (by have := a.nodes.2.1; omega)
  rw [he] at e'
  injection e' with e'
  injection e' with e1 e2
  subst e1 e2
  have e3 : (reNet p (k + 1)).nodes = (reNet p k).nodes.set k ⟨x.name, 100 + k⟩ := by
    show (reAs p.nodes k).set k _ = _
    have : (reAs p.nodes k)[k]? = some x := hx
    rw [this]; rfl
  have hlen : k * 2 + 1 < ((reNet p k).nodes.flatMap ndCells).length := by rw [flat_len (f := ndCells) (s := 2) (fun _ => rfl)]; omega
  have hnd := a.nodes
  rw [he] at hnd
  have hp := hnd.put hn hlen (.int .i64 (100 + k))
  rw [← nd_set _ _ _ _ hx, ← e3] at hp
  have hB := a.nodes.from_ g (by rw [he]; rfl)
  refine ⟨⟨?_, ?_, ?_, ?_, ?_, ?_, a.zn, a.zl, a.zd, a.zc⟩, hB⟩
  · rw [he, reNet_n]; rw [reNet_n] at hp; exact hp
  · exact a.links.setCell_type (p := ⟨g, _, none⟩) hh (by decide) _
  · exact a.dlen
  · exact a.dests.setCell_type (p := ⟨g, _, none⟩) hh (by decide) _
  · exact fun z hz => (a.origins z hz).setCell_type (p := ⟨g, _, none⟩) hh (by decide) _
  · exact a.checks.setCell_type (p := ⟨g, _, none⟩) hh (by decide) _
theorem reAs_names (L : List Nd) (k : Nat) : (reAs L k).map (·.name) = L.map (·.name) := by
  apply List.ext_getElem?
  intro i
  rw [List.getElem?_map, List.getElem?_map]
  by_cases hi : i < L.length
  · have h : L[i]? = some L[i] := List.getElem?_eq_getElem hi
    rw [reAs_at h k, h]
    by_cases e : i < k
    · rw [if_pos e]; rfl
    · rw [if_neg e]
  · rw [List.getElem?_eq_none (by rw [reAs_len]; omega), List.getElem?_eq_none (by omega)]
theorem reNet_as {p : Net} {k i : Nat} (hk : i < k) (hi : i < p.nodes.length) : asOf (reNet p k) i = 100 + i := by
  have h : p.nodes[i]? = some p.nodes[i] := List.getElem?_eq_getElem hi
  have h2 : (reNet p k).nodes[i]? = _ := reAs_at h k
  unfold asOf
  simp only [Int.toNat_natCast, h2, if_pos hk]
theorem reNet_unlike (p : Net) : Unlike (reNet p p.nodes.length) := by
  intro i j hi hj e
  rw [reNet_n] at hi hj
  rw [reNet_as hi hi, reNet_as hj hj] at e
  omega
theorem reNet_good {p : Net} (g : Good p) (hn : p.nodes.length ≤ 12) (k : Nat) : Good (reNet p k) := by
  have hN := reNet_n p k
  have hnm : ndNames (reNet p k) = ndNames p := reAs_names _ _
  have hnames : namesOf (reNet p k) = namesOf p := by unfold namesOf; rw [hnm]; rfl
  have hnd : nodesB (reNet p k) = true := by
    have h0 := g.nodesB
    unfold nodesB at h0 ⊢
    rw [hN]
    simp only [Bool.and_eq_true, Bool.not_eq_true'] at h0 ⊢
    refine ⟨h0.1, ?_⟩
    rw [List.any_eq_false]
    intro x hx
    obtain ⟨i, hi⟩ := List.getElem?_of_mem hx
    have hi' : i < p.nodes.length := by have := (List.getElem?_eq_some_iff.1 hi).1; rw [hN] at this; exact this
    have h : p.nodes[i]? = some p.nodes[i] := List.getElem?_eq_getElem hi'
    have h2 : (reNet p k).nodes[i]? = _ := reAs_at h k
    rw [hi] at h2
    injection h2 with h2
    by_cases e : i < k
    · rw [if_pos e] at h2
      rw [h2]; simp [badNode, withinB]; omega
    · rw [if_neg e] at h2
      have := List.any_eq_false.1 h0.2 _ (List.getElem_mem hi')
      rw [h2]; exact this
  have hck : badCheck (reNet p k) = badCheck p := by
    funext c
    simp only [badCheck, checkB, othersOf, hN]
    rfl
  have hr := g.right
  refine ⟨⟨by rw [hN]; exact g.small.nodes, g.small.links, g.small.dests, g.small.checks, g.small.origins⟩, by rw [hnames]; exact g.names, ?_⟩
  have h0 := g.nodesB
  unfold rightB at hr ⊢
  unfold namedB at hr ⊢
  unfold linksB at hr ⊢
  rw [hnd, hnames, hck, hN]
  rw [h0] at hr
  exact hr
theorem reNet_cells (p : Net) (h : Hd) (k : Nat) : netCells (reNet p k) h = netCells p h := by unfold netCells; rw [reNet_n]; rfl
theorem NetOwn.alloc {w : World} {B : Nat} {p : Net} {h : Hd} (a : NetOwn w B p h) (o : Obj) : NetOwn (w.alloc o) B p h :=
  ⟨a.nodes.alloc o, a.links.alloc o, a.dlen, a.dests.alloc o, fun z hz => (a.origins z hz).alloc o, a.checks.alloc o, a.zn, a.zl, a.zd, a.zc⟩
/-- The network in its box, k nodes turned. -/
structure TurnW (w0 wr : World) (B b : Nat) (p : Net) (h : Hd) (k : Nat) : Prop where
  below : Below w0.heap.size w0 wr
  own : NetOwn wr B (reNet p k) h
  box : wr.heap[b]? = some (.cells (netCells p h) 31 (0, 0))
  lo : w0.heap.size ≤ B
theorem TurnW.at_ {w0 wr : World} {B b : Nat} {p : Net} {h : Hd} {k : Nat} (a : TurnW w0 wr B b p h k) : wr.cell? ⟨b, 3, none⟩ = some (.slice h.an p.nodes.length h.cn) := cell_of_row wr b 3 _ _ _ a.box
theorem TurnW.pb {w0 wr : World} {B b : Nat} {p : Net} {h : Hd} {k : Nat} (a : TurnW w0 wr B b p h k) : PB w0 wr b (reNet p k) h :=
  ⟨a.below, lt_heap a.box, fun i u hu => by rw [cell_of_row wr b i _ _ _ a.box, ← reNet_cells p h k]; exact hu, a.own.net⟩
theorem TurnW.step {w0 wr : World} {B b g off : Nat} {p : Net} {h : Hd} {k : Nat} (a : TurnW w0 wr B b p h k) (hk : k < p.nodes.length) (he : h.an = some ⟨g, off, none⟩) :
    TurnW w0 (wr.setCell ⟨g, off + (k * 2 + 1), none⟩ (.int .i64 (100 + k))) B b p h (k + 1) ∧ (∃ u, wr.cell? ⟨g, off + (k * 2 + 1), none⟩ = some (.int .i64 u)) ∧ wr.frozen? ⟨g, off + (k * 2 + 1), none⟩ = false := by
  obtain ⟨x, hx⟩ : ∃ x, (reNet p k).nodes[k]? = some x := ⟨_, List.getElem?_eq_getElem (by rw [reNet_n]; exact hk)⟩
  obtain ⟨h1, h2⟩ := a.own.put hx he
  obtain ⟨g', off', cur, e', hh, -, -⟩ := a.own.nodes.2.2.2.2.2 (by have := a.own.nodes.2.1; rw [reNet_n] at this; omega)
  rw [he] at e'
  injection e' with e'
  injection e' with e1 e2
  subst e1 e2
  refine ⟨⟨a.below.setCell (Nat.le_trans a.lo h2) _, h1, ?_, a.lo⟩, ?_, frozen_of_row wr g _ _ _ hh⟩
  · rw [Below.heap_setCell _ _ _ _ (by rintro rfl; have := a.box; rw [hh] at this; injection this with this; injection this with _ h3; exact absurd h3 (by decide))]
    exact a.box
  · obtain ⟨b2, o2, e3, -, -, c1⟩ := a.own.net.nodes.node hx
    rw [he] at e3
    injection e3 with e3
    injection e3 with e4 e5
    subst e4 e5
    exact ⟨_, c1⟩
end Go.Proofs.YtlnnmjomdblciaaGreat

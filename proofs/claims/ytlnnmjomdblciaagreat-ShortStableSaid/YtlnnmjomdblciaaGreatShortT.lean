/- What ShortStable asks: AS made unlike, and what nodes hold in the end is the best that ways make. -/
import Derived.Test.YtlnnmjomdblciaaGreatFewerP
import Derived.Test.YtlnnmjomdblciaaGreatLaw11
import Derived.Test.YtlnnmjomdblciaaGreatStableW
namespace Go.Proofs.YtlnnmjomdblciaaGreat
set_option linter.unusedSimpArgs false
set_option linter.unusedVariables false
open Go.RowKit

/-- What the statement makes of the AS. -/
def asV (k : Nat) : Int := 1 + (7 * (k : Int) + 3) % 50
/-- The first k nodes' AS are unlike. -/
def raS (L : List Nd) : Nat → List Nd
  | 0 => L
  | k + 1 => (raS L k).set k ⟨(((raS L k)[k]?).getD ⟨⟨#[]⟩, 0⟩).name, asV k⟩
theorem raS_len (L : List Nd) : ∀ k, (raS L k).length = L.length
  | 0 => rfl
  | k + 1 => by show ((raS L k).set k _).length = _; rw [List.length_set, raS_len L k]
theorem raS_at {L : List Nd} {i : Nat} {x : Nd} (h : L[i]? = some x) : ∀ k, (raS L k)[i]? = some (if i < k then ⟨x.name, asV i⟩ else x)
  | 0 => by simpa [raS] using h
  | k + 1 => by
    have ih := raS_at h k
    show ((raS L k).set k _)[i]? = _
    by_cases e : k = i
    · subst e
      rw [List.getElem?_set_self (by rw [raS_len]; exact (List.getElem?_eq_some_iff.1 h).1), ih]
      simp
    · rw [List.getElem?_set_ne e, ih]
      congr 1
      by_cases h1 : i < k
      · rw [if_pos h1, if_pos (by omega)]
      · rw [if_neg h1, if_neg (by omega)]
def rnS (p : Net) (k : Nat) : Net := { p with nodes := raS p.nodes k }
theorem rnS_zero (p : Net) : rnS p 0 = p := rfl
theorem rnS_n (p : Net) (k : Nat) : (rnS p k).nodes.length = p.nodes.length := raS_len _ _
theorem NetOwn.putS {w : World} {B : Nat} {p : Net} {h : Hd} {k g off : Nat} {x : Nd} (a : NetOwn w B (rnS p k) h) (hx : (rnS p k).nodes[k]? = some x) (he : h.an = some ⟨g, off, none⟩) :
    NetOwn (w.setCell ⟨g, off + (k * 2 + 1), none⟩ (.int .i64 (asV k))) B (rnS p (k + 1)) h ∧ B ≤ g := by
  have hk := (List.getElem?_eq_some_iff.1 hx).1
  have hn : 0 < (rnS p k).nodes.length := by omega
  obtain ⟨g', off', cur, e', hh, -, -⟩ := a.nodes.2.2.2.2.2 (by have := a.nodes.2.1; omega)
  rw [he] at e'
  injection e' with e'
  injection e' with e1 e2
  subst e1 e2
  have e3 : (rnS p (k + 1)).nodes = (rnS p k).nodes.set k ⟨x.name, asV k⟩ := by
    show (raS p.nodes k).set k _ = _
    have : (raS p.nodes k)[k]? = some x := hx
    rw [this]; rfl
  have hlen : k * 2 + 1 < ((rnS p k).nodes.flatMap ndCells).length := by rw [flat_len (f := ndCells) (s := 2) (fun _ => rfl)]; omega
  have hnd := a.nodes
  rw [he] at hnd
  have hp := hnd.put hn hlen (.int .i64 (asV k))
  rw [← nd_set _ _ _ _ hx, ← e3] at hp
  have hB := a.nodes.from_ g (by rw [he]; rfl)
  refine ⟨⟨?_, ?_, ?_, ?_, ?_, ?_, a.zn, a.zl, a.zd, a.zc⟩, hB⟩
  · rw [he, rnS_n]; rw [rnS_n] at hp; exact hp
  · exact a.links.setCell_type (p := ⟨g, _, none⟩) hh (by decide) _
  · exact a.dlen
  · exact a.dests.setCell_type (p := ⟨g, _, none⟩) hh (by decide) _
  · exact fun z hz => (a.origins z hz).setCell_type (p := ⟨g, _, none⟩) hh (by decide) _
  · exact a.checks.setCell_type (p := ⟨g, _, none⟩) hh (by decide) _
theorem raS_names (L : List Nd) (k : Nat) : (raS L k).map (·.name) = L.map (·.name) := by
  apply List.ext_getElem?
  intro i
  rw [List.getElem?_map, List.getElem?_map]
  by_cases hi : i < L.length
  · have h : L[i]? = some L[i] := List.getElem?_eq_getElem hi
    rw [raS_at h k, h]
    by_cases e : i < k
    · rw [if_pos e]; rfl
    · rw [if_neg e]
  · rw [List.getElem?_eq_none (by rw [raS_len]; omega), List.getElem?_eq_none (by omega)]
theorem rnS_as {p : Net} {k i : Nat} (hk : i < k) (hi : i < p.nodes.length) : asOf (rnS p k) i = asV i := by
  have h : p.nodes[i]? = some p.nodes[i] := List.getElem?_eq_getElem hi
  have h2 : (rnS p k).nodes[i]? = _ := raS_at h k
  unfold asOf
  simp only [Int.toNat_natCast, h2, if_pos hk]
theorem rnS_unlike (p : Net) (h7 : p.nodes.length ≤ 7) : Unlike (rnS p p.nodes.length) := by
  intro i j hi hj e
  rw [rnS_n] at hi hj
  rw [rnS_as hi hi, rnS_as hj hj] at e
  unfold asV at e
  omega
theorem rnS_good {p : Net} (g : Good p) (hn : p.nodes.length ≤ 12) (k : Nat) : Good (rnS p k) := by
  have hN := rnS_n p k
  have hnm : ndNames (rnS p k) = ndNames p := raS_names _ _
  have hnames : namesOf (rnS p k) = namesOf p := by unfold namesOf; rw [hnm]; rfl
  have hnd : nodesB (rnS p k) = true := by
    have h0 := g.nodesB
    unfold nodesB at h0 ⊢
    rw [hN]
    simp only [Bool.and_eq_true, Bool.not_eq_true'] at h0 ⊢
    refine ⟨h0.1, ?_⟩
    rw [List.any_eq_false]
    intro x hx
    obtain ⟨i, hi⟩ := List.getElem?_of_mem hx
    have hi' : i < p.nodes.length := by have := (List.getElem?_eq_some_iff.1 hi).1; rw [hN] at this; exact this
    have h : p.nodes[i]? = some p.nodes[i] := List.getElem?_eq_getElem hi'
    have h2 : (rnS p k).nodes[i]? = _ := raS_at h k
    rw [hi] at h2
    injection h2 with h2
    by_cases e : i < k
    · rw [if_pos e] at h2
      rw [h2]; unfold asV; simp [badNode, withinB]; omega
    · rw [if_neg e] at h2
      have := List.any_eq_false.1 h0.2 _ (List.getElem_mem hi')
      rw [h2]; exact this
  have hck : badCheck (rnS p k) = badCheck p := by
    funext c
    simp only [badCheck, checkB, othersOf, hN]
    rfl
  have hr := g.right
  refine ⟨⟨by rw [hN]; exact g.small.nodes, g.small.links, g.small.dests, g.small.checks, g.small.origins⟩, by rw [hnames]; exact g.names, ?_⟩
  have h0 := g.nodesB
  unfold rightB at hr ⊢
  unfold namedB at hr ⊢
  unfold linksB at hr ⊢
  rw [hnd, hnames, hck, hN]
  rw [h0] at hr
  exact hr
theorem rnS_cells (p : Net) (h : Hd) (k : Nat) : netCells (rnS p k) h = netCells p h := by unfold netCells; rw [rnS_n]; rfl
/-- The network in its box, k nodes turned. -/
structure TuS (w0 wr : World) (B b : Nat) (p : Net) (h : Hd) (k : Nat) : Prop where
  below : Below w0.heap.size w0 wr
  own : NetOwn wr B (rnS p k) h
  box : wr.heap[b]? = some (.cells (netCells p h) 31 (0, 0))
  lo : w0.heap.size ≤ B
theorem TuS.at_ {w0 wr : World} {B b : Nat} {p : Net} {h : Hd} {k : Nat} (a : TuS w0 wr B b p h k) : wr.cell? ⟨b, 3, none⟩ = some (.slice h.an p.nodes.length h.cn) := cell_of_row wr b 3 _ _ _ a.box
theorem TuS.pb {w0 wr : World} {B b : Nat} {p : Net} {h : Hd} {k : Nat} (a : TuS w0 wr B b p h k) : PB w0 wr b (rnS p k) h :=
  ⟨a.below, lt_heap a.box, fun i u hu => by rw [cell_of_row wr b i _ _ _ a.box, ← rnS_cells p h k]; exact hu, a.own.net⟩
theorem TuS.step {w0 wr : World} {B b g off : Nat} {p : Net} {h : Hd} {k : Nat} (a : TuS w0 wr B b p h k) (hk : k < p.nodes.length) (he : h.an = some ⟨g, off, none⟩) :
    TuS w0 (wr.setCell ⟨g, off + (k * 2 + 1), none⟩ (.int .i64 (asV k))) B b p h (k + 1) ∧ (∃ u, wr.cell? ⟨g, off + (k * 2 + 1), none⟩ = some (.int .i64 u)) ∧ wr.frozen? ⟨g, off + (k * 2 + 1), none⟩ = false := by
  obtain ⟨x, hx⟩ : ∃ x, (rnS p k).nodes[k]? = some x := ⟨_, List.getElem?_eq_getElem (by rw [rnS_n]; exact hk)⟩
  obtain ⟨h1, h2⟩ := a.own.putS hx he
  obtain ⟨g', off', cur, e', hh, -, -⟩ := a.own.nodes.2.2.2.2.2 (by have := a.own.nodes.2.1; rw [rnS_n] at this; omega)
  rw [he] at e'
  injection e' with e'
  injection e' with e1 e2
  subst e1 e2
  refine ⟨⟨a.below.setCell (Nat.le_trans a.lo h2) _, h1, ?_, a.lo⟩, ?_, frozen_of_row wr g _ _ _ hh⟩
  · rw [Below.heap_setCell _ _ _ _ (by rintro rfl; have := a.box; rw [hh] at this; injection this with this; injection this with _ h3; exact absurd h3 (by decide))]
    exact a.box
  · obtain ⟨b2, o2, e3, -, -, c1⟩ := a.own.net.nodes.node hx
    rw [he] at e3
    injection e3 with e3
    injection e3 with e4 e5
    subst e4 e5
    exact ⟨_, c1⟩

theorem apart_of {p : Net} (h : apartB p = true) : ApartP p := by
  unfold apartB at h
  have hnd := of_decide_eq_true h
  intro u v hu hv e
  have e1 : (p.nodes.map (·.as_))[u]? = some (asOf p u) := by
    have h1 : p.nodes[u]? = some p.nodes[u] := List.getElem?_eq_getElem hu
    rw [List.getElem?_map, h1]; unfold asOf; simp [h1]
  have e2 : (p.nodes.map (·.as_))[v]? = some (asOf p v) := by
    have h1 : p.nodes[v]? = some p.nodes[v] := List.getElem?_eq_getElem hv
    rw [List.getElem?_map, h1]; unfold asOf; simp [h1]
  exact (List.getElem?_inj (by simpa using hu) hnd).1 (by rw [e1, e2, e])
theorem apart_unlike {p : Net} (h : Unlike p) : apartB p = true := by
  unfold apartB
  refine decide_eq_true ?_
  rw [List.Nodup, List.pairwise_iff_getElem]
  intro i j hi hj hij e
  have hi' : i < p.nodes.length := by simpa using hi
  have hj' : j < p.nodes.length := by simpa using hj
  have := h i j hi' hj' (by
    unfold asOf
    have h1 : p.nodes[i]? = some p.nodes[i] := List.getElem?_eq_getElem hi'
    have h2 : p.nodes[j]? = some p.nodes[j] := List.getElem?_eq_getElem hj'
    simp only [Int.toNat_natCast, h1, h2]
    simpa using e)
  omega
theorem org_ok {p : Net} (a : NetOk p) : (∀ b ∈ orgOf p ((0 : Nat) : Int), 0 ≤ b ∧ b < p.nodes.length) ∧ (orgOf p ((0 : Nat) : Int)).length ≤ 100 := by
  have hd := a.d12
  have h1 : p.dests[0]? = some p.dests[0] := List.getElem?_eq_getElem (by omega)
  have he := a.dests.each _ (List.getElem_mem (show 0 < p.dests.length by omega))
  have e : orgOf p ((0 : Nat) : Int) = p.dests[0].origins := by unfold orgOf; simp [h1]
  rw [e]
  rcases he with ⟨o, e1, h1, h2⟩ | ⟨o, r, e1, h1, h2, h3⟩
  · rw [e1]
    refine ⟨fun b hb => ?_, by simp⟩
    simp at hb; omega
  · rw [e1]
    refine ⟨fun b hb => ?_, by simp⟩
    simp at hb; omega
theorem stable_best {p : Net} {f : Int} (G : NetG p) (hg : Good p) (hd : placeB 0 p.dests.length = true) (hor : ∀ b ∈ orgOf p ((0 : Nat) : Int), 0 ≤ b ∧ b < p.nodes.length) (hap : p.proto = 2 → ApartP p) {u : Nat} (hu : u < p.nodes.length) : endF p f 0 u = bestO p f u (orgOf p ((0 : Nat) : Int)) := by
  exact end_best G hg.lksOk hg.pairs hd hor (end_fits G) (end_step G) hap hu
/-- Solve with a budget that is enough. -/
theorem solve_ok1 {p : Net} {f b : Int} {R : Nat} {w : World} {e : Ending} {w' : World} (h : SolvePost p f 0 b R w e w') (hb : (R : Int) + 1 ≤ b) : ∃ (Z : List RtZ) (A : Option Addr) (c : Nat), e = .returned (.tuple #[.slice A Z.length c, .int .i64 R, .int .i64 0]) ∧ Z.map (·.1) = stL p (runF p f 0 R) ∧ LW w w' Z A c := by
  rcases h with ⟨-, h⟩ | ⟨h, -⟩
  · exact h
  · omega
end Go.Proofs.YtlnnmjomdblciaaGreat

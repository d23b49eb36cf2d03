/- A list of routes in memory of the call's own, each with its list in memory of the call's own. No program is walked here. -/
import Derived.Test.YtablbagdnmbbfaaGreatAttrB
import Derived.Test.YtablbagdnmbbfaaGreatOpen
import Derived.Test.YtablbagdnmbbfaaGreatOwnOr
namespace Go.Proofs.YtablbagdnmbbfaaGreat
set_option linter.unusedSimpArgs false
set_option linter.unusedVariables false
open Go.RowKit

theorem Own.keptN {w w' : World} {B s n c : Nat} {e : TypeId} {A : Option Addr} {xs : List Value} {row : Option Nat} (h : Own w B e s A n c xs) (hg : w.grownBy w' row) (hne : 0 < c → blk A ≠ row) : Own w' B e s A n c xs := by
  obtain ⟨h1, h2, h3, h4, hb, h5⟩ := h
  refine ⟨h1, h2, h3, h4, hb, fun hc => ?_⟩
  obtain ⟨g, off, cur, rfl, hh, r⟩ := h5 hc
  refine ⟨g, off, cur, rfl, ?_, r⟩
  rw [hg.block g (lt_heap hh) (by have := hne hc; simpa [blk] using this)]
  exact hh
theorem own_two {w : World} {B B' s s' n n' c c' : Nat} {e e' : TypeId} {A A' : Option Addr} {xs xs' : List Value} (h : Own w B e s A n c xs) (h' : Own w B' e' s' A' n' c' xs') (he : e ≠ e') (hz : c' = 0 → A' = none) : 0 < c → blk A ≠ blk A' := by
  intro hc hb
  obtain ⟨g, off, cur, rfl, hh, _⟩ := h.2.2.2.2.2 hc
  by_cases hc' : c' = 0
  · rw [hz hc'] at hb; simp [blk] at hb
  · obtain ⟨g', off', cur', rfl, hh', _⟩ := h'.2.2.2.2.2 (by omega)
    simp [blk] at hb
    subst hb
    rw [hh] at hh'
    injection hh' with hh'
    injection hh' with _ h2
    exact he h2
/-- The routes L lie at A, all of them in memory that w0 did not have. -/
structure LW (w0 wr : World) (L : List RtZ) (A : Option Addr) (c : Nat) : Prop where
  below : Below w0.heap.size w0 wr
  row : Own wr w0.heap.size 53 3 A L.length c (L.flatMap rtCells)
  za : c = 0 → A = none
  each : ∀ z ∈ L, OwnOr wr w0.heap.size z.2.1 z.2.2 z.1.path
section
variable {w0 wr w1 w2 w' : World} {L : List RtZ} {A : Option Addr} {c : Nat}
theorem LW.begin (hb : Below w0.heap.size w0 wr) : LW w0 wr [] none 0 := ⟨hb, Own.nil _ _ _ _, fun _ => rfl, by intro z hz; cases hz⟩
theorem LW.call (a : LW w0 wr L A c) (hb : Below wr.heap.size wr w') : LW w0 w' L A c :=
  ⟨a.below.trans (hb.mono a.below.size), a.row.call hb, a.za, fun z hz => (a.each z hz).call hb⟩
theorem LW.alloc (a : LW w0 wr L A c) (o : Obj) : LW w0 (wr.alloc o) L A c := a.call ((Below.refl _ _).alloc (Nat.le_refl _) o)
theorem LW.rts (a : LW w0 wr L A c) : RtsR wr wr.heap.size L A := ⟨a.row.rd, fun z hz => (a.each z hz).rt _ _⟩
/-- One more. -/
theorem LW.app (a : LW w0 wr L A c) {z : RtZ} {B : Nat} (hB : w0.heap.size ≤ B) (ho : OwnOr wr B z.2.1 z.2.2 z.1.path) {A2 : Option Addr} {n c2 : Nat} (hn : n = L.length + 1) (hg : wr.grownBy w2 (blk A)) (hown : Own w2 w0.heap.size 53 3 A2 n c2 (L.flatMap rtCells ++ rtCells z)) :
    LW w0 w2 (L ++ [z]) A2 c2 := by
  subst hn
  refine ⟨a.below.grown hg a.below.size (fun g h => a.row.from_ g h), ?_, ?_, ?_⟩
  · have e : (L ++ [z]).flatMap rtCells = L.flatMap rtCells ++ rtCells z := by simp
    rw [e]; simpa using hown
  · intro e; have := hown.2.1; omega
  · intro y hy
    rcases List.mem_append.1 hy with hy | hy
    · exact (a.each y hy).imp (fun h => h.keptN hg (own_two h a.row (by decide) a.za)) id
    · simp at hy; subst hy
      exact OwnOr.more (ho.imp (fun h => h.keptN hg (own_two h a.row (by decide) a.za)) id) hB
end
theorem flat_drop : ∀ (L : List RtZ) (k : Nat), (L.flatMap rtCells).drop (k * 3) = (L.drop k).flatMap rtCells
  | L, 0 => by simp
  | [], k + 1 => by simp
  | z :: L, k + 1 => by
    have e : (k + 1) * 3 = (rtCells z).length + k * 3 := by simp [rtCells]; omega
    rw [List.flatMap_cons, e, List.drop_append, List.drop_eq_nil_of_le (by omega)]
    simp only [List.nil_append, List.drop_succ_cons]
    rw [show (rtCells z).length + k * 3 - (rtCells z).length = k * 3 by omega]
    exact flat_drop L k
theorem flat_take : ∀ (L : List RtZ) (k : Nat), (L.flatMap rtCells).take (k * 3) = (L.take k).flatMap rtCells
  | L, 0 => by simp
  | [], k + 1 => by simp
  | z :: L, k + 1 => by
    have e : (k + 1) * 3 = (rtCells z).length + k * 3 := by simp [rtCells]; omega
    rw [List.flatMap_cons, e, List.take_append, List.take_of_length_le (by omega)]
    rw [show (rtCells z).length + k * 3 - (rtCells z).length = k * 3 by omega, flat_take L k]
    simp
/-- l[k:] reads. -/
theorem LW.dropRd {w0 wr : World} {L : List RtZ} {A : Option Addr} {c : Nat} (a : LW w0 wr L A c) {k : Nat} (hk : k ≤ L.length) : Rd wr wr.heap.size 3 (if c = k then A else A.map (·.add (k * 3))) (L.length - k) ((L.drop k).flatMap rtCells) := by
  have := (a.row.cut hk).rd
  rwa [flat_drop] at this
/-- l[:k] reads. -/
theorem LW.takeRd {w0 wr : World} {L : List RtZ} {A : Option Addr} {c : Nat} (a : LW w0 wr L A c) {k : Nat} (hk : k ≤ L.length) : Rd wr wr.heap.size 3 A k ((L.take k).flatMap rtCells) := by
  have h := a.row.rd
  refine ⟨by rw [flat_len (f := rtCells) (s := 3) (fun _ => rfl)]; simp; omega, fun h0 => ?_⟩
  obtain ⟨b, o, e, hb, hc⟩ := h.2 (by omega)
  refine ⟨b, o, e, hb, fun j u hj => hc j u ?_⟩
  rw [← flat_take] at hj
  rw [List.getElem?_take] at hj
  split at hj
  · exact hj
  · cases hj
theorem Tryz.info_rt : (Tryz.prog.info? 53).map (fun i => (i.zero, i.size, i.bytes)) = some (some (.agg #[.int .i64 0, .int .i64 0, .slice none 0 0]), 3, 40) := by kernel_rfl
end Go.Proofs.YtablbagdnmbbfaaGreat

/- From a slice of slices of integers that came in to what the walks are told. No program is walked here. -/
import Derived.Test.YtablbagdnmbbfaaGreatOpen
import Derived.Deep.Matrix
namespace Go.Proofs.YtablbagdnmbbfaaGreat
set_option linter.unusedSimpArgs false
set_option linter.unusedVariables false
open Go.ChangeShapes Go.WideShapes Go.ChangeAt Go.RowKit Go.Sort Go.Deep

def rowV (z : List Int × (Option Addr × Nat)) : Value := .slice z.2.1 z.1.length z.2.2
/-- What the walks are told of a slice of slices of integers: the rows' numbers R, their heads V. -/
structure RowsIn (w : World) (a : Option Addr) (cap : Nat) (R : List (List Int)) (V : List (Option Addr × Nat)) : Prop where
  len : V.length = R.length
  row : Rd w w.heap.size 1 a R.length ((R.zip V).map rowV)
  each : ∀ z ∈ R.zip V, InRow w z.2.1 z.2.2 z.1
  le : R.length ≤ cap
  max : cap ≤ maxLen
theorem RowsIn.call {w w' : World} {a : Option Addr} {cap : Nat} {R : List (List Int)} {V : List (Option Addr × Nat)} (h : RowsIn w a cap R V) (hb : Below w.heap.size w w') : RowsIn w' a cap R V :=
  ⟨h.len, (h.row.below hb (Nat.le_refl _)).more hb.size, fun z hz => (h.each z hz).call hb, h.le, h.max⟩
theorem zip_ranges {α β : Type} (f : Nat → α) (g : Nat → β) (n : Nat) : ((List.range n).map f).zip ((List.range n).map g) = (List.range n).map fun i => (f i, g i) := by
  induction n with
  | zero => rfl
  | succ n ih => rw [List.range_succ, List.map_append, List.map_append, List.zip_append (by simp), ih, List.map_append]; rfl
theorem inRow_of {W : World} {A : Option Addr} {L C : Nat} {Z : List Int} (hl : L ≤ C) (hm : C ≤ maxLen) (hz : Z.length = C) (hw : ∀ n ∈ Z, (Lit.int .i64 n).wf = true) (hn : A = none → C = 0)
    (hc : ∀ a', A = some a' → ∀ c, c < C → W.cell? (a'.add c) = some (.int .i64 (Z.getD c 0))) : InRow W A C (Z.take L) := by
  refine ⟨⟨by simp [ints], fun h0 => ?_⟩, fun y hy => in64_of_wf (hw y (List.mem_of_mem_take hy)), by simp; omega, hm⟩
  have h0' : 0 < L := by simp at h0; omega
  cases A with
  | none => have := hn rfl; omega
  | some a' =>
    obtain ⟨b, off, spot⟩ := a'
    have hcell := hc _ rfl
    have hspot : spot = none := by simpa [Addr.add] using World.cell?_spot (hcell 0 (by omega))
    subst hspot
    refine ⟨b, off, rfl, cell_lt (hcell 0 (by omega)), fun j u hj => ?_⟩
    have hjl : j < L := by
      have := (List.getElem?_eq_some_iff.1 hj).1
      simp [ints] at this; omega
    have := hcell j (by omega)
    rw [add_plain] at this
    rw [this]
    simp only [ints, List.getElem?_map, List.getElem?_take_of_lt hjl] at hj
    rw [List.getElem?_eq_getElem (by omega)] at hj
    rw [← hj]
    simp [List.getD, List.getElem?_eq_getElem (show j < Z.length by omega)]
theorem open_rows {H : Type} {enc : TypeId × Value → H} {W : World} {t e q fuel : Nat} (ht : Tryz.prog.underlying t = some (.slice e)) (he : Tryz.prog.underlying e = some (.slice q)) (hq : Tryz.prog.underlying q = some (.int .i64)) (ce : Tryz.prog.cellsOf e = 1) (cq : Tryz.prog.cellsOf q = 1) {a : Option Addr} {len cap : Nat} {x : DataW H × List MemPlace}
    (hf : DataW.trod enc Tryz.prog W 0 (fun _ => true) true fuel t [.slice a len cap] = some x) : ∃ (R : List (List Int)) (V : List (Option Addr × Nat)), R.length = len ∧ RowsIn W a cap R V := by
  rcases open_int_rows ht he hq ce cq hf with ⟨hcs, _⟩ | ⟨a', len', cap', A, L, C, Z, hcs, _, hl, hm, _, hr⟩
  · simp at hcs
    obtain ⟨rfl, rfl, rfl⟩ := hcs
    exact ⟨[], [], rfl, rfl, Rd.nil _, (by intro z hz; cases hz), Nat.le_refl _, by simp [maxLen]⟩
  · simp at hcs
    obtain ⟨rfl, rfl, rfl⟩ := hcs
    have hz := zip_ranges (fun r => (Z r).take (L r)) (fun r => (A r, C r)) len
    refine ⟨(List.range len).map fun r => (Z r).take (L r), (List.range len).map fun r => (A r, C r), by simp, by simp, ?_, ?_, by simpa using hl, hm⟩
    · rw [hz]
      refine ⟨by simp, fun h0 => ?_⟩
      have h0' : 0 < len := by simpa using h0
      obtain ⟨b, off, spot⟩ := a'
      have hspot : spot = none := by simpa [Addr.add] using World.cell?_spot (hr 0 (by omega)).1
      subst hspot
      refine ⟨b, off, rfl, cell_lt (hr 0 (by omega)).1, fun j u hj => ?_⟩
      have hjl : j < len := by
        have := (List.getElem?_eq_some_iff.1 hj).1
        simpa using this
      obtain ⟨h1, h2, _, h4, _⟩ := hr j (by omega)
      rw [add_plain] at h1
      rw [h1]
      simp [hjl] at hj
      rw [← hj]
      simp [rowV]; omega
    · intro z hzm
      rw [hz] at hzm
      obtain ⟨r, hrm, rfl⟩ := List.mem_map.1 hzm
      have hrl := List.mem_range.1 hrm
      obtain ⟨_, h2, h3, h4, h5, h6, h7⟩ := hr r (by omega)
      exact inRow_of h2 h3 h4 h5 h6 (fun a' e => (h7 a' e).2)
end Go.Proofs.YtablbagdnmbbfaaGreat

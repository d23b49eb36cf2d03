/- From the arguments as they come in to what the walks are told: slices of integers, and numbers. No program is walked here. -/
import Derived.Test.YtablbagdnmbbfaaGreatBase
import Derived.ProofKit
import Derived.OpenShut
import Derived.ChangeOld
import Derived.Below
import Derived.Sort.OwnSorted
namespace Go.Proofs.YtablbagdnmbbfaaGreat
set_option linter.unusedSimpArgs false
set_option linter.unusedVariables false
open Go.ChangeShapes Go.WideShapes Go.ChangeAt Go.RowKit Go.Sort
open Go.ChangeMaps (open_string shut_string)

theorem own : ownKnob Tryz.prog.godebug = none := by kernel_rfl
theorem laidOut : laidOutB Tryz.prog = true := by kernel_rfl
/-- What the walks are told of a slice of integers that came in. -/
structure InRow (w : World) (a : Option Addr) (cap : Nat) (l : List Int) : Prop where
  rd : Rd w w.heap.size 1 a l.length (ints l)
  in64 : ∀ x ∈ l, In64 x
  le : l.length ≤ cap
  max : cap ≤ maxLen
theorem InRow.call {w w' : World} {a : Option Addr} {cap : Nat} {l : List Int} (h : InRow w a cap l) (hb : Below w.heap.size w w') : InRow w' a cap l :=
  ⟨(h.rd.below hb (Nat.le_refl _)).more hb.size, h.in64, h.le, h.max⟩
theorem InRow.len {w : World} {a : Option Addr} {cap : Nat} {l : List Int} (h : InRow w a cap l) : l.length ≤ maxLen := Nat.le_trans h.le h.max
theorem in64_of_wf {n : Int} (h : (Lit.int .i64 n).wf = true) : In64 n := by
  have := bounds_i64 h
  unfold In64
  omega
theorem cell_lt {w : World} {a : Addr} {v : Value} (h : w.cell? a = some v) : a.block < w.heap.size := by
  apply Nat.lt_of_not_le
  intro hge
  simp [World.cell?, Array.getElem?_eq_none hge] at h
theorem open_row {H : Type} {enc : TypeId × Value → H} {W : World} {t e fuel : Nat} (hu : Tryz.prog.underlying t = some (.slice e)) (he : Tryz.prog.underlying e = some (.int .i64)) (hc : Tryz.prog.cellsOf e = 1) {a : Option Addr} {len cap : Nat} {x : DataW H × List MemPlace}
    (hf : DataW.trod enc Tryz.prog W 0 (fun _ => true) true fuel t [.slice a len cap] = some x) : ∃ l : List Int, l.length = len ∧ InRow W a cap l := by
  rcases open_ints hu he hc hf with ⟨hcs, _⟩ | ⟨x, l, c, zs, hcs, _, hl, hm, hz, _, hcell, hwz⟩
  · simp [Value.cells] at hcs
    obtain ⟨rfl, rfl, rfl⟩ := hcs
    exact ⟨[], rfl, ⟨Rd.nil _, by simp, Nat.le_refl _, by simp [maxLen]⟩⟩
  · simp [Value.cells] at hcs
    obtain ⟨rfl, rfl, rfl⟩ := hcs
    obtain ⟨b, off, spot⟩ := x
    have hz' : zs.length = cap := by simpa using hz
    refine ⟨zs.take len, by simp; omega, ⟨?_, fun y hy => in64_of_wf (hwz y (List.mem_of_mem_take hy)), by simp; omega, hm⟩⟩
    refine ⟨by simp [ints], fun hn => ?_⟩
    have hn' : 0 < len := by simp at hn; omega
    have hspot : spot = none := by simpa [Addr.add] using World.cell?_spot (hcell 0 (by omega))
    subst hspot
    refine ⟨b, off, rfl, cell_lt (hcell 0 (by omega)), fun j u hj => ?_⟩
    have hjl : j < len := by
      have := (List.getElem?_eq_some_iff.1 hj).1
      simp [ints] at this; omega
    have := hcell j (by omega)
    rw [add_plain] at this
    rw [this]
    simp only [ints, List.getElem?_map, List.getElem?_take_of_lt hjl] at hj
    rw [List.getElem?_eq_getElem (by omega)] at hj
    rw [← hj]
    simp [List.getD, List.getElem?_eq_getElem (show j < zs.length by omega)]
end Go.Proofs.YtablbagdnmbbfaaGreat

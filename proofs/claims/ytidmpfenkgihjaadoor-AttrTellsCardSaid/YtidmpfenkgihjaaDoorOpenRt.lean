/- From a route that came in to what the walks are told. No program is walked here. -/
import Derived.Test.YtidmpfenkgihjaaDoorBase
import Derived.Test.YtidmpfenkgihjaaDoorRt
import Derived.Deep.Strs
namespace Go.Proofs.YtidmpfenkgihjaaDoor
set_option linter.unusedSimpArgs false
set_option linter.unusedVariables false
open Go.ChangeShapes Go.WideShapes Go.ChangeAt Go.RowKit Go.Sort Go.Deep

theorem Tryd.cells_rt : Tryd.prog.cellsOf 41 = 3 := by kernel_rfl
theorem Tryd.cells_int1 : Tryd.prog.cellsOf 3 = 1 := by kernel_rfl
theorem Tryd.cells_ints1 : Tryd.prog.cellsOf 22 = 1 := by kernel_rfl
theorem open_rt {H : Type} {enc : TypeId × Value → H} {W : World} {fuel : Nat} {cs : Array Value} {x : DataW H × List MemPlace}
    (hf : DataW.trod enc Tryd.prog W 0 (fun _ => true) true fuel 41 cs.toList = some x) : ∃ (r : Rt) (A : Option Addr) (c : Nat), cs = #[.int .i64 r.kind, .int .i64 r.cost, .slice A r.path.length c] ∧ InRow W A c r.path := by
  obtain ⟨y0, y1, y2, n, _, hl, h0, h1, h2⟩ := trod_struct3 Tryd.underlying41 hf
  rw [Tryd.cells_rt] at hl
  obtain ⟨cs⟩ := cs
  simp only at hl h0 h1 h2
  obtain ⟨a, b, c, rfl⟩ : ∃ a b c, cs = [a, b, c] := by
    rcases cs with _ | ⟨a, _ | ⟨b, _ | ⟨c, _ | ⟨d, cs⟩⟩⟩⟩
    · simp at hl
    · simp at hl
    · simp at hl
    · exact ⟨a, b, c, rfl⟩
    · simp at hl
  have h0' : DataW.trod enc Tryd.prog W 0 (fun _ => true) true n 3 [a] = some y0 := by simpa [Tryd.cells_int1] using h0
  have h1' : DataW.trod enc Tryd.prog W 0 (fun _ => true) true n 3 [b] = some y1 := by simpa [Tryd.cells_int1] using h1
  have h2' : DataW.trod enc Tryd.prog W 0 (fun _ => true) true n 22 [c] = some y2 := by simpa [Tryd.cells_ints1] using h2
  obtain ⟨k, e0, _⟩ := DataW.trod_int Tryd.underlying3 h0'
  obtain ⟨co, e1, _⟩ := DataW.trod_int Tryd.underlying3 h1'
  injection e0 with e0
  injection e1 with e1
  subst e0 e1
  rcases open_ints Tryd.underlying22 Tryd.underlying3 Tryd.cells_int1 h2' with ⟨hc, _⟩ | ⟨ad, len, cap, zs, hc, _⟩
  · injection hc with hc
    subst hc
    obtain ⟨l, hll, hI⟩ := open_row Tryd.underlying22 Tryd.underlying3 Tryd.cells_int1 h2'
    exact ⟨⟨k, co, l⟩, none, 0, by rw [hll], hI⟩
  · injection hc with hc
    subst hc
    obtain ⟨l, hll, hI⟩ := open_row Tryd.underlying22 Tryd.underlying3 Tryd.cells_int1 h2'
    exact ⟨⟨k, co, l⟩, some ad, cap, by rw [hll], hI⟩
end Go.Proofs.YtidmpfenkgihjaaDoor

/- The walk of backstaylaw07.Held: of raw numbers, a route that a node may hold. -/
import Derived.Test.YtiehlnokidhgfaaCarryP
import Derived.Test.YtiehlnokidhgfaaBl
import Derived.Test.YtiehlnokidhgfaaPbox
import Derived.Test.YtiehlnokidhgfaaRegs
import Derived.Handy
namespace Go.Proofs.Ytiehlnokidhgfaa
set_option linter.unusedSimpArgs false
set_option linter.unusedVariables false
open Go.RowKit

theorem pick7_any (c n : Int) (w : World) (hc : In64 c) (hn : 0 < n) (hn2 : n < 10000000000) : Calls Try.prog 6 #[.int .i64 c, .int .i64 n] w fun e w' => e = .returned (.int .i64 (pickV c n)) ∧ w = w' := by
  obtain ⟨h1, h2⟩ := hc
  have hn0 : n ≠ 0 := by omega
  by_cases h : c < 0
  · have HN := Lib.hid (show pickV c n = Int.tmod (-(c + 1)) n from by unfold pickV; rw [if_pos h, Int.tmod_eq_emod_of_nonneg (by omega)])
    go_enter Try.func6, Try.ntmps6
    go_wp2
    go_ret
    exact ⟨ret_int (by rw [HN.out, Int.neg_tmod]), rfl⟩
  · have HN := Lib.hid (show pickV c n = c % n from by unfold pickV; rw [if_neg h])
    go_enter Try.func6, Try.ntmps6
    go_wp2
    go_ret
    exact ⟨ret_int (by rw [HN.out]), rfl⟩

structure HeldW (w wr : World) (p : Net) (h : Hd) (l : List Int) (A : Option Addr) (c : Nat) : Prop where
  bl : Bl w wr [.cells (netCells p h) 31, .cells #[.int .i64 0, .int .i64 0, .slice none 0 0] 24, .cells #[.int .i64 2, .int .i64 0, .slice A l.length c] 24]
  own : Own wr (w.heap.size + 3) 3 1 A l.length c (ints l)
section
variable {w wr w' w2 : World} {p : Net} {h : Hd} {l : List Int} {A : Option Addr} {c : Nat}
theorem HeldW.begin (w : World) (p : Net) (h : Hd) : HeldW w (((w.alloc (.cells (netCells p h) 31)).alloc (.cells #[.int .i64 0, .int .i64 0, .slice none 0 0] 24)).alloc (.cells #[.int .i64 2, .int .i64 0, .slice none 0 0] 24)) p h [] none 0 :=
  ⟨(((Bl.begin w).push (by simp) _).push (by simp) _).push (by simp) _, Own.nil _ _ _ _⟩
theorem HeldW.alloc (a : HeldW w wr p h l A c) (o : Obj) : HeldW w (wr.alloc o) p h l A c := ⟨a.bl.alloc o, a.own.alloc o⟩
theorem HeldW.at2 (a : HeldW w wr p h l A c) : wr.cell? ⟨w.heap.size + 1 + 1, 2, none⟩ = some (.slice A l.length c) := a.bl.cell (i := 2) rfl
theorem HeldW.size (a : HeldW w wr p h l A c) : w.heap.size + 3 ≤ wr.heap.size := by have := a.bl.lt (i := 2) (by simp); omega
theorem HeldW.plan (a : HeldW w wr p h l A c) : wr.cell? ⟨w.heap.size, 0, none⟩ = some (.int .i64 p.proto) ∧ wr.cell? ⟨w.heap.size, 1, none⟩ = some (.int .i64 p.cap) ∧ wr.cell? ⟨w.heap.size, 3, none⟩ = some (.slice h.an p.nodes.length h.cn) :=
  ⟨a.bl.cell (i := 0) (k := 0) rfl, a.bl.cell (i := 0) (k := 1) rfl, a.bl.cell (i := 0) (k := 3) rfl⟩
theorem HeldW.grow (a : HeldW w wr p h l A c) (hg : wr.grownBy w2 (blk A)) : Bl w w2 [.cells (netCells p h) 31, .cells #[.int .i64 0, .int .i64 0, .slice none 0 0] 24, .cells #[.int .i64 2, .int .i64 0, .slice A l.length c] 24] :=
  a.bl.grown hg (fun g e => a.own.from_ g e)
theorem HeldW.cell2 (a : HeldW w wr p h l A c) (hg : wr.grownBy w2 (blk A)) : w2.cell? ⟨w.heap.size + 1 + 1, 2, none⟩ = some (.slice A l.length c) := (a.grow hg).cell (i := 2) rfl
theorem HeldW.free2 (a : HeldW w wr p h l A c) (hg : wr.grownBy w2 (blk A)) (k : Nat) : w2.frozen? ⟨w.heap.size + 1 + 1, k, none⟩ = false := (a.grow hg).free (i := 2) rfl
theorem HeldW.app (a : HeldW w wr p h l A c) {x : Int} {A2 : Option Addr} {c2 n : Nat} (hn : n = l.length + 1) (hg : wr.grownBy w2 (blk A)) (hown : Own w2 (w.heap.size + 3) 3 1 A2 n c2 (ints l ++ [.int .i64 x])) :
    HeldW w (w2.setCell ⟨w.heap.size + 1 + 1, 2, none⟩ (.slice A2 n c2)) p h (l ++ [x]) A2 c2 := by
  subst hn
  refine ⟨?_, ?_⟩
  · have := (a.grow hg).put (i := 2) (k := 2) rfl (.slice A2 (l.length + 1) c2)
    simpa using this
  · have := hown.setCell_far (p := ⟨w.heap.size + 1 + 1, 2, none⟩) (fun g hg => by have := hown.from_ g hg; simp; omega) (.slice A2 (l.length + 1) c2)
    simpa [ints] using this
theorem HeldW.resAt (a : HeldW w wr p h l A c) : wr.cell? ⟨w.heap.size + 1, 0, none⟩ = some (.int .i64 0) ∧ wr.cell? ⟨w.heap.size + 1, 1, none⟩ = some (.int .i64 0) ∧ wr.cell? ⟨w.heap.size + 1, 2, none⟩ = some (.slice none 0 0) :=
  ⟨a.bl.cell (i := 1) (k := 0) rfl, a.bl.cell (i := 1) (k := 1) rfl, a.bl.cell (i := 1) (k := 2) rfl⟩
theorem HeldW.resFree (a : HeldW w wr p h l A c) (k : Nat) : wr.frozen? ⟨w.heap.size + 1, k, none⟩ = false := a.bl.free (i := 1) rfl
theorem HeldW.rAt (a : HeldW w wr p h l A c) : wr.cell? ⟨w.heap.size + 1 + 1, 0, none⟩ = some (.int .i64 2) ∧ wr.cell? ⟨w.heap.size + 1 + 1, 1, none⟩ = some (.int .i64 0) ∧ wr.cell? ⟨w.heap.size + 1 + 1, 2, none⟩ = some (.slice A l.length c) :=
  ⟨a.bl.cell (i := 2) (k := 0) rfl, a.bl.cell (i := 2) (k := 1) rfl, a.bl.cell (i := 2) (k := 2) rfl⟩
end
/-- The route is handed back, its list in memory of the call's own. -/
def HeldPost (r : Rt) (w : World) (e : Ending) (w' : World) : Prop :=
  ∃ A c, e = .returned (rtV r A c) ∧ Own w' w.heap.size 3 1 A r.path.length c (ints r.path) ∧ Below w.heap.size w w'
theorem HeldW.answer {w wr : World} {p : Net} {h : Hd} {l : List Int} {A : Option Addr} {c : Nat} (a : HeldW w wr p h l A c) {r : Rt} (e : r = ⟨2, 0, l⟩) :
    HeldPost r w (.returned (rtV ⟨2, 0, l⟩ A c)) (((wr.setCell ⟨w.heap.size + 1, 0, none⟩ (.int .i64 2)).setCell ⟨w.heap.size + 1, 1, none⟩ (.int .i64 0)).setCell ⟨w.heap.size + 1, 2, none⟩ (.slice A l.length c)) := by
  have hf : ∀ {wx : World} (i : Nat) (v : Value), Own wx (w.heap.size + 3) 3 1 A l.length c (ints l) → Own (wx.setCell ⟨w.heap.size + 1, i, none⟩ v) (w.heap.size + 3) 3 1 A l.length c (ints l) :=
    fun i v h => h.setCell_far (fun g hg => by have := h.from_ g hg; simp; omega) v
  subst e
  exact ⟨A, c, rfl, (hf _ _ (hf _ _ (hf _ _ a.own))).more (by omega), ((a.bl.below.setCell (by simp) _).setCell (by simp) _).setCell (by simp) _⟩
end Go.Proofs.Ytiehlnokidhgfaa

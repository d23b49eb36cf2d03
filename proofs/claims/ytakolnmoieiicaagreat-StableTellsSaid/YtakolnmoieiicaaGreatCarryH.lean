/- The walks of package carry's inner functions: of, and the methods of its two protocols. What package carry's functions answer at a network that may be. What carry.Own answers at a network that may be. What the walks of layer 7's statements share: a network, and routes, each in a box. No program is walked here. -/
import Derived.Test.YtakolnmoieiicaaGreatRoundP
import Derived.Test.YtakolnmoieiicaaGreatContains
import Derived.Test.YtakolnmoieiicaaGreatNetD
import Derived.Test.YtakolnmoieiicaaGreatRegs
import Derived.Handy
import Derived.Test.YtakolnmoieiicaaGreatAttrX
import Derived.Test.YtakolnmoieiicaaGreatAttrB
namespace Go.Proofs.YtakolnmoieiicaaGreat
set_option linter.unusedSimpArgs false
set_option linter.unusedVariables false
open Go.RowKit

section
def protoV (p : Net) : Value := if p.proto = 2 then .iface 117 (.agg #[.int .i64 p.cap]) else .iface 118 (.agg #[])
theorem of_any (p : Net) (h : Hd) (w : World) : Calls Tryz.prog 71 #[netV p h] w fun e w' => e = .returned (protoV p) ∧ Below w.heap.size w w' := by
  unfold netV netVal
  by_cases h2 : p.proto = 2
  · have HN := Lib.hid (show protoV p = .iface 117 (.agg #[.int .i64 p.cap]) from by unfold protoV; rw [if_pos h2])
    have hb : (p.proto == 2) = true := by simp [h2]
    clear h2
    go_enter Tryz.func71, Tryz.ntmps71
    go_wp2
    go_ret
    exact ⟨by rw [HN.out]; rfl, (Below.refl _ _).alloc (Nat.le_refl _) _⟩
  · have HN := Lib.hid (show protoV p = .iface 118 (.agg #[]) from by unfold protoV; rw [if_neg h2])
    have hb : (p.proto == 2) = false := by simp [h2]
    clear h2
    go_enter Tryz.func71, Tryz.ntmps71
    go_wp2
    go_ret
    exact ⟨by rw [HN.out]; rfl, (Below.refl _ _).alloc (Nat.le_refl _) _⟩
def ndV (x : Nd) : Value := .agg #[.string x.name, .int .i64 x.as_]
theorem vfits_any (x : Nd) (r : Rt) (A : Option Addr) (c : Nat) (w : World) : Calls Tryz.prog 172 #[.agg #[], ndV x, rtV r A c] w fun e w' => e = .returned (.bool (decide (r.kind = 1))) ∧ Below w.heap.size w w' := by
  have HB := Lib.hid (show decide (r.kind = 1) = (r.kind == 1) from by rw [Bool.eq_iff_iff]; simp)
  unfold rtV ndV
  go_enter Tryz.func172, Tryz.ntmps172
  go_wp2
  go_ret
  exact ⟨ret_bool (by rw [HB.out]), ((((Below.refl _ _).alloc (Nat.le_refl _) _).alloc (by simp) _).alloc (by simp; omega) _)⟩
theorem pfits_any (cap : Int) (x : Nd) (r : Rt) (A : Option Addr) (c : Nat) (w : World) (h : RtR w w.heap.size r A c) (hl : r.path.length ≤ 1000) :
    Calls Tryz.prog 167 #[.agg #[.int .i64 cap], ndV x, rtV r A c] w fun e w' => e = .returned (.bool (decide (r.kind = 2) && (decide ((r.path.length : Int) ≤ cap) && !decide (x.as_ ∈ r.path)))) ∧ Below w.heap.size w w' := by
  have HR := Lib.hid h.1
  have B3 : Hid (Below w.heap.size w (((w.alloc (.cells #[.int .i64 cap] 117)).alloc (.cells #[.string x.name, .int .i64 x.as_] 55)).alloc (.cells #[.int .i64 r.kind, .int .i64 r.cost, .slice A r.path.length c] 48))) :=
    Lib.hid ((((Below.refl _ _).alloc (Nat.le_refl _) _).alloc (by simp) _).alloc (by simp; omega) _)
  unfold rtV ndV
  clear h
  by_cases h2 : r.kind = 2
  · have hb : (r.kind == 2) = true := by simp [h2]
    by_cases h3 : (r.path.length : Int) ≤ cap
    · have HN := Lib.hid (show (decide (r.kind = 2) && (decide ((r.path.length : Int) ≤ cap) && !decide (x.as_ ∈ r.path))) = !decide (x.as_ ∈ r.path) from by simp [h2, h3])
      clear h2
      go_enter Tryz.func167, Tryz.ntmps167
      go_wp2_with (go_at_call 70; refine (containsI_any r.path x.as_ A c _ _ ((HR.out.below B3.out (Nat.le_refl _)).more B3.out.size) (by omega)).mono ?_; rintro e w' ⟨rfl, rfl⟩)
      go_ret
      exact ⟨ret_bool (by rw [HN.out]), B3.out⟩
    · have HN := Lib.hid (show (decide (r.kind = 2) && (decide ((r.path.length : Int) ≤ cap) && !decide (x.as_ ∈ r.path))) = false from by simp [h3])
      clear h2
      go_enter Tryz.func167, Tryz.ntmps167
      go_wp2
      go_ret
      exact ⟨ret_bool (by rw [HN.out]), B3.out⟩
  · have hb : (r.kind == 2) = false := by simp [h2]
    have HN := Lib.hid (show (decide (r.kind = 2) && (decide ((r.path.length : Int) ≤ cap) && !decide (x.as_ ∈ r.path))) = false from by simp [h2])
    clear h2
    go_enter Tryz.func167, Tryz.ntmps167
    go_wp2
    go_ret
    exact ⟨ret_bool (by rw [HN.out]), B3.out⟩
/-- A route is handed back. -/
def RtPost (r : Rt) (w : World) (e : Ending) (w' : World) : Prop := ∃ A c, e = .returned (rtV r A c) ∧ RtR w' w'.heap.size r A c ∧ Below w.heap.size w w'
theorem rtR_nil {w : World} {B : Nat} {k c : Int} : RtR w B ⟨k, c, []⟩ none 0 := ⟨Rd.nil _, Nat.le_refl _, by simp [maxLen]⟩
theorem vown_any (w : World) : Calls Tryz.prog 174 #[.agg #[]] w fun e w' => e = .returned (.agg #[.int .i64 1, .int .i64 0, .slice none 0 0]) ∧ Below w.heap.size w w' := by
  go_enter Tryz.func174, Tryz.ntmps174
  go_wp2
  exact bodyPost_ret (v := .agg #[.int .i64 1, .int .i64 0, .slice none 0 0]) (by simp [results, Tryz.results174, go_sem]) rfl ⟨rfl, by go_grown⟩
theorem pown_any (cap : Int) (w : World) : Calls Tryz.prog 169 #[.agg #[.int .i64 cap]] w fun e w' => e = .returned (.agg #[.int .i64 2, .int .i64 0, .slice none 0 0]) ∧ Below w.heap.size w w' := by
  go_enter Tryz.func169, Tryz.ntmps169
  go_wp2
  exact bodyPost_ret (v := .agg #[.int .i64 2, .int .i64 0, .slice none 0 0]) (by simp [results, Tryz.results169, go_sem]) rfl ⟨rfl, by go_grown⟩
/-- .. its list in memory of the call's own, or there is none. -/
def OvPost (r : Rt) (w : World) (e : Ending) (w' : World) : Prop := ∃ A c, e = .returned (rtV r A c) ∧ (Own w' w.heap.size 3 1 A r.path.length c (ints r.path) ∨ (r.path = [] ∧ c ≤ maxLen)) ∧ Below w.heap.size w w'
theorem vover_any (k : Int) (x y : Nd) (r : Rt) (A : Option Addr) (c : Nat) (w : World) (h : RtR w w.heap.size r A c) (hk : 0 ≤ k ∧ k ≤ 1000) (hc : 0 ≤ r.cost ∧ r.cost ≤ 1000) (hn : r.path = []) :
    Calls Tryz.prog 173 #[.agg #[], .int .i64 k, ndV x, ndV y, rtV r A c] w (OvPost ⟨r.kind, r.cost + k, r.path⟩ w) := by
  have HF : ∀ w', Below w.heap.size w w' → OvPost ⟨r.kind, r.cost + k, r.path⟩ w (.returned (.agg #[.int .i64 r.kind, .int .i64 (r.cost + k), .slice A r.path.length c])) w' := fun w' hb => ⟨A, c, rfl, .inr ⟨hn, h.2.2⟩, hb⟩
  have HH := Lib.hid HF
  clear HF h hn
  unfold rtV ndV
  go_enter Tryz.func173, Tryz.ntmps173
  go_wp2
  exact bodyPost_ret (v := .agg #[.int .i64 r.kind, .int .i64 (r.cost + k), .slice A r.path.length c]) (by simp [results, Tryz.results173, go_sem]) rfl (HH.out _ (by go_grown))
/-- The blocks of (paths).over. -/
def POver (cap : Int) (x y : Nd) (r : Rt) (A : Option Addr) (c : Nat) (w w7 : World) : Prop :=
  w7.heap.size = w.heap.size + 7 ∧ Below w.heap.size w w7 ∧ Rd w7 w7.heap.size 1 (some ⟨w.heap.size + 1 + 1 + 1 + 1 + 1, 0, none⟩) 1 (ints [x.as_]) ∧ Rd w7 w7.heap.size 1 A r.path.length (ints r.path) ∧
  w7.cell? ⟨w.heap.size + 1 + 1 + 1 + 1 + 1 + 1, 0, none⟩ = some (.slice (some ⟨w.heap.size + 1 + 1 + 1 + 1 + 1, 0, none⟩) 1 1) ∧ w7.cell? ⟨w.heap.size + 1 + 1 + 1 + 1 + 1 + 1, 1, none⟩ = some (.slice A r.path.length c) ∧
  w7.heap[w.heap.size + 1 + 1 + 1]? = some (.cells #[.int .i64 r.kind, .int .i64 r.cost, .slice A r.path.length c] 48 (0, 0)) ∧
  w7.heap[w.heap.size + 1 + 1 + 1 + 1]? = some (.cells #[.int .i64 0, .int .i64 0, .slice none 0 0] 48 (0, 0))
theorem pover_w (cap : Int) (x y : Nd) (r : Rt) (A : Option Addr) (c : Nat) (w : World) (h : RtR w w.heap.size r A c) :
    POver cap x y r A c w (((((((w.alloc (.cells #[.int .i64 cap] 117)).alloc (.cells #[.string x.name, .int .i64 x.as_] 55)).alloc (.cells #[.string y.name, .int .i64 y.as_] 55)).alloc (.cells #[.int .i64 r.kind, .int .i64 r.cost, .slice A r.path.length c] 48)).alloc (.cells #[.int .i64 0, .int .i64 0, .slice none 0 0] 48)).alloc (.cells #[.int .i64 x.as_] 3)).alloc (.cells #[.slice (some ⟨w.heap.size + 1 + 1 + 1 + 1 + 1, 0, none⟩) 1 1, .slice A r.path.length c] 22)) := by
  have hb : Below w.heap.size w (((((((w.alloc (.cells #[.int .i64 cap] 117)).alloc (.cells #[.string x.name, .int .i64 x.as_] 55)).alloc (.cells #[.string y.name, .int .i64 y.as_] 55)).alloc (.cells #[.int .i64 r.kind, .int .i64 r.cost, .slice A r.path.length c] 48)).alloc (.cells #[.int .i64 0, .int .i64 0, .slice none 0 0] 48)).alloc (.cells #[.int .i64 x.as_] 3)).alloc (.cells #[.slice (some ⟨w.heap.size + 1 + 1 + 1 + 1 + 1, 0, none⟩) 1 1, .slice A r.path.length c] 22)) := by go_grown
  refine ⟨by simp, hb, ?_, (h.1.below hb (Nat.le_refl _)).more hb.size, ?_, ?_, ?_, ?_⟩
  · exact ((Rd.new (m := 1) (s := 1) (by simp) rfl).alloc (Nat.le_refl _) _).more (by simp)
  · rw [show w.heap.size + 1 + 1 + 1 + 1 + 1 + 1 = ((((((w.alloc (.cells #[.int .i64 cap] 117)).alloc (.cells #[.string x.name, .int .i64 x.as_] 55)).alloc (.cells #[.string y.name, .int .i64 y.as_] 55)).alloc (.cells #[.int .i64 r.kind, .int .i64 r.cost, .slice A r.path.length c] 48)).alloc (.cells #[.int .i64 0, .int .i64 0, .slice none 0 0] 48)).alloc (.cells #[.int .i64 x.as_] 3)).heap.size by simp, World.cell?_alloc_new]; rfl
  · rw [show w.heap.size + 1 + 1 + 1 + 1 + 1 + 1 = ((((((w.alloc (.cells #[.int .i64 cap] 117)).alloc (.cells #[.string x.name, .int .i64 x.as_] 55)).alloc (.cells #[.string y.name, .int .i64 y.as_] 55)).alloc (.cells #[.int .i64 r.kind, .int .i64 r.cost, .slice A r.path.length c] 48)).alloc (.cells #[.int .i64 0, .int .i64 0, .slice none 0 0] 48)).alloc (.cells #[.int .i64 x.as_] 3)).heap.size by simp, World.cell?_alloc_new]; rfl
  · refine (Below.heap_alloc _ _ _ (by simp)).trans ((Below.heap_alloc _ _ _ (by simp)).trans ((Below.heap_alloc _ _ _ (by simp)).trans ?_))
    have := heap_alloc_new (((w.alloc (.cells #[.int .i64 cap] 117)).alloc (.cells #[.string x.name, .int .i64 x.as_] 55)).alloc (.cells #[.string y.name, .int .i64 y.as_] 55)) (.cells #[.int .i64 r.kind, .int .i64 r.cost, .slice A r.path.length c] 48)
    simpa using this
  · refine (Below.heap_alloc _ _ _ (by simp)).trans ((Below.heap_alloc _ _ _ (by simp)).trans ?_)
    have := heap_alloc_new ((((w.alloc (.cells #[.int .i64 cap] 117)).alloc (.cells #[.string x.name, .int .i64 x.as_] 55)).alloc (.cells #[.string y.name, .int .i64 y.as_] 55)).alloc (.cells #[.int .i64 r.kind, .int .i64 r.cost, .slice A r.path.length c] 48)) (.cells #[.int .i64 0, .int .i64 0, .slice none 0 0] 48)
    simpa using this
set_option maxRecDepth 100000 in
set_option maxHeartbeats 4000000 in
theorem pover_any (cap k : Int) (x y : Nd) (r : Rt) (A : Option Addr) (c : Nat) (w : World) (h : RtR w w.heap.size r A c) (hl : r.path.length ≤ 900) :
    Calls Tryz.prog 168 #[.agg #[.int .i64 cap], .int .i64 k, ndV x, ndV y, rtV r A c] w (OvPost ⟨r.kind, r.cost, x.as_ :: r.path⟩ w) := by
  have HR := Lib.hid h
  clear h
  unfold rtV ndV
  go_enter Tryz.func168, Tryz.ntmps168
  go_wp2_with fail
  have HX := Lib.hid (pover_w cap x y r A c w HR.out)
  unfold POver at HX
  generalize ((((((w.alloc (.cells #[.int .i64 cap] 117)).alloc (.cells #[.string x.name, .int .i64 x.as_] 55)).alloc (.cells #[.string y.name, .int .i64 y.as_] 55)).alloc (.cells #[.int .i64 r.kind, .int .i64 r.cost, .slice A r.path.length c] 48)).alloc (.cells #[.int .i64 0, .int .i64 0, .slice none 0 0] 48)).alloc (.cells #[.int .i64 x.as_] 3)).alloc (.cells #[.slice (some ⟨w.heap.size + 1 + 1 + 1 + 1 + 1, 0, none⟩) 1 1, .slice A r.path.length c] 22) = w7 at HX ⊢
  obtain ⟨hsz, hb7, hrd1, hrd2, hc0, hc1, hbox, hres⟩ := HX.out
  refine (concat_any [x.as_] r.path _ A 1 c 2 _ w7 (by omega) hc0 hc1 hrd1 hrd2 (by simp) (by omega)).mono ?_
  rintro e w8 ⟨A8, c8, rfl, ho, hb8⟩
  have k3 := (hb8.block _ (by omega)).trans hbox
  have k4 := (hb8.block _ (by omega)).trans hres
  have m0 := cell_of_row w8 _ 0 _ _ _ k3
  have m1 := cell_of_row w8 _ 1 _ _ _ k3
  have m2 := cell_of_row w8 _ 2 _ _ _ k3
  have mf := frozen_of_row w8 _ 2 _ _ k3
  have r0 := cell_of_row w8 _ 0 _ _ _ k4
  have r1 := cell_of_row w8 _ 1 _ _ _ k4
  have r2 := cell_of_row w8 _ 2 _ _ _ k4
  have f0 := frozen_of_row w8 _ 0 _ _ k4
  have f1 := frozen_of_row w8 _ 1 _ _ k4
  have f2 := frozen_of_row w8 _ 2 _ _ k4
  have hlen : (([x.as_] ++ r.path).length : Int) = r.path.length + 1 := by simp
  have hb := hb7.trans (hb8.mono (show w.heap.size ≤ w7.heap.size by omega))
  have HO := Lib.hid ho
  have HF : Hid (∀ w', Own w' w.heap.size 3 1 A8 (x.as_ :: r.path).length c8 (ints (x.as_ :: r.path)) → Below w.heap.size w w' → OvPost ⟨r.kind, r.cost, x.as_ :: r.path⟩ w (.returned (.agg #[.int .i64 r.kind, .int .i64 r.cost, .slice A8 ([x.as_] ++ r.path).length c8])) w') := Lib.hid (fun w' h1 h2 => ⟨A8, c8, rfl, .inl h1, h2⟩)
  have HB := Lib.hid hb
  have HS := Lib.hid hsz
  clear hc0 hc1 hrd1 hrd2 hbox hres ho hb hb7 hb8 k3 k4 hsz
  generalize ([x.as_] ++ r.path).length = n8 at *
  go_wp2
  refine bodyPost_ret (v := .agg #[.int .i64 r.kind, .int .i64 r.cost, .slice A8 n8 c8]) (by simp [results, Tryz.results168, go_sem, m0, m1, m2, r0, r1, r2]) rfl (HF.out _ ?_ ?_)
  · have hs := HS.out
    have hf : ∀ q : Nat, q ≤ w.heap.size + 4 → ∀ g, blk A8 = some g → g ≠ q := fun q hq g hg => by have := HO.out.from_ g hg; omega
    have h1 := (((HO.out.setCell_far (p := ⟨w.heap.size + 1 + 1 + 1, 2, none⟩) (hf (w.heap.size + 1 + 1 + 1) (by omega)) (.slice A8 n8 c8)).setCell_far (p := ⟨w.heap.size + 1 + 1 + 1 + 1, 0, none⟩) (hf (w.heap.size + 1 + 1 + 1 + 1) (by omega)) (.int .i64 r.kind)).setCell_far (p := ⟨w.heap.size + 1 + 1 + 1 + 1, 1, none⟩) (hf (w.heap.size + 1 + 1 + 1 + 1) (by omega)) (.int .i64 r.cost)).setCell_far (p := ⟨w.heap.size + 1 + 1 + 1 + 1, 2, none⟩) (hf (w.heap.size + 1 + 1 + 1 + 1) (by omega)) (.slice A8 n8 c8)
    have hn : n8 = (x.as_ :: r.path).length := by simp; omega
    subst hn
    exact h1.more (B' := w.heap.size) (by omega)
  · exact (((HB.out.setCell (p := ⟨w.heap.size + 1 + 1 + 1, 2, none⟩) (by show w.heap.size ≤ w.heap.size + 1 + 1 + 1; omega) _).setCell (p := ⟨w.heap.size + 1 + 1 + 1 + 1, 0, none⟩) (by show w.heap.size ≤ w.heap.size + 1 + 1 + 1 + 1; omega) _).setCell (p := ⟨w.heap.size + 1 + 1 + 1 + 1, 1, none⟩) (by show w.heap.size ≤ w.heap.size + 1 + 1 + 1 + 1; omega) _).setCell (p := ⟨w.heap.size + 1 + 1 + 1 + 1, 2, none⟩) (by show w.heap.size ≤ w.heap.size + 1 + 1 + 1 + 1; omega) _

/-- The boxes of a network and of a route, in a call that has begun. -/
structure PR (w wr : World) (p : Net) (h : Hd) (r : Rt) (A : Option Addr) (c : Nat) : Prop where
  below : Below w.heap.size w wr
  size : w.heap.size + 2 ≤ wr.heap.size
  cells : ∀ i u, (netCells p h)[i]? = some u → wr.cell? ⟨w.heap.size, i, none⟩ = some u
  net : NetR wr wr.heap.size p h
  box : wr.heap[w.heap.size + 1]? = some (.cells #[.int .i64 r.kind, .int .i64 r.cost, .slice A r.path.length c] 48 (0, 0))
  rt : RtR wr wr.heap.size r A c
section
variable {w wr w' : World} {p : Net} {h : Hd} {r : Rt} {A : Option Addr} {c : Nat}
theorem PR.begin (hp : NetR w w.heap.size p h) (hr : RtR w w.heap.size r A c) : PR w ((w.alloc (.cells (netCells p h) 30)).alloc (.cells #[.int .i64 r.kind, .int .i64 r.cost, .slice A r.path.length c] 48)) p h r A c := by
  have hb : Below w.heap.size w ((w.alloc (.cells (netCells p h) 30)).alloc (.cells #[.int .i64 r.kind, .int .i64 r.cost, .slice A r.path.length c] 48)) := by go_grown
  refine ⟨hb, by simp, fun i u hu => ?_, hp.call hb, ?_, hr.call hb⟩
  · rw [World.cell?_alloc_lt _ _ _ (by simp), World.cell?_alloc_new]; exact hu
  · have := heap_alloc_new (w.alloc (.cells (netCells p h) 30)) (.cells #[.int .i64 r.kind, .int .i64 r.cost, .slice A r.path.length c] 48)
    simpa using this
theorem PR.call (a : PR w wr p h r A c) (hb : Below wr.heap.size wr w') : PR w w' p h r A c :=
  ⟨a.below.trans (hb.mono a.below.size), Nat.le_trans a.size hb.size, fun i u hu => (hb.cell (p := ⟨w.heap.size, i, none⟩) (by have := a.size; show w.heap.size < _; omega)).trans (a.cells i u hu), a.net.call hb, (hb.block _ (by have := a.size; omega)).trans a.box, a.rt.call hb⟩
theorem PR.all (a : PR w wr p h r A c) : wr.cell? ⟨w.heap.size, 0, none⟩ = some (.int .i64 p.proto) ∧ wr.cell? ⟨w.heap.size, 1, none⟩ = some (.int .i64 p.cap) ∧ wr.cell? ⟨w.heap.size, 2, none⟩ = some (.int .i64 p.k) ∧ wr.cell? ⟨w.heap.size, 3, none⟩ = some (.slice h.an p.nodes.length h.cn) ∧
    wr.cell? ⟨w.heap.size, 4, none⟩ = some (.slice h.al p.links.length h.cl) ∧ wr.cell? ⟨w.heap.size, 5, none⟩ = some (.slice h.ad p.dests.length h.cd) ∧ wr.cell? ⟨w.heap.size, 6, none⟩ = some (.slice h.ac p.checks.length h.cc) :=
  ⟨a.cells 0 _ rfl, a.cells 1 _ rfl, a.cells 2 _ rfl, a.cells 3 _ rfl, a.cells 4 _ rfl, a.cells 5 _ rfl, a.cells 6 _ rfl⟩
theorem PR.at_ (a : PR w wr p h r A c) : wr.cell? ⟨w.heap.size + 1, 0, none⟩ = some (.int .i64 r.kind) ∧ wr.cell? ⟨w.heap.size + 1, 1, none⟩ = some (.int .i64 r.cost) ∧ wr.cell? ⟨w.heap.size + 1, 2, none⟩ = some (.slice A r.path.length c) :=
  ⟨cell_of_row wr _ 0 _ _ _ a.box, cell_of_row wr _ 1 _ _ _ a.box, cell_of_row wr _ 2 _ _ _ a.box⟩
end
set_option maxRecDepth 100000 in
set_option maxHeartbeats 4000000 in
theorem holds_any (p : Net) (h : Hd) (i : Nat) (r : Rt) (A : Option Addr) (c : Nat) (w : World) (hp : NetR w w.heap.size p h) (hi : i < p.nodes.length) (hr : RtR w w.heap.size r A c) :
    Calls Tryz.prog 94 #[netV p h, .int .i64 (i : Int), rtV r A c] w fun e w' => e = .returned (.bool (holdsB p i r)) ∧ Below w.heap.size w w' := by
  have PX := Lib.hid (PR.begin hp hr)
  obtain ⟨x, hx⟩ : ∃ x, p.nodes[i]? = some x := ⟨_, List.getElem?_eq_getElem hi⟩
  have HX := Lib.hid hx
  have HA := Lib.hid (show asOf p i = x.as_ from by simp [asOf, hx])
  obtain ⟨bn, on, en, -, ec0, ec1⟩ := hp.nodes.node hx
  have hbn : bn < w.heap.size := cell_lt ec0
  have HC : Hid (∀ wy, PR w wy p h r A c → (wy.cell? ⟨w.heap.size + 1, 0, none⟩ = some (.int .i64 r.kind) ∧ wy.cell? ⟨w.heap.size + 1, 1, none⟩ = some (.int .i64 r.cost) ∧ wy.cell? ⟨w.heap.size + 1, 2, none⟩ = some (.slice A r.path.length c) ∧
      wy.cell? ⟨w.heap.size, 0, none⟩ = some (.int .i64 p.proto) ∧ wy.cell? ⟨w.heap.size, 1, none⟩ = some (.int .i64 p.cap) ∧ wy.cell? ⟨w.heap.size, 2, none⟩ = some (.int .i64 p.k) ∧ wy.cell? ⟨w.heap.size, 3, none⟩ = some (.slice (some ⟨bn, on, none⟩) p.nodes.length h.cn) ∧
      wy.cell? ⟨w.heap.size, 4, none⟩ = some (.slice h.al p.links.length h.cl) ∧ wy.cell? ⟨w.heap.size, 5, none⟩ = some (.slice h.ad p.dests.length h.cd) ∧ wy.cell? ⟨w.heap.size, 6, none⟩ = some (.slice h.ac p.checks.length h.cc) ∧
      wy.cell? ⟨bn, on + i * 2, none⟩ = some (.string x.name) ∧ wy.cell? ⟨bn, on + i * 2 + 1, none⟩ = some (.int .i64 x.as_))) := Lib.hid (fun wy a => by
    obtain ⟨q0, q1, q2, q3, q4, q5, q6⟩ := a.all
    obtain ⟨r0, r1, r2⟩ := a.at_
    rw [en] at q3
    exact ⟨r0, r1, r2, q0, q1, q2, q3, q4, q5, q6, (a.below.cell (p := ⟨bn, on + i * 2, none⟩) hbn).trans ec0, (a.below.cell (p := ⟨bn, on + i * 2 + 1, none⟩) hbn).trans ec1⟩)
  have HE := Lib.hid en
  have hi0 : (0 : Int) ≤ (i : Int) := by omega
  have hi1 : (i : Int) < (p.nodes.length : Int) := by omega
  unfold netV netVal rtV
  clear hp hr hx en ec0 ec1
  cases hR : rtRightB r with
  | false =>
    have HN := Lib.hid (show holdsB p i r = false from by unfold holdsB; rw [hR]; rfl)
    have CR := Lib.hid (fun (wy : World) (hb : PR w wy p h r A c) => (show Calls Tryz.prog 116 #[.agg #[.int .i64 r.kind, .int .i64 r.cost, .slice A r.path.length c]] wy fun e w' => e = .returned (.bool false) ∧ PR w w' p h r A c from
      (right_rt r A c wy hb.rt).mono fun e w' ⟨h1, h2⟩ => ⟨by rw [h1, hR], hb.call h2⟩))
    clear hR
    go_enter Tryz.func94, Tryz.ntmps94
    go_wp2_with fail
    have hp0 := PX.out.call (below_drew (Below.refl _ _))
    refine wp_region_held_drew (S := (fun wy => wy.cell? ⟨w.heap.size + 1, 0, none⟩ = some (.int .i64 r.kind) ∧ wy.cell? ⟨w.heap.size + 1, 1, none⟩ = some (.int .i64 r.cost) ∧ wy.cell? ⟨w.heap.size + 1, 2, none⟩ = some (.slice A r.path.length c) ∧ wy.cell? ⟨w.heap.size, 0, none⟩ = some (.int .i64 p.proto) ∧ wy.cell? ⟨w.heap.size, 1, none⟩ = some (.int .i64 p.cap) ∧ wy.cell? ⟨w.heap.size, 2, none⟩ = some (.int .i64 p.k) ∧ wy.cell? ⟨w.heap.size, 3, none⟩ = some (.slice (some ⟨bn, on, none⟩) p.nodes.length h.cn) ∧ wy.cell? ⟨w.heap.size, 4, none⟩ = some (.slice h.al p.links.length h.cl) ∧ wy.cell? ⟨w.heap.size, 5, none⟩ = some (.slice h.ad p.dests.length h.cd) ∧ wy.cell? ⟨w.heap.size, 6, none⟩ = some (.slice h.ac p.checks.length h.cc) ∧ wy.cell? ⟨bn, on + i * 2, none⟩ = some (.string x.name) ∧ wy.cell? ⟨bn, on + i * 2 + 1, none⟩ = some (.int .i64 x.as_))) (by kernel_rfl) (HC.out _ hp0) (fun hHeld0 => ?_)
    refine take_list (i := 0) (v := ?_) rfl (by kernel_rfl) (by kernel_rfl) (by kernel_rfl) (fun _ _ _ h => h) (Or.inl ⟨by rfl, ?_⟩) (by assumption) ?_
    rotate_left
    · (intro w hSw; (try dsimp only at hSw); go_simp; try (with_reducible rfl))
    try simp only [Act.put, List.setIfInBounds_toArray, List.set_cons_zero, List.set_cons_succ]
    refine wpAnyH_ready (rs := [1]) (by kernel_rfl) (by simp) ?_
    refine cons_list rfl (fun K hK => ?_) AllReadyH.nil
    go_simp
    (go_at_call 116; refine (CR.out _ hp0).mono ?_; rintro e wn ⟨rfl, hpn⟩)
    refine hK.out _ _ (HC.out _ (by assumption)) (fun hHeld1 => ?_)
    clear hK K hHeld0
    try simp only [Act.put, List.setIfInBounds_toArray, List.set_cons_zero, List.set_cons_succ]
    refine take_list (i := 2) (v := ?_) rfl (by kernel_rfl) (by kernel_rfl) (by kernel_rfl) (fun _ _ _ h => h) (Or.inl ⟨by rfl, ?_⟩) (by assumption) ?_
    rotate_left
    · (intro w hSw; (try dsimp only at hSw); go_simp; try (with_reducible rfl))
    try simp only [Act.put, List.setIfInBounds_toArray, List.set_cons_zero, List.set_cons_succ]
    refine take_list (i := 3) (v := undef) rfl (by kernel_rfl) (by kernel_rfl) (by kernel_rfl) (fun _ _ _ h => h) (Or.inr ⟨by rfl, rfl⟩) (by assumption) ?_
    try simp only [Act.put, List.setIfInBounds_toArray, List.set_cons_zero, List.set_cons_succ]
    refine take_list (i := 4) (v := undef) rfl (by kernel_rfl) (by kernel_rfl) (by kernel_rfl) (fun _ _ _ h => h) (Or.inr ⟨by rfl, rfl⟩) (by assumption) ?_
    try simp only [Act.put, List.setIfInBounds_toArray, List.set_cons_zero, List.set_cons_succ]
    refine take_list (i := 5) (v := undef) rfl (by kernel_rfl) (by kernel_rfl) (by kernel_rfl) (fun _ _ _ h => h) (Or.inr ⟨by rfl, rfl⟩) (by assumption) ?_
    try simp only [Act.put, List.setIfInBounds_toArray, List.set_cons_zero, List.set_cons_succ]
    refine take_list (i := 6) (v := undef) rfl (by kernel_rfl) (by kernel_rfl) (by kernel_rfl) (fun _ _ _ h => h) (Or.inr ⟨by rfl, rfl⟩) (by assumption) ?_
    try simp only [Act.put, List.setIfInBounds_toArray, List.set_cons_zero, List.set_cons_succ]
    refine take_list (i := 7) (v := undef) rfl (by kernel_rfl) (by kernel_rfl) (by kernel_rfl) (fun _ _ _ h => h) (Or.inr ⟨by rfl, rfl⟩) (by assumption) ?_
    try simp only [Act.put, List.setIfInBounds_toArray, List.set_cons_zero, List.set_cons_succ]
    refine take_list (i := 8) (v := undef) rfl (by kernel_rfl) (by kernel_rfl) (by kernel_rfl) (fun _ _ _ h => h) (Or.inr ⟨by rfl, rfl⟩) (by assumption) ?_
    try simp only [Act.put, List.setIfInBounds_toArray, List.set_cons_zero, List.set_cons_succ]
    refine take_list (i := 9) (v := undef) rfl (by kernel_rfl) (by kernel_rfl) (by kernel_rfl) (fun _ _ _ h => h) (Or.inr ⟨by rfl, rfl⟩) (by assumption) ?_
    try simp only [Act.put, List.setIfInBounds_toArray, List.set_cons_zero, List.set_cons_succ]
    refine take_list (i := 10) (v := undef) rfl (by kernel_rfl) (by kernel_rfl) (by kernel_rfl) (fun _ _ _ h => h) (Or.inr ⟨by rfl, rfl⟩) (by assumption) ?_
    try simp only [Act.put, List.setIfInBounds_toArray, List.set_cons_zero, List.set_cons_succ]
    refine take_list (i := 11) (v := undef) rfl (by kernel_rfl) (by kernel_rfl) (by kernel_rfl) (fun _ _ _ h => h) (Or.inr ⟨by rfl, rfl⟩) (by assumption) ?_
    try simp only [Act.put, List.setIfInBounds_toArray, List.set_cons_zero, List.set_cons_succ]
    refine take_list (i := 12) (v := undef) rfl (by kernel_rfl) (by kernel_rfl) (by kernel_rfl) (fun _ _ _ h => h) (Or.inr ⟨by rfl, rfl⟩) (by assumption) ?_
    try simp only [Act.put, List.setIfInBounds_toArray, List.set_cons_zero, List.set_cons_succ]
    refine take_list (i := 13) (v := undef) rfl (by kernel_rfl) (by kernel_rfl) (by kernel_rfl) (fun _ _ _ h => h) (Or.inr ⟨by rfl, rfl⟩) (by assumption) ?_
    try simp only [Act.put, List.setIfInBounds_toArray, List.set_cons_zero, List.set_cons_succ]
    refine take_list (i := 14) (v := undef) rfl (by kernel_rfl) (by kernel_rfl) (by kernel_rfl) (fun _ _ _ h => h) (Or.inr ⟨by rfl, rfl⟩) (by assumption) ?_
    try simp only [Act.put, List.setIfInBounds_toArray, List.set_cons_zero, List.set_cons_succ]
    refine take_list (i := 15) (v := undef) rfl (by kernel_rfl) (by kernel_rfl) (by kernel_rfl) (fun _ _ _ h => h) (Or.inr ⟨by rfl, rfl⟩) (by assumption) ?_
    try simp only [Act.put, List.setIfInBounds_toArray, List.set_cons_zero, List.set_cons_succ]
    refine take_list (i := 16) (v := undef) rfl (by kernel_rfl) (by kernel_rfl) (by kernel_rfl) (fun _ _ _ h => h) (Or.inr ⟨by rfl, rfl⟩) (by assumption) ?_
    try simp only [Act.put, List.setIfInBounds_toArray, List.set_cons_zero, List.set_cons_succ]
    refine take_list (i := 17) (v := undef) rfl (by kernel_rfl) (by kernel_rfl) (by kernel_rfl) (fun _ _ _ h => h) (Or.inr ⟨by rfl, rfl⟩) (by assumption) ?_
    try simp only [Act.put, List.setIfInBounds_toArray, List.set_cons_zero, List.set_cons_succ]
    refine take_list (i := 18) (v := undef) rfl (by kernel_rfl) (by kernel_rfl) (by kernel_rfl) (fun _ _ _ h => h) (Or.inr ⟨by rfl, rfl⟩) (by assumption) ?_
    try simp only [Act.put, List.setIfInBounds_toArray, List.set_cons_zero, List.set_cons_succ]
    refine take_list (i := 19) (v := undef) rfl (by kernel_rfl) (by kernel_rfl) (by kernel_rfl) (fun _ _ _ h => h) (Or.inr ⟨by rfl, rfl⟩) (by assumption) ?_
    try simp only [Act.put, List.setIfInBounds_toArray, List.set_cons_zero, List.set_cons_succ]
    refine take_list (i := 20) (v := ?_) rfl (by kernel_rfl) (by kernel_rfl) (by kernel_rfl) (fun _ _ _ h => h) (Or.inl ⟨by rfl, ?_⟩) (by assumption) ?_
    rotate_left
    · (intro w hSw; (try dsimp only at hSw); go_simp; try (with_reducible rfl))
    try simp only [Act.put, List.setIfInBounds_toArray, List.set_cons_zero, List.set_cons_succ]
    refine take_list (i := 21) (v := ?_) rfl (by kernel_rfl) (by kernel_rfl) (by kernel_rfl) (fun _ _ _ h => h) (Or.inl ⟨by rfl, ?_⟩) (by assumption) ?_
    rotate_left
    · (intro w hSw; (try dsimp only at hSw); go_simp; try (with_reducible rfl))
    try simp only [Act.put, List.setIfInBounds_toArray, List.set_cons_zero, List.set_cons_succ]
    refine wpAnyH_done (by kernel_rfl) ?_ _
    clear hHeld1
    go_wp2
    go_ret
    exact ⟨ret_bool (by rw [HN.out]), hpn.below⟩
  | true =>
    have CR := Lib.hid (fun (wy : World) (hb : PR w wy p h r A c) => (show Calls Tryz.prog 116 #[.agg #[.int .i64 r.kind, .int .i64 r.cost, .slice A r.path.length c]] wy fun e w' => e = .returned (.bool true) ∧ PR w w' p h r A c from
      (right_rt r A c wy hb.rt).mono fun e w' ⟨h1, h2⟩ => ⟨by rw [h1, hR], hb.call h2⟩))
    by_cases hk : r.kind = 0
    · have HN := Lib.hid (show holdsB p i r = true from by unfold holdsB; rw [hR]; simp [hk])
      have hq : (r.kind == 0) = true := by simp [hk]
      clear hR hk
      go_enter Tryz.func94, Tryz.ntmps94
      go_wp2_with fail
      have hp0 := PX.out.call (below_drew (Below.refl _ _))
      refine wp_region_held_drew (S := (fun wy => wy.cell? ⟨w.heap.size + 1, 0, none⟩ = some (.int .i64 r.kind) ∧ wy.cell? ⟨w.heap.size + 1, 1, none⟩ = some (.int .i64 r.cost) ∧ wy.cell? ⟨w.heap.size + 1, 2, none⟩ = some (.slice A r.path.length c) ∧ wy.cell? ⟨w.heap.size, 0, none⟩ = some (.int .i64 p.proto) ∧ wy.cell? ⟨w.heap.size, 1, none⟩ = some (.int .i64 p.cap) ∧ wy.cell? ⟨w.heap.size, 2, none⟩ = some (.int .i64 p.k) ∧ wy.cell? ⟨w.heap.size, 3, none⟩ = some (.slice (some ⟨bn, on, none⟩) p.nodes.length h.cn) ∧ wy.cell? ⟨w.heap.size, 4, none⟩ = some (.slice h.al p.links.length h.cl) ∧ wy.cell? ⟨w.heap.size, 5, none⟩ = some (.slice h.ad p.dests.length h.cd) ∧ wy.cell? ⟨w.heap.size, 6, none⟩ = some (.slice h.ac p.checks.length h.cc) ∧ wy.cell? ⟨bn, on + i * 2, none⟩ = some (.string x.name) ∧ wy.cell? ⟨bn, on + i * 2 + 1, none⟩ = some (.int .i64 x.as_))) (by kernel_rfl) (HC.out _ hp0) (fun hHeld0 => ?_)
      refine take_list (i := 0) (v := ?_) rfl (by kernel_rfl) (by kernel_rfl) (by kernel_rfl) (fun _ _ _ h => h) (Or.inl ⟨by rfl, ?_⟩) (by assumption) ?_
      rotate_left
      · (intro w hSw; (try dsimp only at hSw); go_simp; try (with_reducible rfl))
      try simp only [Act.put, List.setIfInBounds_toArray, List.set_cons_zero, List.set_cons_succ]
      refine wpAnyH_ready (rs := [1]) (by kernel_rfl) (by simp) ?_
      refine cons_list rfl (fun K hK => ?_) AllReadyH.nil
      go_simp
      (go_at_call 116; refine (CR.out _ hp0).mono ?_; rintro e wn ⟨rfl, hpn⟩)
      refine hK.out _ _ (HC.out _ (by assumption)) (fun hHeld1 => ?_)
      clear hK K hHeld0
      try simp only [Act.put, List.setIfInBounds_toArray, List.set_cons_zero, List.set_cons_succ]
      refine take_list (i := 2) (v := ?_) rfl (by kernel_rfl) (by kernel_rfl) (by kernel_rfl) (fun _ _ _ h => h) (Or.inl ⟨by rfl, ?_⟩) (by assumption) ?_
      rotate_left
      · (intro w hSw; (try dsimp only at hSw); go_simp; try (with_reducible rfl))
      try simp only [Act.put, List.setIfInBounds_toArray, List.set_cons_zero, List.set_cons_succ]
      refine take_list (i := 3) (v := ?_) rfl (by kernel_rfl) (by kernel_rfl) (by kernel_rfl) (fun _ _ _ h => h) (Or.inl ⟨by rfl, ?_⟩) (by assumption) ?_
      rotate_left
      · (intro w hSw; (try dsimp only at hSw); go_simp; try (with_reducible rfl))
      try simp only [Act.put, List.setIfInBounds_toArray, List.set_cons_zero, List.set_cons_succ]
      refine take_list (i := 4) (v := ?_) rfl (by kernel_rfl) (by kernel_rfl) (by kernel_rfl) (fun _ _ _ h => h) (Or.inl ⟨by rfl, ?_⟩) (by assumption) ?_
      rotate_left
      · (intro w hSw; (try dsimp only at hSw); go_simp; try (with_reducible rfl))
      try simp only [Act.put, List.setIfInBounds_toArray, List.set_cons_zero, List.set_cons_succ]
      refine take_list (i := 5) (v := ?_) rfl (by kernel_rfl) (by kernel_rfl) (by kernel_rfl) (fun _ _ _ h => h) (Or.inl ⟨by rfl, ?_⟩) (by assumption) ?_
      rotate_left
      · (intro w hSw; (try dsimp only at hSw); go_simp; try (with_reducible rfl))
      try simp only [Act.put, List.setIfInBounds_toArray, List.set_cons_zero, List.set_cons_succ]
      refine take_list (i := 6) (v := ?_) rfl (by kernel_rfl) (by kernel_rfl) (by kernel_rfl) (fun _ _ _ h => h) (Or.inl ⟨by rfl, ?_⟩) (by assumption) ?_
      rotate_left
      · (intro w hSw; (try dsimp only at hSw); go_simp; try (with_reducible rfl))
      try simp only [Act.put, List.setIfInBounds_toArray, List.set_cons_zero, List.set_cons_succ]
      refine take_list (i := 7) (v := undef) rfl (by kernel_rfl) (by kernel_rfl) (by kernel_rfl) (fun _ _ _ h => h) (Or.inr ⟨by rfl, rfl⟩) (by assumption) ?_
      try simp only [Act.put, List.setIfInBounds_toArray, List.set_cons_zero, List.set_cons_succ]
      refine take_list (i := 8) (v := undef) rfl (by kernel_rfl) (by kernel_rfl) (by kernel_rfl) (fun _ _ _ h => h) (Or.inr ⟨by rfl, rfl⟩) (by assumption) ?_
      try simp only [Act.put, List.setIfInBounds_toArray, List.set_cons_zero, List.set_cons_succ]
      refine take_list (i := 9) (v := undef) rfl (by kernel_rfl) (by kernel_rfl) (by kernel_rfl) (fun _ _ _ h => h) (Or.inr ⟨by rfl, rfl⟩) (by assumption) ?_
      try simp only [Act.put, List.setIfInBounds_toArray, List.set_cons_zero, List.set_cons_succ]
      refine take_list (i := 10) (v := undef) rfl (by kernel_rfl) (by kernel_rfl) (by kernel_rfl) (fun _ _ _ h => h) (Or.inr ⟨by rfl, rfl⟩) (by assumption) ?_
      try simp only [Act.put, List.setIfInBounds_toArray, List.set_cons_zero, List.set_cons_succ]
      refine take_list (i := 11) (v := undef) rfl (by kernel_rfl) (by kernel_rfl) (by kernel_rfl) (fun _ _ _ h => h) (Or.inr ⟨by rfl, rfl⟩) (by assumption) ?_
      try simp only [Act.put, List.setIfInBounds_toArray, List.set_cons_zero, List.set_cons_succ]
      refine take_list (i := 12) (v := undef) rfl (by kernel_rfl) (by kernel_rfl) (by kernel_rfl) (fun _ _ _ h => h) (Or.inr ⟨by rfl, rfl⟩) (by assumption) ?_
      try simp only [Act.put, List.setIfInBounds_toArray, List.set_cons_zero, List.set_cons_succ]
      refine take_list (i := 13) (v := undef) rfl (by kernel_rfl) (by kernel_rfl) (by kernel_rfl) (fun _ _ _ h => h) (Or.inr ⟨by rfl, rfl⟩) (by assumption) ?_
      try simp only [Act.put, List.setIfInBounds_toArray, List.set_cons_zero, List.set_cons_succ]
      refine take_list (i := 14) (v := undef) rfl (by kernel_rfl) (by kernel_rfl) (by kernel_rfl) (fun _ _ _ h => h) (Or.inr ⟨by rfl, rfl⟩) (by assumption) ?_
      try simp only [Act.put, List.setIfInBounds_toArray, List.set_cons_zero, List.set_cons_succ]
      refine take_list (i := 15) (v := undef) rfl (by kernel_rfl) (by kernel_rfl) (by kernel_rfl) (fun _ _ _ h => h) (Or.inr ⟨by rfl, rfl⟩) (by assumption) ?_
      try simp only [Act.put, List.setIfInBounds_toArray, List.set_cons_zero, List.set_cons_succ]
      refine take_list (i := 16) (v := undef) rfl (by kernel_rfl) (by kernel_rfl) (by kernel_rfl) (fun _ _ _ h => h) (Or.inr ⟨by rfl, rfl⟩) (by assumption) ?_
      try simp only [Act.put, List.setIfInBounds_toArray, List.set_cons_zero, List.set_cons_succ]
      refine take_list (i := 17) (v := undef) rfl (by kernel_rfl) (by kernel_rfl) (by kernel_rfl) (fun _ _ _ h => h) (Or.inr ⟨by rfl, rfl⟩) (by assumption) ?_
      try simp only [Act.put, List.setIfInBounds_toArray, List.set_cons_zero, List.set_cons_succ]
      refine take_list (i := 18) (v := undef) rfl (by kernel_rfl) (by kernel_rfl) (by kernel_rfl) (fun _ _ _ h => h) (Or.inr ⟨by rfl, rfl⟩) (by assumption) ?_
      try simp only [Act.put, List.setIfInBounds_toArray, List.set_cons_zero, List.set_cons_succ]
      refine take_list (i := 19) (v := ?_) rfl (by kernel_rfl) (by kernel_rfl) (by kernel_rfl) (fun _ _ _ h => h) (Or.inl ⟨by rfl, ?_⟩) (by assumption) ?_
      rotate_left
      · (intro w hSw; (try dsimp only at hSw); go_simp; try (with_reducible rfl))
      try simp only [Act.put, List.setIfInBounds_toArray, List.set_cons_zero, List.set_cons_succ]
      refine take_list (i := 20) (v := ?_) rfl (by kernel_rfl) (by kernel_rfl) (by kernel_rfl) (fun _ _ _ h => h) (Or.inl ⟨by rfl, ?_⟩) (by assumption) ?_
      rotate_left
      · (intro w hSw; (try dsimp only at hSw); go_simp; try (with_reducible rfl))
      try simp only [Act.put, List.setIfInBounds_toArray, List.set_cons_zero, List.set_cons_succ]
      refine take_list (i := 21) (v := ?_) rfl (by kernel_rfl) (by kernel_rfl) (by kernel_rfl) (fun _ _ _ h => h) (Or.inl ⟨by rfl, ?_⟩) (by assumption) ?_
      rotate_left
      · (intro w hSw; (try dsimp only at hSw); go_simp; try (with_reducible rfl))
      try simp only [Act.put, List.setIfInBounds_toArray, List.set_cons_zero, List.set_cons_succ]
      refine wpAnyH_done (by kernel_rfl) ?_ _
      clear hHeld1
      go_wp2
      go_ret
      exact ⟨ret_bool (by rw [HN.out]), hpn.below⟩
    · have hq : (r.kind == 0) = false := by simp [hk]
      have hl12 : r.path.length ≤ 1000 := by have := (rt_ok hR).short; omega
      have CO := Lib.hid (fun (wy : World) (hb : PR w wy p h r A c) => (show Calls Tryz.prog 71 #[.agg #[.int .i64 p.proto, .int .i64 p.cap, .int .i64 p.k, .slice (some ⟨bn, on, none⟩) p.nodes.length h.cn, .slice h.al p.links.length h.cl, .slice h.ad p.dests.length h.cd, .slice h.ac p.checks.length h.cc]] wy fun e w' => e = .returned (protoV p) ∧ PR w w' p h r A c from by
        have h1 := of_any p h wy
        unfold netV netVal at h1
        rw [HE.out] at h1
        exact h1.mono fun e w' ⟨h1, h2⟩ => ⟨h1, hb.call h2⟩))
      by_cases h2 : p.proto = 2
      · have HN := Lib.hid (show holdsB p i r = (decide (r.kind = 2) && (decide ((r.path.length : Int) ≤ p.cap) && !decide (x.as_ ∈ r.path))) from by unfold holdsB fitsB; rw [hR, HA.out, if_pos h2]; simp [hk])
        have CF := Lib.hid (fun (wy : World) (hb : PR w wy p h r A c) => (show Calls Tryz.prog 167 #[.agg #[.int .i64 p.cap], .agg #[.string x.name, .int .i64 x.as_], .agg #[.int .i64 r.kind, .int .i64 r.cost, .slice A r.path.length c]] wy fun e w' => e = .returned (.bool (decide (r.kind = 2) && (decide ((r.path.length : Int) ≤ p.cap) && !decide (x.as_ ∈ r.path)))) ∧ PR w w' p h r A c from
          (pfits_any p.cap x r A c wy hb.rt hl12).mono fun e w' ⟨h1, h2⟩ => ⟨h1, hb.call h2⟩))
        rw [show protoV p = .iface 117 (.agg #[.int .i64 p.cap]) from by unfold protoV; rw [if_pos h2]] at CO
        generalize (decide (r.kind = 2) && (decide ((r.path.length : Int) ≤ p.cap) && !decide (x.as_ ∈ r.path))) = b at *
        clear hR hk h2
        go_enter Tryz.func94, Tryz.ntmps94
        go_wp2_with fail
        have hp0 := PX.out.call (below_drew (Below.refl _ _))
        refine wp_region_held_drew (S := (fun wy => wy.cell? ⟨w.heap.size + 1, 0, none⟩ = some (.int .i64 r.kind) ∧ wy.cell? ⟨w.heap.size + 1, 1, none⟩ = some (.int .i64 r.cost) ∧ wy.cell? ⟨w.heap.size + 1, 2, none⟩ = some (.slice A r.path.length c) ∧ wy.cell? ⟨w.heap.size, 0, none⟩ = some (.int .i64 p.proto) ∧ wy.cell? ⟨w.heap.size, 1, none⟩ = some (.int .i64 p.cap) ∧ wy.cell? ⟨w.heap.size, 2, none⟩ = some (.int .i64 p.k) ∧ wy.cell? ⟨w.heap.size, 3, none⟩ = some (.slice (some ⟨bn, on, none⟩) p.nodes.length h.cn) ∧ wy.cell? ⟨w.heap.size, 4, none⟩ = some (.slice h.al p.links.length h.cl) ∧ wy.cell? ⟨w.heap.size, 5, none⟩ = some (.slice h.ad p.dests.length h.cd) ∧ wy.cell? ⟨w.heap.size, 6, none⟩ = some (.slice h.ac p.checks.length h.cc) ∧ wy.cell? ⟨bn, on + i * 2, none⟩ = some (.string x.name) ∧ wy.cell? ⟨bn, on + i * 2 + 1, none⟩ = some (.int .i64 x.as_))) (by kernel_rfl) (HC.out _ hp0) (fun hHeld0 => ?_)
        refine take_list (i := 0) (v := ?_) rfl (by kernel_rfl) (by kernel_rfl) (by kernel_rfl) (fun _ _ _ h => h) (Or.inl ⟨by rfl, ?_⟩) (by assumption) ?_
        rotate_left
        · (intro w hSw; (try dsimp only at hSw); go_simp; try (with_reducible rfl))
        try simp only [Act.put, List.setIfInBounds_toArray, List.set_cons_zero, List.set_cons_succ]
        refine wpAnyH_ready (rs := [1]) (by kernel_rfl) (by simp) ?_
        refine cons_list rfl (fun K hK => ?_) AllReadyH.nil
        go_simp
        (go_at_call 116; refine (CR.out _ hp0).mono ?_; rintro e wn ⟨rfl, hpn⟩)
        refine hK.out _ _ (HC.out _ (by assumption)) (fun hHeld1 => ?_)
        clear hK K hHeld0
        try simp only [Act.put, List.setIfInBounds_toArray, List.set_cons_zero, List.set_cons_succ]
        refine take_list (i := 2) (v := ?_) rfl (by kernel_rfl) (by kernel_rfl) (by kernel_rfl) (fun _ _ _ h => h) (Or.inl ⟨by rfl, ?_⟩) (by assumption) ?_
        rotate_left
        · (intro w hSw; (try dsimp only at hSw); go_simp; try (with_reducible rfl))
        try simp only [Act.put, List.setIfInBounds_toArray, List.set_cons_zero, List.set_cons_succ]
        refine take_list (i := 3) (v := ?_) rfl (by kernel_rfl) (by kernel_rfl) (by kernel_rfl) (fun _ _ _ h => h) (Or.inl ⟨by rfl, ?_⟩) (by assumption) ?_
        rotate_left
        · (intro w hSw; (try dsimp only at hSw); go_simp; try (with_reducible rfl))
        try simp only [Act.put, List.setIfInBounds_toArray, List.set_cons_zero, List.set_cons_succ]
        refine take_list (i := 4) (v := ?_) rfl (by kernel_rfl) (by kernel_rfl) (by kernel_rfl) (fun _ _ _ h => h) (Or.inl ⟨by rfl, ?_⟩) (by assumption) ?_
        rotate_left
        · (intro w hSw; (try dsimp only at hSw); go_simp; try (with_reducible rfl))
        try simp only [Act.put, List.setIfInBounds_toArray, List.set_cons_zero, List.set_cons_succ]
        refine take_list (i := 5) (v := ?_) rfl (by kernel_rfl) (by kernel_rfl) (by kernel_rfl) (fun _ _ _ h => h) (Or.inl ⟨by rfl, ?_⟩) (by assumption) ?_
        rotate_left
        · (intro w hSw; (try dsimp only at hSw); go_simp; try (with_reducible rfl))
        try simp only [Act.put, List.setIfInBounds_toArray, List.set_cons_zero, List.set_cons_succ]
        refine take_list (i := 6) (v := ?_) rfl (by kernel_rfl) (by kernel_rfl) (by kernel_rfl) (fun _ _ _ h => h) (Or.inl ⟨by rfl, ?_⟩) (by assumption) ?_
        rotate_left
        · (intro w hSw; (try dsimp only at hSw); go_simp; try (with_reducible rfl))
        try simp only [Act.put, List.setIfInBounds_toArray, List.set_cons_zero, List.set_cons_succ]
        refine take_list (i := 7) (v := ?_) rfl (by kernel_rfl) (by kernel_rfl) (by kernel_rfl) (fun _ _ _ h => h) (Or.inl ⟨by rfl, ?_⟩) (by assumption) ?_
        rotate_left
        · (intro w hSw; (try dsimp only at hSw); go_simp; try (with_reducible rfl))
        try simp only [Act.put, List.setIfInBounds_toArray, List.set_cons_zero, List.set_cons_succ]
        refine take_list (i := 9) (v := ?_) rfl (by kernel_rfl) (by kernel_rfl) (by kernel_rfl) (fun _ _ _ h => h) (Or.inl ⟨by rfl, ?_⟩) (by assumption) ?_
        rotate_left
        · (intro w hSw; (try dsimp only at hSw); go_simp; try (with_reducible rfl))
        try simp only [Act.put, List.setIfInBounds_toArray, List.set_cons_zero, List.set_cons_succ]
        refine take_list (i := 10) (v := ?_) rfl (by kernel_rfl) (by kernel_rfl) (by kernel_rfl) (fun _ _ _ h => h) (Or.inl ⟨by rfl, ?_⟩) (by assumption) ?_
        rotate_left
        · (intro w hSw; (try dsimp only at hSw); go_simp; try (with_reducible rfl))
        try simp only [Act.put, List.setIfInBounds_toArray, List.set_cons_zero, List.set_cons_succ]
        refine take_list (i := 11) (v := ?_) rfl (by kernel_rfl) (by kernel_rfl) (by kernel_rfl) (fun _ _ _ h => h) (Or.inl ⟨by rfl, ?_⟩) (by assumption) ?_
        rotate_left
        · (intro w hSw; (try dsimp only at hSw); go_simp; try (with_reducible rfl))
        try simp only [Act.put, List.setIfInBounds_toArray, List.set_cons_zero, List.set_cons_succ]
        refine take_list (i := 12) (v := ?_) rfl (by kernel_rfl) (by kernel_rfl) (by kernel_rfl) (fun _ _ _ h => h) (Or.inl ⟨by rfl, ?_⟩) (by assumption) ?_
        rotate_left
        · (intro w hSw; (try dsimp only at hSw); go_simp; try (with_reducible rfl))
        try simp only [Act.put, List.setIfInBounds_toArray, List.set_cons_zero, List.set_cons_succ]
        refine take_list (i := 13) (v := ?_) rfl (by kernel_rfl) (by kernel_rfl) (by kernel_rfl) (fun _ _ _ h => h) (Or.inl ⟨by rfl, ?_⟩) (by assumption) ?_
        rotate_left
        · (intro w hSw; (try dsimp only at hSw); go_simp; try (with_reducible rfl))
        try simp only [Act.put, List.setIfInBounds_toArray, List.set_cons_zero, List.set_cons_succ]
        refine take_list (i := 14) (v := ?_) rfl (by kernel_rfl) (by kernel_rfl) (by kernel_rfl) (fun _ _ _ h => h) (Or.inl ⟨by rfl, ?_⟩) (by assumption) ?_
        rotate_left
        · (intro w hSw; (try dsimp only at hSw); go_simp; try (with_reducible rfl))
        try simp only [Act.put, List.setIfInBounds_toArray, List.set_cons_zero, List.set_cons_succ]
        refine wpAnyH_ready (rs := [8]) (by kernel_rfl) (by simp) ?_
        refine cons_list rfl (fun K hK => ?_) AllReadyH.nil
        go_simp
        (go_at_call 71; refine (CO.out _ (by assumption)).mono ?_; rintro e wm ⟨rfl, hpm⟩)
        refine hK.out _ _ (HC.out _ (by assumption)) (fun hHeld2 => ?_)
        clear hK K hHeld1
        try simp only [Act.put, List.setIfInBounds_toArray, List.set_cons_zero, List.set_cons_succ]
        refine wpAnyH_ready (rs := [15]) (by kernel_rfl) (by simp) ?_
        refine cons_list rfl (fun K hK => ?_) AllReadyH.nil
        go_simp
        refine hK.out _ _ (HC.out _ (by assumption)) (fun hHeld3 => ?_)
        clear hK K hHeld2
        try simp only [Act.put, List.setIfInBounds_toArray, List.set_cons_zero, List.set_cons_succ]
        refine wpAnyH_ready (rs := [16]) (by kernel_rfl) (by simp) ?_
        refine cons_list rfl (fun K hK => ?_) AllReadyH.nil
        go_simp
        refine hK.out _ _ (HC.out _ (by assumption)) (fun hHeld4 => ?_)
        clear hK K hHeld3
        try simp only [Act.put, List.setIfInBounds_toArray, List.set_cons_zero, List.set_cons_succ]
        refine take_list (i := 17) (v := ?_) rfl (by kernel_rfl) (by kernel_rfl) (by kernel_rfl) (fun _ _ _ h => h) (Or.inl ⟨by rfl, ?_⟩) (by assumption) ?_
        rotate_left
        · (intro w hSw; (try dsimp only at hSw); go_simp; try (with_reducible rfl))
        try simp only [Act.put, List.setIfInBounds_toArray, List.set_cons_zero, List.set_cons_succ]
        refine wpAnyH_ready (rs := [18]) (by kernel_rfl) (by simp) ?_
        refine cons_list rfl (fun K hK => ?_) AllReadyH.nil
        go_simp
        (go_invoke; go_upon; go_at_call 167; refine (CF.out _ (by assumption)).mono ?_; rintro e wq ⟨rfl, hpq⟩)
        refine hK.out _ _ (HC.out _ (by assumption)) (fun hHeld5 => ?_)
        clear hK K hHeld4
        try simp only [Act.put, List.setIfInBounds_toArray, List.set_cons_zero, List.set_cons_succ]
        refine take_list (i := 19) (v := ?_) rfl (by kernel_rfl) (by kernel_rfl) (by kernel_rfl) (fun _ _ _ h => h) (Or.inl ⟨by rfl, ?_⟩) (by assumption) ?_
        rotate_left
        · (intro w hSw; (try dsimp only at hSw); go_simp; try (with_reducible rfl))
        try simp only [Act.put, List.setIfInBounds_toArray, List.set_cons_zero, List.set_cons_succ]
        refine take_list (i := 20) (v := ?_) rfl (by kernel_rfl) (by kernel_rfl) (by kernel_rfl) (fun _ _ _ h => h) (Or.inl ⟨by rfl, ?_⟩) (by assumption) ?_
        rotate_left
        · (intro w hSw; (try dsimp only at hSw); go_simp; try (with_reducible rfl))
        try simp only [Act.put, List.setIfInBounds_toArray, List.set_cons_zero, List.set_cons_succ]
        refine take_list (i := 21) (v := ?_) rfl (by kernel_rfl) (by kernel_rfl) (by kernel_rfl) (fun _ _ _ h => h) (Or.inl ⟨by rfl, ?_⟩) (by assumption) ?_
        rotate_left
        · (intro w hSw; (try dsimp only at hSw); go_simp; try (with_reducible rfl))
        try simp only [Act.put, List.setIfInBounds_toArray, List.set_cons_zero, List.set_cons_succ]
        refine wpAnyH_done (by kernel_rfl) ?_ _
        clear hHeld5
        go_wp2
        go_ret
        exact ⟨ret_bool (by rw [HN.out]), hpq.below⟩
      · have HN := Lib.hid (show holdsB p i r = decide (r.kind = 1) from by unfold holdsB fitsB; rw [hR, HA.out, if_neg h2]; simp [hk])
        have CF := Lib.hid (fun (wy : World) (hb : PR w wy p h r A c) => (show Calls Tryz.prog 172 #[.agg #[], .agg #[.string x.name, .int .i64 x.as_], .agg #[.int .i64 r.kind, .int .i64 r.cost, .slice A r.path.length c]] wy fun e w' => e = .returned (.bool (decide (r.kind = 1))) ∧ PR w w' p h r A c from
          (vfits_any x r A c wy).mono fun e w' ⟨h1, h2⟩ => ⟨h1, hb.call h2⟩))
        rw [show protoV p = .iface 118 (.agg #[]) from by unfold protoV; rw [if_neg h2]] at CO
        generalize decide (r.kind = 1) = b at *
        clear hR hk h2
        go_enter Tryz.func94, Tryz.ntmps94
        go_wp2_with fail
        have hp0 := PX.out.call (below_drew (Below.refl _ _))
        refine wp_region_held_drew (S := (fun wy => wy.cell? ⟨w.heap.size + 1, 0, none⟩ = some (.int .i64 r.kind) ∧ wy.cell? ⟨w.heap.size + 1, 1, none⟩ = some (.int .i64 r.cost) ∧ wy.cell? ⟨w.heap.size + 1, 2, none⟩ = some (.slice A r.path.length c) ∧ wy.cell? ⟨w.heap.size, 0, none⟩ = some (.int .i64 p.proto) ∧ wy.cell? ⟨w.heap.size, 1, none⟩ = some (.int .i64 p.cap) ∧ wy.cell? ⟨w.heap.size, 2, none⟩ = some (.int .i64 p.k) ∧ wy.cell? ⟨w.heap.size, 3, none⟩ = some (.slice (some ⟨bn, on, none⟩) p.nodes.length h.cn) ∧ wy.cell? ⟨w.heap.size, 4, none⟩ = some (.slice h.al p.links.length h.cl) ∧ wy.cell? ⟨w.heap.size, 5, none⟩ = some (.slice h.ad p.dests.length h.cd) ∧ wy.cell? ⟨w.heap.size, 6, none⟩ = some (.slice h.ac p.checks.length h.cc) ∧ wy.cell? ⟨bn, on + i * 2, none⟩ = some (.string x.name) ∧ wy.cell? ⟨bn, on + i * 2 + 1, none⟩ = some (.int .i64 x.as_))) (by kernel_rfl) (HC.out _ hp0) (fun hHeld0 => ?_)
        refine take_list (i := 0) (v := ?_) rfl (by kernel_rfl) (by kernel_rfl) (by kernel_rfl) (fun _ _ _ h => h) (Or.inl ⟨by rfl, ?_⟩) (by assumption) ?_
        rotate_left
        · (intro w hSw; (try dsimp only at hSw); go_simp; try (with_reducible rfl))
        try simp only [Act.put, List.setIfInBounds_toArray, List.set_cons_zero, List.set_cons_succ]
        refine wpAnyH_ready (rs := [1]) (by kernel_rfl) (by simp) ?_
        refine cons_list rfl (fun K hK => ?_) AllReadyH.nil
        go_simp
        (go_at_call 116; refine (CR.out _ hp0).mono ?_; rintro e wn ⟨rfl, hpn⟩)
        refine hK.out _ _ (HC.out _ (by assumption)) (fun hHeld1 => ?_)
        clear hK K hHeld0
        try simp only [Act.put, List.setIfInBounds_toArray, List.set_cons_zero, List.set_cons_succ]
        refine take_list (i := 2) (v := ?_) rfl (by kernel_rfl) (by kernel_rfl) (by kernel_rfl) (fun _ _ _ h => h) (Or.inl ⟨by rfl, ?_⟩) (by assumption) ?_
        rotate_left
        · (intro w hSw; (try dsimp only at hSw); go_simp; try (with_reducible rfl))
        try simp only [Act.put, List.setIfInBounds_toArray, List.set_cons_zero, List.set_cons_succ]
        refine take_list (i := 3) (v := ?_) rfl (by kernel_rfl) (by kernel_rfl) (by kernel_rfl) (fun _ _ _ h => h) (Or.inl ⟨by rfl, ?_⟩) (by assumption) ?_
        rotate_left
        · (intro w hSw; (try dsimp only at hSw); go_simp; try (with_reducible rfl))
        try simp only [Act.put, List.setIfInBounds_toArray, List.set_cons_zero, List.set_cons_succ]
        refine take_list (i := 4) (v := ?_) rfl (by kernel_rfl) (by kernel_rfl) (by kernel_rfl) (fun _ _ _ h => h) (Or.inl ⟨by rfl, ?_⟩) (by assumption) ?_
        rotate_left
        · (intro w hSw; (try dsimp only at hSw); go_simp; try (with_reducible rfl))
        try simp only [Act.put, List.setIfInBounds_toArray, List.set_cons_zero, List.set_cons_succ]
        refine take_list (i := 5) (v := ?_) rfl (by kernel_rfl) (by kernel_rfl) (by kernel_rfl) (fun _ _ _ h => h) (Or.inl ⟨by rfl, ?_⟩) (by assumption) ?_
        rotate_left
        · (intro w hSw; (try dsimp only at hSw); go_simp; try (with_reducible rfl))
        try simp only [Act.put, List.setIfInBounds_toArray, List.set_cons_zero, List.set_cons_succ]
        refine take_list (i := 6) (v := ?_) rfl (by kernel_rfl) (by kernel_rfl) (by kernel_rfl) (fun _ _ _ h => h) (Or.inl ⟨by rfl, ?_⟩) (by assumption) ?_
        rotate_left
        · (intro w hSw; (try dsimp only at hSw); go_simp; try (with_reducible rfl))
        try simp only [Act.put, List.setIfInBounds_toArray, List.set_cons_zero, List.set_cons_succ]
        refine take_list (i := 7) (v := ?_) rfl (by kernel_rfl) (by kernel_rfl) (by kernel_rfl) (fun _ _ _ h => h) (Or.inl ⟨by rfl, ?_⟩) (by assumption) ?_
        rotate_left
        · (intro w hSw; (try dsimp only at hSw); go_simp; try (with_reducible rfl))
        try simp only [Act.put, List.setIfInBounds_toArray, List.set_cons_zero, List.set_cons_succ]
        refine take_list (i := 9) (v := ?_) rfl (by kernel_rfl) (by kernel_rfl) (by kernel_rfl) (fun _ _ _ h => h) (Or.inl ⟨by rfl, ?_⟩) (by assumption) ?_
        rotate_left
        · (intro w hSw; (try dsimp only at hSw); go_simp; try (with_reducible rfl))
        try simp only [Act.put, List.setIfInBounds_toArray, List.set_cons_zero, List.set_cons_succ]
        refine take_list (i := 10) (v := ?_) rfl (by kernel_rfl) (by kernel_rfl) (by kernel_rfl) (fun _ _ _ h => h) (Or.inl ⟨by rfl, ?_⟩) (by assumption) ?_
        rotate_left
        · (intro w hSw; (try dsimp only at hSw); go_simp; try (with_reducible rfl))
        try simp only [Act.put, List.setIfInBounds_toArray, List.set_cons_zero, List.set_cons_succ]
        refine take_list (i := 11) (v := ?_) rfl (by kernel_rfl) (by kernel_rfl) (by kernel_rfl) (fun _ _ _ h => h) (Or.inl ⟨by rfl, ?_⟩) (by assumption) ?_
        rotate_left
        · (intro w hSw; (try dsimp only at hSw); go_simp; try (with_reducible rfl))
        try simp only [Act.put, List.setIfInBounds_toArray, List.set_cons_zero, List.set_cons_succ]
        refine take_list (i := 12) (v := ?_) rfl (by kernel_rfl) (by kernel_rfl) (by kernel_rfl) (fun _ _ _ h => h) (Or.inl ⟨by rfl, ?_⟩) (by assumption) ?_
        rotate_left
        · (intro w hSw; (try dsimp only at hSw); go_simp; try (with_reducible rfl))
        try simp only [Act.put, List.setIfInBounds_toArray, List.set_cons_zero, List.set_cons_succ]
        refine take_list (i := 13) (v := ?_) rfl (by kernel_rfl) (by kernel_rfl) (by kernel_rfl) (fun _ _ _ h => h) (Or.inl ⟨by rfl, ?_⟩) (by assumption) ?_
        rotate_left
        · (intro w hSw; (try dsimp only at hSw); go_simp; try (with_reducible rfl))
        try simp only [Act.put, List.setIfInBounds_toArray, List.set_cons_zero, List.set_cons_succ]
        refine take_list (i := 14) (v := ?_) rfl (by kernel_rfl) (by kernel_rfl) (by kernel_rfl) (fun _ _ _ h => h) (Or.inl ⟨by rfl, ?_⟩) (by assumption) ?_
        rotate_left
        · (intro w hSw; (try dsimp only at hSw); go_simp; try (with_reducible rfl))
        try simp only [Act.put, List.setIfInBounds_toArray, List.set_cons_zero, List.set_cons_succ]
        refine wpAnyH_ready (rs := [8]) (by kernel_rfl) (by simp) ?_
        refine cons_list rfl (fun K hK => ?_) AllReadyH.nil
        go_simp
        (go_at_call 71; refine (CO.out _ (by assumption)).mono ?_; rintro e wm ⟨rfl, hpm⟩)
        refine hK.out _ _ (HC.out _ (by assumption)) (fun hHeld2 => ?_)
        clear hK K hHeld1
        try simp only [Act.put, List.setIfInBounds_toArray, List.set_cons_zero, List.set_cons_succ]
        refine wpAnyH_ready (rs := [15]) (by kernel_rfl) (by simp) ?_
        refine cons_list rfl (fun K hK => ?_) AllReadyH.nil
        go_simp
        refine hK.out _ _ (HC.out _ (by assumption)) (fun hHeld3 => ?_)
        clear hK K hHeld2
        try simp only [Act.put, List.setIfInBounds_toArray, List.set_cons_zero, List.set_cons_succ]
        refine wpAnyH_ready (rs := [16]) (by kernel_rfl) (by simp) ?_
        refine cons_list rfl (fun K hK => ?_) AllReadyH.nil
        go_simp
        refine hK.out _ _ (HC.out _ (by assumption)) (fun hHeld4 => ?_)
        clear hK K hHeld3
        try simp only [Act.put, List.setIfInBounds_toArray, List.set_cons_zero, List.set_cons_succ]
        refine take_list (i := 17) (v := ?_) rfl (by kernel_rfl) (by kernel_rfl) (by kernel_rfl) (fun _ _ _ h => h) (Or.inl ⟨by rfl, ?_⟩) (by assumption) ?_
        rotate_left
        · (intro w hSw; (try dsimp only at hSw); go_simp; try (with_reducible rfl))
        try simp only [Act.put, List.setIfInBounds_toArray, List.set_cons_zero, List.set_cons_succ]
        refine wpAnyH_ready (rs := [18]) (by kernel_rfl) (by simp) ?_
        refine cons_list rfl (fun K hK => ?_) AllReadyH.nil
        go_simp
        (go_invoke; go_upon; go_at_call 172; refine (CF.out _ (by assumption)).mono ?_; rintro e wq ⟨rfl, hpq⟩)
        refine hK.out _ _ (HC.out _ (by assumption)) (fun hHeld5 => ?_)
        clear hK K hHeld4
        try simp only [Act.put, List.setIfInBounds_toArray, List.set_cons_zero, List.set_cons_succ]
        refine take_list (i := 19) (v := ?_) rfl (by kernel_rfl) (by kernel_rfl) (by kernel_rfl) (fun _ _ _ h => h) (Or.inl ⟨by rfl, ?_⟩) (by assumption) ?_
        rotate_left
        · (intro w hSw; (try dsimp only at hSw); go_simp; try (with_reducible rfl))
        try simp only [Act.put, List.setIfInBounds_toArray, List.set_cons_zero, List.set_cons_succ]
        refine take_list (i := 20) (v := ?_) rfl (by kernel_rfl) (by kernel_rfl) (by kernel_rfl) (fun _ _ _ h => h) (Or.inl ⟨by rfl, ?_⟩) (by assumption) ?_
        rotate_left
        · (intro w hSw; (try dsimp only at hSw); go_simp; try (with_reducible rfl))
        try simp only [Act.put, List.setIfInBounds_toArray, List.set_cons_zero, List.set_cons_succ]
        refine take_list (i := 21) (v := ?_) rfl (by kernel_rfl) (by kernel_rfl) (by kernel_rfl) (fun _ _ _ h => h) (Or.inl ⟨by rfl, ?_⟩) (by assumption) ?_
        rotate_left
        · (intro w hSw; (try dsimp only at hSw); go_simp; try (with_reducible rfl))
        try simp only [Act.put, List.setIfInBounds_toArray, List.set_cons_zero, List.set_cons_succ]
        refine wpAnyH_done (by kernel_rfl) ?_ _
        clear hHeld5
        go_wp2
        go_ret
        exact ⟨ret_bool (by rw [HN.out]), hpq.below⟩
theorem fits_any (p : Net) (h : Hd) (i : Int) (r : Rt) (A : Option Addr) (c : Nat) (w : World) (hp : NetR w w.heap.size p h) (hg : Good p) (hr : RtR w w.heap.size r A c) :
    Calls Tryz.prog 72 #[netV p h, .int .i64 i, rtV r A c] w fun e w' => e = .returned (.bool (placeB i p.nodes.length && holdsB p i r)) ∧ Below w.heap.size w w' := by
  have PX := Lib.hid (PR.begin hp hr)
  have HG := Lib.hid hg
  unfold netV netVal rtV
  clear hp hr hg
  by_cases h0 : 0 ≤ i
  · by_cases h1 : i < p.nodes.length
    · obtain ⟨i, rfl⟩ : ∃ k : Nat, i = k := ⟨i.toNat, by omega⟩
      have HN := Lib.hid (show placeB i p.nodes.length = true from by unfold placeB; simp; omega)
      go_enter Tryz.func72, Tryz.ntmps72
      go_wp2_with fail
      refine (right_any p h _ PX.out.net HG.out.small HG.out.names).mono ?_
      rintro e w1 ⟨rfl, hb1⟩
      rw [HG.out.right]
      have P1 := Lib.hid (PX.out.call hb1)
      obtain ⟨c0, c1, c2, c3, c4, c5, c6⟩ := P1.out.all
      obtain ⟨r0, r1, r2⟩ := P1.out.at_
      clear hb1
      go_wp2_with fail
      refine (holds_any p h i r A c _ P1.out.net (by omega) P1.out.rt).mono ?_
      rintro e w2 ⟨rfl, hb2⟩
      have P2 := Lib.hid (P1.out.call hb2)
      clear hb2
      go_wp2
      go_ret
      exact ⟨ret_bool (by rw [HN.out, Bool.true_and]), P2.out.below⟩
    · have HN := Lib.hid (show placeB i p.nodes.length = false from by unfold placeB; simp; omega)
      go_enter Tryz.func72, Tryz.ntmps72
      go_wp2_with fail
      refine (right_any p h _ PX.out.net HG.out.small HG.out.names).mono ?_
      rintro e w1 ⟨rfl, hb1⟩
      rw [HG.out.right]
      have P1 := Lib.hid (PX.out.call hb1)
      obtain ⟨c0, c1, c2, c3, c4, c5, c6⟩ := P1.out.all
      clear hb1
      go_wp2
      go_ret
      exact ⟨ret_bool (by rw [HN.out]; rfl), P1.out.below⟩
  · have HN := Lib.hid (show placeB i p.nodes.length = false from by unfold placeB; simp; omega)
    go_enter Tryz.func72, Tryz.ntmps72
    go_wp2_with fail
    refine (right_any p h _ PX.out.net HG.out.small HG.out.names).mono ?_
    rintro e w1 ⟨rfl, hb1⟩
    rw [HG.out.right]
    have P1 := Lib.hid (PX.out.call hb1)
    clear hb1
    go_wp2
    go_ret
    exact ⟨ret_bool (by rw [HN.out]; rfl), P1.out.below⟩
end

section
/-- The answer's block, a route put there. -/
theorem rt_put {w0 w : World} {b : Nat} {A : Option Addr} {c : Nat} {r : Rt} (hb : Below w0.heap.size w0 w) (lo : w0.heap.size ≤ b) (h : w.heap[b]? = some (.cells #[.int .i64 r.kind, .int .i64 r.cost, .slice A r.path.length c] 48 (0, 0))) (u0 u1 u2 : Value) :
    Below w0.heap.size w0 (((w.setCell ⟨b, 0, none⟩ u0).setCell ⟨b, 1, none⟩ u1).setCell ⟨b, 2, none⟩ u2) ∧
    (w.cell? ⟨b, 0, none⟩ = some (.int .i64 r.kind) ∧ w.cell? ⟨b, 1, none⟩ = some (.int .i64 r.cost) ∧ w.cell? ⟨b, 2, none⟩ = some (.slice A r.path.length c)) ∧
    (w.frozen? ⟨b, 0, none⟩ = false ∧ w.frozen? ⟨b, 1, none⟩ = false ∧ w.frozen? ⟨b, 2, none⟩ = false) :=
  ⟨((hb.setCell lo _).setCell lo _).setCell lo _, ⟨cell_of_row w _ 0 _ _ _ h, cell_of_row w _ 1 _ _ _ h, cell_of_row w _ 2 _ _ _ h⟩, ⟨frozen_of_row w _ 0 _ _ h, frozen_of_row w _ 1 _ _ h, frozen_of_row w _ 2 _ _ h⟩⟩
set_option maxRecDepth 100000 in
set_option maxHeartbeats 4000000 in
theorem ownX_any (p : Net) (h : Hd) (d n : Int) (w : World) (hp : NetR w w.heap.size p h) (hg : Good p) :
    Calls Tryz.prog 45 #[netV p h, .int .i64 d, .int .i64 n] w fun e w' => e = .returned (rtV (ownR p d n) none 0) ∧ Below w.heap.size w w' := by
  have PX : Hid (PR w ((w.alloc (.cells (netCells p h) 30)).alloc (.cells #[.int .i64 0, .int .i64 0, .slice none 0 0] 48)) p h rtNone none 0) := Lib.hid (PR.begin hp rtR_nil)
  have HG := Lib.hid hg
  unfold netV netVal
  clear hp hg
  by_cases hin : placeB d p.dests.length = true ∧ n ∈ orgOf p d
  · obtain ⟨hd, hn⟩ := hin
    have hd' : 0 ≤ d ∧ d < p.dests.length := by unfold placeB at hd; simpa using hd
    obtain ⟨d, rfl⟩ : ∃ k : Nat, d = k := ⟨d.toNat, by omega⟩
    have HN := Lib.hid (show ownR p d n = rtOwn p from by unfold ownR; rw [if_pos ⟨hd, hn⟩])
    have HI := Lib.hid hn
    have hd0 : (0 : Int) ≤ (d : Int) := by omega
    have hd1 : (d : Int) < (p.dests.length : Int) := by omega
    clear hd hn hd'
    go_enter Tryz.func45, Tryz.ntmps45
    go_wp2_with fail
    refine (right_any p h _ PX.out.net HG.out.small HG.out.names).mono ?_
    rintro e w1 ⟨rfl, hb1⟩
    rw [HG.out.right]
    have P1 := Lib.hid (PX.out.call hb1)
    obtain ⟨c0, c1, c2, c3, c4, c5, c6⟩ := P1.out.all
    obtain ⟨z, b, o, hz, he, hb, hc, hr⟩ := P1.out.net.dest1 (d := d) (by omega)
    have HE := Lib.hid he
    rw [he] at c5
    have hl := HG.out.small.origins _ (List.mem_of_getElem? hz)
    have HR := Lib.hid hr
    have HM := Lib.hid (show decide (n ∈ z.1.origins) = true from by
      have := HI.out
      unfold orgOf at this
      simp only [Int.toNat_natCast, hz] at this
      simpa using this)
    clear hb1 he hz hr
    go_wp2_with fail
    refine (containsI_any z.1.origins n _ _ _ _ HR.out (by omega)).mono ?_
    rintro e w2 ⟨rfl, rfl⟩
    rw [HM.out]
    go_wp2_with fail
    have ho := of_any p h w1
    unfold netV netVal at ho
    rw [HE.out] at ho
    refine ho.mono ?_
    rintro e w2 ⟨rfl, hb2⟩
    have P2 := Lib.hid (P1.out.call hb2)
    clear ho hb2
    by_cases h2 : p.proto = 2
    · have HO := Lib.hid (show rtOwn p = ⟨2, 0, []⟩ from by unfold rtOwn; rw [if_pos h2])
      rw [show protoV p = .iface 117 (.agg #[.int .i64 p.cap]) from by unfold protoV; rw [if_pos h2]]
      clear h2 c0 c1 c2 c3 c4 c5 c6
      go_wp2_with (go_at_call 169; refine (pown_any p.cap _).mono ?_; rintro e w3 ⟨rfl, hb3⟩; have P3 := Lib.hid (P2.out.call hb3); obtain ⟨hfin, ⟨r0, r1, r2⟩, ⟨f0, f1, f2⟩⟩ := rt_put P3.out.below (Nat.le_succ _) P3.out.box (.int .i64 2) (.int .i64 0) (.slice none 0 0))
      exact bodyPost_ret (v := .agg #[.int .i64 2, .int .i64 0, .slice none 0 0]) (by simp [results, Tryz.results45, go_sem, r0, r1, r2]) rfl ⟨by rw [HN.out, HO.out]; rfl, hfin⟩
    · have HO := Lib.hid (show rtOwn p = ⟨1, 0, []⟩ from by unfold rtOwn; rw [if_neg h2])
      rw [show protoV p = .iface 118 (.agg #[]) from by unfold protoV; rw [if_neg h2]]
      clear h2 c0 c1 c2 c3 c4 c5 c6
      go_wp2_with (go_at_call 174; refine (vown_any _).mono ?_; rintro e w3 ⟨rfl, hb3⟩; have P3 := Lib.hid (P2.out.call hb3); obtain ⟨hfin, ⟨r0, r1, r2⟩, ⟨f0, f1, f2⟩⟩ := rt_put P3.out.below (Nat.le_succ _) P3.out.box (.int .i64 1) (.int .i64 0) (.slice none 0 0))
      exact bodyPost_ret (v := .agg #[.int .i64 1, .int .i64 0, .slice none 0 0]) (by simp [results, Tryz.results45, go_sem, r0, r1, r2]) rfl ⟨by rw [HN.out, HO.out]; rfl, hfin⟩
  · have HN := Lib.hid (show ownR p d n = rtNone from by unfold ownR; rw [if_neg hin])
    have HF : Hid (∀ w', Below w.heap.size w w' → (Ending.returned (.agg #[.int .i64 0, .int .i64 0, .slice none 0 0]) = Ending.returned (rtV (ownR p d n) none 0) ∧ Below w.heap.size w w')) := Lib.hid (fun w' hb => ⟨by rw [HN.out]; rfl, hb⟩)
    by_cases h0 : d < 0
    · clear hin
      go_enter Tryz.func45, Tryz.ntmps45
      go_wp2_with fail
      refine (right_any p h _ PX.out.net HG.out.small HG.out.names).mono ?_
      rintro e w1 ⟨rfl, hb1⟩
      rw [HG.out.right]
      have P1 := Lib.hid (PX.out.call hb1)
      obtain ⟨hfin, ⟨r0, r1, r2⟩, ⟨f0, f1, f2⟩⟩ := rt_put P1.out.below (Nat.le_succ _) P1.out.box (.int .i64 0) (.int .i64 0) (.slice none 0 0)
      have HB := Lib.hid hfin
      clear hb1 hfin
      go_wp2
      exact bodyPost_ret (v := .agg #[.int .i64 0, .int .i64 0, .slice none 0 0]) (by simp [results, Tryz.results45, go_sem, r0, r1, r2]) rfl (HF.out _ HB.out)
    · by_cases h1 : (p.dests.length : Int) ≤ d
      · have h0' : 0 ≤ d := by omega
        clear hin h0
        go_enter Tryz.func45, Tryz.ntmps45
        go_wp2_with fail
        refine (right_any p h _ PX.out.net HG.out.small HG.out.names).mono ?_
        rintro e w1 ⟨rfl, hb1⟩
        rw [HG.out.right]
        have P1 := Lib.hid (PX.out.call hb1)
        obtain ⟨c0, c1, c2, c3, c4, c5, c6⟩ := P1.out.all
        obtain ⟨hfin, ⟨r0, r1, r2⟩, ⟨f0, f1, f2⟩⟩ := rt_put P1.out.below (Nat.le_succ _) P1.out.box (.int .i64 0) (.int .i64 0) (.slice none 0 0)
        have HB := Lib.hid hfin
        clear hb1 hfin
        go_wp2
        exact bodyPost_ret (v := .agg #[.int .i64 0, .int .i64 0, .slice none 0 0]) (by simp [results, Tryz.results45, go_sem, r0, r1, r2]) rfl (HF.out _ HB.out)
      · obtain ⟨d, rfl⟩ : ∃ k : Nat, d = k := ⟨d.toNat, by omega⟩
        have hd0 : (0 : Int) ≤ (d : Int) := by omega
        have hd1 : (d : Int) < (p.dests.length : Int) := by omega
        have HI := Lib.hid (show n ∉ orgOf p d from fun e => hin ⟨by unfold placeB; simpa using hd1, e⟩)
        clear hin h0 h1
        go_enter Tryz.func45, Tryz.ntmps45
        go_wp2_with fail
        refine (right_any p h _ PX.out.net HG.out.small HG.out.names).mono ?_
        rintro e w1 ⟨rfl, hb1⟩
        rw [HG.out.right]
        have P1 := Lib.hid (PX.out.call hb1)
        obtain ⟨c0, c1, c2, c3, c4, c5, c6⟩ := P1.out.all
        obtain ⟨z, b, o, hz, he, hb, hc, hr⟩ := P1.out.net.dest1 (d := d) (by omega)
        have HE := Lib.hid he
        rw [he] at c5
        have hl := HG.out.small.origins _ (List.mem_of_getElem? hz)
        have HR := Lib.hid hr
        have HM := Lib.hid (show decide (n ∈ z.1.origins) = false from by
          have := HI.out
          unfold orgOf at this
          simp only [Int.toNat_natCast, hz] at this
          simpa using this)
        obtain ⟨hfin, ⟨r0, r1, r2⟩, ⟨f0, f1, f2⟩⟩ := rt_put P1.out.below (Nat.le_succ _) P1.out.box (.int .i64 0) (.int .i64 0) (.slice none 0 0)
        have HB := Lib.hid hfin
        clear hb1 he hz hr hfin
        go_wp2_with fail
        refine (containsI_any z.1.origins n _ _ _ _ HR.out (by omega)).mono ?_
        rintro e w2 ⟨rfl, rfl⟩
        rw [HM.out]
        go_wp2
        exact bodyPost_ret (v := .agg #[.int .i64 0, .int .i64 0, .slice none 0 0]) (by simp [results, Tryz.results45, go_sem, r0, r1, r2]) rfl (HF.out _ HB.out)
end

section
/-- Block b holds a network, further blocks routes; all read. -/
structure NW (w0 wr : World) (b : Nat) (p : Net) (h : Hd) (L : List (Nat × RtZ)) : Prop where
  pb : PB w0 wr b p h
  each : ∀ z ∈ L, Box wr z.1 z.2.1 z.2.2.1 z.2.2.2
section
variable {w0 wr w' : World} {b : Nat} {p : Net} {h : Hd} {L : List (Nat × RtZ)}
theorem NW.call (a : NW w0 wr b p h L) (hb : Below wr.heap.size wr w') : NW w0 w' b p h L := ⟨a.pb.call hb, fun z hz => (a.each z hz).call hb⟩
theorem NW.push (a : NW w0 wr b p h L) {r : Rt} {A : Option Addr} {c : Nat} (hr : RtR wr wr.heap.size r A c) : NW w0 (wr.alloc (.cells #[.int .i64 r.kind, .int .i64 r.cost, .slice A r.path.length c] 48)) b p h ((wr.heap.size, (r, (A, c))) :: L) := by
  have hb : Below wr.heap.size wr (wr.alloc (.cells #[.int .i64 r.kind, .int .i64 r.cost, .slice A r.path.length c] 48)) := (Below.refl _ _).alloc (Nat.le_refl _) _
  refine ⟨a.pb.call hb, fun z hz => ?_⟩
  rcases List.mem_cons.1 hz with rfl | hz
  · exact Box.new hr
  · exact (a.each z hz).call hb
theorem NW.drew (a : NW w0 wr b p h L) : NW w0 wr.drew b p h L := a.call (below_drew (Below.refl _ _))
theorem NW.box {z : Nat × RtZ} (a : NW w0 wr b p h L) (hz : z ∈ L) : Box wr z.1 z.2.1 z.2.2.1 z.2.2.2 := a.each z hz
theorem NW.net (a : NW w0 wr b p h L) : NetR wr wr.heap.size p h := a.pb.net
end
end
end Go.Proofs.YtakolnmoieiicaaGreat

/- The walks of package carry's inner functions: of, and the methods of its two protocols. -/
import Derived.Test.YtiehlnokidhgfaaCarryP
import Derived.Test.YtiehlnokidhgfaaContains
import Derived.Test.YtiehlnokidhgfaaConcat
import Derived.Test.YtiehlnokidhgfaaPbox
import Derived.Test.YtiehlnokidhgfaaRegs
import Derived.Handy
namespace Go.Proofs.Ytiehlnokidhgfaa
set_option linter.unusedSimpArgs false
set_option linter.unusedVariables false
open Go.RowKit

def protoV (p : Net) : Value := if p.proto = 2 then .iface 67 (.agg #[.int .i64 p.cap]) else .iface 69 (.agg #[])
theorem of_any (p : Net) (h : Hd) (w : World) : Calls Try.prog 15 #[netV p h] w fun e w' => e = .returned (protoV p) ∧ Below w.heap.size w w' := by
  unfold netV netVal
  by_cases h2 : p.proto = 2
  · have HN := Lib.hid (show protoV p = .iface 67 (.agg #[.int .i64 p.cap]) from by unfold protoV; rw [if_pos h2])
    have hb : (p.proto == 2) = true := by simp [h2]
    clear h2
    go_enter Try.func15, Try.ntmps15
    go_wp2
    go_ret
    exact ⟨by rw [HN.out]; rfl, (Below.refl _ _).alloc (Nat.le_refl _) _⟩
  · have HN := Lib.hid (show protoV p = .iface 69 (.agg #[]) from by unfold protoV; rw [if_neg h2])
    have hb : (p.proto == 2) = false := by simp [h2]
    clear h2
    go_enter Try.func15, Try.ntmps15
    go_wp2
    go_ret
    exact ⟨by rw [HN.out]; rfl, (Below.refl _ _).alloc (Nat.le_refl _) _⟩
def ndV (x : Nd) : Value := .agg #[.string x.name, .int .i64 x.as_]
theorem vfits_any (x : Nd) (r : Rt) (A : Option Addr) (c : Nat) (w : World) : Calls Try.prog 116 #[.agg #[], ndV x, rtV r A c] w fun e w' => e = .returned (.bool (decide (r.kind = 1))) ∧ Below w.heap.size w w' := by
  have HB := Lib.hid (show decide (r.kind = 1) = (r.kind == 1) from by rw [Bool.eq_iff_iff]; simp)
  unfold rtV ndV
  go_enter Try.func116, Try.ntmps116
  go_wp2
  go_ret
  exact ⟨ret_bool (by rw [HB.out]), ((((Below.refl _ _).alloc (Nat.le_refl _) _).alloc (by simp) _).alloc (by simp; omega) _)⟩
theorem pfits_any (cap : Int) (x : Nd) (r : Rt) (A : Option Addr) (c : Nat) (w : World) (h : RtR w w.heap.size r A c) (hl : r.path.length ≤ 1000) :
    Calls Try.prog 111 #[.agg #[.int .i64 cap], ndV x, rtV r A c] w fun e w' => e = .returned (.bool (decide (r.kind = 2) && (decide ((r.path.length : Int) ≤ cap) && !decide (x.as_ ∈ r.path)))) ∧ Below w.heap.size w w' := by
  have HR := Lib.hid h.1
  have B3 : Hid (Below w.heap.size w (((w.alloc (.cells #[.int .i64 cap] 67)).alloc (.cells #[.string x.name, .int .i64 x.as_] 48)).alloc (.cells #[.int .i64 r.kind, .int .i64 r.cost, .slice A r.path.length c] 24))) :=
    Lib.hid ((((Below.refl _ _).alloc (Nat.le_refl _) _).alloc (by simp) _).alloc (by simp; omega) _)
  unfold rtV ndV
  clear h
  by_cases h2 : r.kind = 2
  · have hb : (r.kind == 2) = true := by simp [h2]
    by_cases h3 : (r.path.length : Int) ≤ cap
    · have HN := Lib.hid (show (decide (r.kind = 2) && (decide ((r.path.length : Int) ≤ cap) && !decide (x.as_ ∈ r.path))) = !decide (x.as_ ∈ r.path) from by simp [h2, h3])
      clear h2
      go_enter Try.func111, Try.ntmps111
      go_wp2_with (go_at_call 17; refine (containsI_any r.path x.as_ A c _ _ ((HR.out.below B3.out (Nat.le_refl _)).more B3.out.size) (by omega)).mono ?_; rintro e w' ⟨rfl, rfl⟩)
      go_ret
      exact ⟨ret_bool (by rw [HN.out]), B3.out⟩
    · have HN := Lib.hid (show (decide (r.kind = 2) && (decide ((r.path.length : Int) ≤ cap) && !decide (x.as_ ∈ r.path))) = false from by simp [h3])
      clear h2
      go_enter Try.func111, Try.ntmps111
      go_wp2
      go_ret
      exact ⟨ret_bool (by rw [HN.out]), B3.out⟩
  · have hb : (r.kind == 2) = false := by simp [h2]
    have HN := Lib.hid (show (decide (r.kind = 2) && (decide ((r.path.length : Int) ≤ cap) && !decide (x.as_ ∈ r.path))) = false from by simp [h2])
    clear h2
    go_enter Try.func111, Try.ntmps111
    go_wp2
    go_ret
    exact ⟨ret_bool (by rw [HN.out]), B3.out⟩
/-- A route is handed back. -/
def RtPost (r : Rt) (w : World) (e : Ending) (w' : World) : Prop := ∃ A c, e = .returned (rtV r A c) ∧ RtR w' w'.heap.size r A c ∧ Below w.heap.size w w'
theorem rtR_nil {w : World} {B : Nat} {k c : Int} : RtR w B ⟨k, c, []⟩ none 0 := ⟨Rd.nil _, Nat.le_refl _, by simp [maxLen]⟩
theorem vown_any (w : World) : Calls Try.prog 118 #[.agg #[]] w fun e w' => e = .returned (.agg #[.int .i64 1, .int .i64 0, .slice none 0 0]) ∧ Below w.heap.size w w' := by
  go_enter Try.func118, Try.ntmps118
  go_wp2
  exact bodyPost_ret (v := .agg #[.int .i64 1, .int .i64 0, .slice none 0 0]) (by simp [results, Try.results118, go_sem]) rfl ⟨rfl, by go_grown⟩
theorem pown_any (cap : Int) (w : World) : Calls Try.prog 113 #[.agg #[.int .i64 cap]] w fun e w' => e = .returned (.agg #[.int .i64 2, .int .i64 0, .slice none 0 0]) ∧ Below w.heap.size w w' := by
  go_enter Try.func113, Try.ntmps113
  go_wp2
  exact bodyPost_ret (v := .agg #[.int .i64 2, .int .i64 0, .slice none 0 0]) (by simp [results, Try.results113, go_sem]) rfl ⟨rfl, by go_grown⟩
/-- .. its list in memory of the call's own, or there is none. -/
def OvPost (r : Rt) (w : World) (e : Ending) (w' : World) : Prop := ∃ A c, e = .returned (rtV r A c) ∧ (Own w' w.heap.size 3 1 A r.path.length c (ints r.path) ∨ (r.path = [] ∧ c ≤ maxLen)) ∧ Below w.heap.size w w'
theorem vover_any (k : Int) (x y : Nd) (r : Rt) (A : Option Addr) (c : Nat) (w : World) (h : RtR w w.heap.size r A c) (hk : 0 ≤ k ∧ k ≤ 1000) (hc : 0 ≤ r.cost ∧ r.cost ≤ 1000) (hn : r.path = []) :
    Calls Try.prog 117 #[.agg #[], .int .i64 k, ndV x, ndV y, rtV r A c] w (OvPost ⟨r.kind, r.cost + k, r.path⟩ w) := by
  have HF : ∀ w', Below w.heap.size w w' → OvPost ⟨r.kind, r.cost + k, r.path⟩ w (.returned (.agg #[.int .i64 r.kind, .int .i64 (r.cost + k), .slice A r.path.length c])) w' := fun w' hb => ⟨A, c, rfl, .inr ⟨hn, h.2.2⟩, hb⟩
  have HH := Lib.hid HF
  clear HF h hn
  unfold rtV ndV
  go_enter Try.func117, Try.ntmps117
  go_wp2
  exact bodyPost_ret (v := .agg #[.int .i64 r.kind, .int .i64 (r.cost + k), .slice A r.path.length c]) (by simp [results, Try.results117, go_sem]) rfl (HH.out _ (by go_grown))
/-- The blocks of (paths).over. -/
def POver (cap : Int) (x y : Nd) (r : Rt) (A : Option Addr) (c : Nat) (w w7 : World) : Prop :=
  w7.heap.size = w.heap.size + 7 ∧ Below w.heap.size w w7 ∧ Rd w7 w7.heap.size 1 (some ⟨w.heap.size + 1 + 1 + 1 + 1 + 1, 0, none⟩) 1 (ints [x.as_]) ∧ Rd w7 w7.heap.size 1 A r.path.length (ints r.path) ∧
  w7.cell? ⟨w.heap.size + 1 + 1 + 1 + 1 + 1 + 1, 0, none⟩ = some (.slice (some ⟨w.heap.size + 1 + 1 + 1 + 1 + 1, 0, none⟩) 1 1) ∧ w7.cell? ⟨w.heap.size + 1 + 1 + 1 + 1 + 1 + 1, 1, none⟩ = some (.slice A r.path.length c) ∧
  w7.heap[w.heap.size + 1 + 1 + 1]? = some (.cells #[.int .i64 r.kind, .int .i64 r.cost, .slice A r.path.length c] 24 (0, 0)) ∧
  w7.heap[w.heap.size + 1 + 1 + 1 + 1]? = some (.cells #[.int .i64 0, .int .i64 0, .slice none 0 0] 24 (0, 0))
theorem pover_w (cap : Int) (x y : Nd) (r : Rt) (A : Option Addr) (c : Nat) (w : World) (h : RtR w w.heap.size r A c) :
    POver cap x y r A c w (((((((w.alloc (.cells #[.int .i64 cap] 67)).alloc (.cells #[.string x.name, .int .i64 x.as_] 48)).alloc (.cells #[.string y.name, .int .i64 y.as_] 48)).alloc (.cells #[.int .i64 r.kind, .int .i64 r.cost, .slice A r.path.length c] 24)).alloc (.cells #[.int .i64 0, .int .i64 0, .slice none 0 0] 24)).alloc (.cells #[.int .i64 x.as_] 3)).alloc (.cells #[.slice (some ⟨w.heap.size + 1 + 1 + 1 + 1 + 1, 0, none⟩) 1 1, .slice A r.path.length c] 22)) := by
  have hb : Below w.heap.size w (((((((w.alloc (.cells #[.int .i64 cap] 67)).alloc (.cells #[.string x.name, .int .i64 x.as_] 48)).alloc (.cells #[.string y.name, .int .i64 y.as_] 48)).alloc (.cells #[.int .i64 r.kind, .int .i64 r.cost, .slice A r.path.length c] 24)).alloc (.cells #[.int .i64 0, .int .i64 0, .slice none 0 0] 24)).alloc (.cells #[.int .i64 x.as_] 3)).alloc (.cells #[.slice (some ⟨w.heap.size + 1 + 1 + 1 + 1 + 1, 0, none⟩) 1 1, .slice A r.path.length c] 22)) := by go_grown
  refine ⟨by simp, hb, ?_, (h.1.below hb (Nat.le_refl _)).more hb.size, ?_, ?_, ?_, ?_⟩
  · exact ((Rd.new (m := 1) (s := 1) (by simp) rfl).alloc (Nat.le_refl _) _).more (by simp)
  · rw [show w.heap.size + 1 + 1 + 1 + 1 + 1 + 1 = ((((((w.alloc (.cells #[.int .i64 cap] 67)).alloc (.cells #[.string x.name, .int .i64 x.as_] 48)).alloc (.cells #[.string y.name, .int .i64 y.as_] 48)).alloc (.cells #[.int .i64 r.kind, .int .i64 r.cost, .slice A r.path.length c] 24)).alloc (.cells #[.int .i64 0, .int .i64 0, .slice none 0 0] 24)).alloc (.cells #[.int .i64 x.as_] 3)).heap.size by simp, World.cell?_alloc_new]; rfl
  · rw [show w.heap.size + 1 + 1 + 1 + 1 + 1 + 1 = ((((((w.alloc (.cells #[.int .i64 cap] 67)).alloc (.cells #[.string x.name, .int .i64 x.as_] 48)).alloc (.cells #[.string y.name, .int .i64 y.as_] 48)).alloc (.cells #[.int .i64 r.kind, .int .i64 r.cost, .slice A r.path.length c] 24)).alloc (.cells #[.int .i64 0, .int .i64 0, .slice none 0 0] 24)).alloc (.cells #[.int .i64 x.as_] 3)).heap.size by simp, World.cell?_alloc_new]; rfl
  · refine (Below.heap_alloc _ _ _ (by simp)).trans ((Below.heap_alloc _ _ _ (by simp)).trans ((Below.heap_alloc _ _ _ (by simp)).trans ?_))
    have := heap_alloc_new (((w.alloc (.cells #[.int .i64 cap] 67)).alloc (.cells #[.string x.name, .int .i64 x.as_] 48)).alloc (.cells #[.string y.name, .int .i64 y.as_] 48)) (.cells #[.int .i64 r.kind, .int .i64 r.cost, .slice A r.path.length c] 24)
    simpa using this
  · refine (Below.heap_alloc _ _ _ (by simp)).trans ((Below.heap_alloc _ _ _ (by simp)).trans ?_)
    have := heap_alloc_new ((((w.alloc (.cells #[.int .i64 cap] 67)).alloc (.cells #[.string x.name, .int .i64 x.as_] 48)).alloc (.cells #[.string y.name, .int .i64 y.as_] 48)).alloc (.cells #[.int .i64 r.kind, .int .i64 r.cost, .slice A r.path.length c] 24)) (.cells #[.int .i64 0, .int .i64 0, .slice none 0 0] 24)
    simpa using this
set_option maxRecDepth 100000 in
set_option maxHeartbeats 4000000 in
theorem pover_any (cap k : Int) (x y : Nd) (r : Rt) (A : Option Addr) (c : Nat) (w : World) (h : RtR w w.heap.size r A c) (hl : r.path.length ≤ 900) :
    Calls Try.prog 112 #[.agg #[.int .i64 cap], .int .i64 k, ndV x, ndV y, rtV r A c] w (OvPost ⟨r.kind, r.cost, x.as_ :: r.path⟩ w) := by
  have HR := Lib.hid h
  clear h
  unfold rtV ndV
  go_enter Try.func112, Try.ntmps112
  go_wp2_with fail
  have HX := Lib.hid (pover_w cap x y r A c w HR.out)
  unfold POver at HX
  generalize ((((((w.alloc (.cells #[.int .i64 cap] 67)).alloc (.cells #[.string x.name, .int .i64 x.as_] 48)).alloc (.cells #[.string y.name, .int .i64 y.as_] 48)).alloc (.cells #[.int .i64 r.kind, .int .i64 r.cost, .slice A r.path.length c] 24)).alloc (.cells #[.int .i64 0, .int .i64 0, .slice none 0 0] 24)).alloc (.cells #[.int .i64 x.as_] 3)).alloc (.cells #[.slice (some ⟨w.heap.size + 1 + 1 + 1 + 1 + 1, 0, none⟩) 1 1, .slice A r.path.length c] 22) = w7 at HX ⊢
  obtain ⟨hsz, hb7, hrd1, hrd2, hc0, hc1, hbox, hres⟩ := HX.out
  refine (concat_any [x.as_] r.path _ A 1 c 2 _ w7 (by omega) hc0 hc1 hrd1 hrd2 (by simp) (by omega)).mono ?_
  rintro e w8 ⟨A8, c8, rfl, ho, hb8⟩
  have k3 := (hb8.block _ (by omega)).trans hbox
  have k4 := (hb8.block _ (by omega)).trans hres
  have m0 := cell_of_row w8 _ 0 _ _ _ k3
  have m1 := cell_of_row w8 _ 1 _ _ _ k3
  have m2 := cell_of_row w8 _ 2 _ _ _ k3
  have mf := frozen_of_row w8 _ 2 _ _ k3
  have r0 := cell_of_row w8 _ 0 _ _ _ k4
  have r1 := cell_of_row w8 _ 1 _ _ _ k4
  have r2 := cell_of_row w8 _ 2 _ _ _ k4
  have f0 := frozen_of_row w8 _ 0 _ _ k4
  have f1 := frozen_of_row w8 _ 1 _ _ k4
  have f2 := frozen_of_row w8 _ 2 _ _ k4
  have hlen : (([x.as_] ++ r.path).length : Int) = r.path.length + 1 := by simp
  have hb := hb7.trans (hb8.mono (show w.heap.size ≤ w7.heap.size by omega))
  have HO := Lib.hid ho
  have HF : Hid (∀ w', Own w' w.heap.size 3 1 A8 (x.as_ :: r.path).length c8 (ints (x.as_ :: r.path)) → Below w.heap.size w w' → OvPost ⟨r.kind, r.cost, x.as_ :: r.path⟩ w (.returned (.agg #[.int .i64 r.kind, .int .i64 r.cost, .slice A8 ([x.as_] ++ r.path).length c8])) w') := Lib.hid (fun w' h1 h2 => ⟨A8, c8, rfl, .inl h1, h2⟩)
  have HB := Lib.hid hb
  have HS := Lib.hid hsz
  clear hc0 hc1 hrd1 hrd2 hbox hres ho hb hb7 hb8 k3 k4 hsz
  generalize ([x.as_] ++ r.path).length = n8 at *
  go_wp2
  refine bodyPost_ret (v := .agg #[.int .i64 r.kind, .int .i64 r.cost, .slice A8 n8 c8]) (by simp [results, Try.results112, go_sem, m0, m1, m2, r0, r1, r2]) rfl (HF.out _ ?_ ?_)
  · have hs := HS.out
    have hf : ∀ q : Nat, q ≤ w.heap.size + 4 → ∀ g, blk A8 = some g → g ≠ q := fun q hq g hg => by have := HO.out.from_ g hg; omega
    have h1 := (((HO.out.setCell_far (p := ⟨w.heap.size + 1 + 1 + 1, 2, none⟩) (hf (w.heap.size + 1 + 1 + 1) (by omega)) (.slice A8 n8 c8)).setCell_far (p := ⟨w.heap.size + 1 + 1 + 1 + 1, 0, none⟩) (hf (w.heap.size + 1 + 1 + 1 + 1) (by omega)) (.int .i64 r.kind)).setCell_far (p := ⟨w.heap.size + 1 + 1 + 1 + 1, 1, none⟩) (hf (w.heap.size + 1 + 1 + 1 + 1) (by omega)) (.int .i64 r.cost)).setCell_far (p := ⟨w.heap.size + 1 + 1 + 1 + 1, 2, none⟩) (hf (w.heap.size + 1 + 1 + 1 + 1) (by omega)) (.slice A8 n8 c8)
    have hn : n8 = (x.as_ :: r.path).length := by simp; omega
    subst hn
    exact h1.more (B' := w.heap.size) (by omega)
  · exact (((HB.out.setCell (p := ⟨w.heap.size + 1 + 1 + 1, 2, none⟩) (by show w.heap.size ≤ w.heap.size + 1 + 1 + 1; omega) _).setCell (p := ⟨w.heap.size + 1 + 1 + 1 + 1, 0, none⟩) (by show w.heap.size ≤ w.heap.size + 1 + 1 + 1 + 1; omega) _).setCell (p := ⟨w.heap.size + 1 + 1 + 1 + 1, 1, none⟩) (by show w.heap.size ≤ w.heap.size + 1 + 1 + 1 + 1; omega) _).setCell (p := ⟨w.heap.size + 1 + 1 + 1 + 1, 2, none⟩) (by show w.heap.size ≤ w.heap.size + 1 + 1 + 1 + 1; omega) _
end Go.Proofs.Ytiehlnokidhgfaa

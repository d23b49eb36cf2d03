/- The walks of slices.MinFunc at routes, and of attr.Best. The best of some routes, plainly: it is one of them, none of them is better; so it hangs neither on the order nor on how often each is there. No program is walked here. A list of routes in memory of the call's own, each with its list in memory of the call's own. No program is walked here. -/
import Derived.Test.YtakolnmoieiicaaGreatAttrX
import Derived.Test.YtakolnmoieiicaaGreatBase
import Derived.Test.YtakolnmoieiicaaGreatRt
namespace Go.Proofs.YtakolnmoieiicaaGreat
set_option linter.unusedSimpArgs false
set_option linter.unusedVariables false
open Go.RowKit

section
/-- A route, and where its list lies. -/
abbrev RtZ := Rt × (Option Addr × Nat)
def rtZV (z : RtZ) : Value := rtV z.1 z.2.1 z.2.2
def rtCells (z : RtZ) : List Value := [.int .i64 z.1.kind, .int .i64 z.1.cost, .slice z.2.1 z.1.path.length z.2.2]
/-- A slice of routes reads out of memory below block B. -/
structure RtsR (w : World) (B : Nat) (L : List RtZ) (A : Option Addr) : Prop where
  row : Rd w B 3 A L.length (L.flatMap rtCells)
  each : ∀ z ∈ L, RtR w B z.1 z.2.1 z.2.2
theorem RtsR.below {w w' : World} {B C : Nat} {L : List RtZ} {A : Option Addr} (h : RtsR w B L A) (hb : Below C w w') (hC : B ≤ C) : RtsR w' B L A := ⟨h.row.below hb hC, fun z hz => (h.each z hz).below hb hC⟩
theorem RtsR.more {w : World} {B B' : Nat} {L : List RtZ} {A : Option Addr} (h : RtsR w B L A) (hB : B ≤ B') : RtsR w B' L A := ⟨h.row.more hB, fun z hz => (h.each z hz).more hB⟩
theorem RtsR.call {w w' : World} {L : List RtZ} {A : Option Addr} (h : RtsR w w.heap.size L A) (hb : Below w.heap.size w w') : RtsR w' w'.heap.size L A := (h.below hb (Nat.le_refl _)).more hb.size
theorem RtsR.alloc {w : World} {B : Nat} {L : List RtZ} {A : Option Addr} (h : RtsR w B L A) (hB : B ≤ w.heap.size) (o : Obj) : RtsR (w.alloc o) B L A := ⟨h.row.alloc hB o, fun z hz => (h.each z hz).alloc hB o⟩
theorem RtsR.at_ {w : World} {B i : Nat} {L : List RtZ} {A : Option Addr} {z : RtZ} (h : RtsR w B L A) (hi : L[i]? = some z) :
    ∃ b o, A = some ⟨b, o, none⟩ ∧ b < B ∧ w.cell? ⟨b, o + i * 3, none⟩ = some (.int .i64 z.1.kind) ∧ w.cell? ⟨b, o + i * 3 + 1, none⟩ = some (.int .i64 z.1.cost) ∧ w.cell? ⟨b, o + i * 3 + 2, none⟩ = some (.slice z.2.1 z.1.path.length z.2.2) := by
  obtain ⟨b, o, e, hb, hc⟩ := h.row.elem (f := rtCells) (fun _ => rfl) hi
  exact ⟨b, o, e, hb, hc 0 _ (by omega) rfl, hc 1 _ (by omega) rfl, hc 2 _ (by omega) rfl⟩
def pickB (m x : RtZ) : RtZ := if betterB x.1 m.1 then x else m
def bestStepR (m x : Rt) : Rt := if betterB x m then x else m
def bestR : List Rt → Rt
  | [] => rtNone
  | r :: l => l.foldl bestStepR r
theorem fold_fst : ∀ (L : List RtZ) (z : RtZ), (L.foldl pickB z).1 = (L.map (·.1)).foldl bestStepR z.1
  | [], _ => rfl
  | x :: L, z => by
    simp only [List.foldl_cons, List.map_cons]
    rw [fold_fst L]
    congr 1
    unfold pickB bestStepR
    split <;> rfl
theorem fold_mem : ∀ (L : List RtZ) (z : RtZ), L.foldl pickB z = z ∨ L.foldl pickB z ∈ L
  | [], _ => .inl rfl
  | x :: L, z => by
    simp only [List.foldl_cons]
    rcases fold_mem L (pickB z x) with h | h
    · rw [h]
      unfold pickB
      split
      · exact .inr (by simp)
      · exact .inl rfl
    · exact .inr (List.mem_cons_of_mem _ h)
/-- The current best of the first k, and the blocks of the walk. -/
structure MinW (w wr : World) (y : RtZ) : Prop where
  below : Below w.heap.size w wr
  size : w.heap.size + 2 ≤ wr.heap.size
  res : wr.heap[w.heap.size]? = some (.cells #[.int .i64 0, .int .i64 0, .slice none 0 0] 48 (0, 0))
  m : wr.heap[w.heap.size + 1]? = some (.cells #[.int .i64 y.1.kind, .int .i64 y.1.cost, .slice y.2.1 y.1.path.length y.2.2] 48 (0, 0))
section
variable {w wr w' : World} {y : RtZ}
theorem MinW.begin : MinW w ((w.alloc (.cells #[.int .i64 0, .int .i64 0, .slice none 0 0] 48)).alloc (.cells #[.int .i64 y.1.kind, .int .i64 y.1.cost, .slice y.2.1 y.1.path.length y.2.2] 48)) y where
  below := ((Below.refl _ _).alloc (Nat.le_refl _) _).alloc (by simp) _
  size := by simp
  res := (Below.heap_alloc _ _ _ (by simp)).trans (heap_alloc_new _ _)
  m := by have := heap_alloc_new (w.alloc (.cells #[.int .i64 0, .int .i64 0, .slice none 0 0] 48)) (.cells #[.int .i64 y.1.kind, .int .i64 y.1.cost, .slice y.2.1 y.1.path.length y.2.2] 48); simpa using this
theorem MinW.call (a : MinW w wr y) (hb : Below wr.heap.size wr w') : MinW w w' y :=
  ⟨a.below.trans (hb.mono (by have := a.size; omega)), Nat.le_trans a.size hb.size, (hb.block _ (by have := a.size; omega)).trans a.res, (hb.block _ (by have := a.size; omega)).trans a.m⟩
theorem MinW.at_ (a : MinW w wr y) : wr.cell? ⟨w.heap.size + 1, 0, none⟩ = some (.int .i64 y.1.kind) ∧ wr.cell? ⟨w.heap.size + 1, 1, none⟩ = some (.int .i64 y.1.cost) ∧ wr.cell? ⟨w.heap.size + 1, 2, none⟩ = some (.slice y.2.1 y.1.path.length y.2.2) :=
  ⟨cell_of_row wr _ 0 _ _ _ a.m, cell_of_row wr _ 1 _ _ _ a.m, cell_of_row wr _ 2 _ _ _ a.m⟩
theorem MinW.free (a : MinW w wr y) (i : Nat) : wr.frozen? ⟨w.heap.size + 1, i, none⟩ = false := frozen_of_row wr _ i _ _ a.m
theorem MinW.resAt (a : MinW w wr y) : wr.cell? ⟨w.heap.size, 0, none⟩ = some (.int .i64 0) ∧ wr.cell? ⟨w.heap.size, 1, none⟩ = some (.int .i64 0) ∧ wr.cell? ⟨w.heap.size, 2, none⟩ = some (.slice none 0 0) :=
  ⟨cell_of_row wr _ 0 _ _ _ a.res, cell_of_row wr _ 1 _ _ _ a.res, cell_of_row wr _ 2 _ _ _ a.res⟩
theorem MinW.resFree (a : MinW w wr y) (i : Nat) : wr.frozen? ⟨w.heap.size, i, none⟩ = false := frozen_of_row wr _ i _ _ a.res
theorem MinW.set (a : MinW w wr y) (x : RtZ) : MinW w (((wr.setCell ⟨w.heap.size + 1, 0, none⟩ (.int .i64 x.1.kind)).setCell ⟨w.heap.size + 1, 1, none⟩ (.int .i64 x.1.cost)).setCell ⟨w.heap.size + 1, 2, none⟩ (.slice x.2.1 x.1.path.length x.2.2)) x := by
  have h1 := heap_setCell_same wr (w.heap.size + 1) 0 _ _ (.int .i64 x.1.kind) a.m
  have h2 := heap_setCell_same _ (w.heap.size + 1) 1 _ _ (.int .i64 x.1.cost) h1
  have h3 := heap_setCell_same _ (w.heap.size + 1) 2 _ _ (.slice x.2.1 x.1.path.length x.2.2) h2
  refine ⟨((a.below.setCell (by simp) _).setCell (by simp) _).setCell (by simp) _, by simpa [World.setCell] using a.size, ?_, h3⟩
  exact (Below.heap_setCell _ _ _ _ (by simp)).trans ((Below.heap_setCell _ _ _ _ (by simp)).trans ((Below.heap_setCell _ _ _ _ (by simp)).trans a.res))
theorem MinW.answer (a : MinW w wr y) : Below w.heap.size w (((wr.setCell ⟨w.heap.size, 0, none⟩ (.int .i64 y.1.kind)).setCell ⟨w.heap.size, 1, none⟩ (.int .i64 y.1.cost)).setCell ⟨w.heap.size, 2, none⟩ (.slice y.2.1 y.1.path.length y.2.2)) :=
  ((a.below.setCell (by simp) _).setCell (by simp) _).setCell (by simp) _
end
def MinPost (z : RtZ) (L : List RtZ) (w : World) (e : Ending) (w' : World) : Prop := e = .returned (rtZV (L.foldl pickB z)) ∧ Below w.heap.size w w'

set_option maxRecDepth 100000 in
set_option maxHeartbeats 1000000 in
theorem minf_any (z : RtZ) (L : List RtZ) (A : Option Addr) (c : Nat) (w : World) (h : RtsR w w.heap.size (z :: L) A) (hl : L.length ≤ 1000) :
    Calls Tryz.prog 97 #[.slice A (L.length + 1) c, .func (.func 98) #[] #[]] w (MinPost z L w) := by
  obtain ⟨b, o, rfl, hb, h0, h1, h2⟩ := h.at_ (i := 0) rfl
  simp only [Nat.zero_mul, Nat.add_zero] at h0 h1 h2
  have HH := Lib.hid h
  clear h
  go_enter Tryz.func97, Tryz.ntmps97
  go_wp2_with fail
  go_loopw [6] (fun i wr => ∃ k : Nat, k ≤ L.length ∧ i = .int .i64 (k + 1 : Nat) ∧ MinW w wr ((L.take k).foldl pickB z)) (fun i _ => L.length + 1 - (intOf i).toNat)
  case atStart => exact ⟨0, Nat.zero_le _, rfl, MinW.begin⟩
  case round =>
    clear h0 h1 h2
    obtain ⟨k, hk, rfl, hM⟩ := hrel
    generalize hy : (L.take k).foldl pickB z = y at hM
    have HY := Lib.hid hy
    have hmem : y ∈ z :: L := by
      rcases fold_mem (L.take k) z with e | e
      · rw [← hy, e]; simp
      · rw [← hy]; exact List.mem_cons_of_mem _ (List.mem_of_mem_take e)
    have HM := Lib.hid hM
    have HMem := Lib.hid hmem
    clear hy hmem
    by_cases hlt : k < L.length
    · obtain ⟨x, hx⟩ : ∃ x, L[k]? = some x := ⟨_, List.getElem?_eq_getElem hlt⟩
      obtain ⟨b', o', e', _, g0, g1, g2⟩ := (HH.out.below hM.below (Nat.le_refl _)).at_ (i := k + 1) (z := x) (by simpa using hx)
      injection e' with e'
      injection e' with e1 e2
      subst e1 e2
      have HS := Lib.hid (show (L.take (k + 1)).foldl pickB z = pickB y x from by rw [List.take_add_one, hx]; simp [← HY.out])
      have HXm := Lib.hid (List.mem_of_getElem? hx)
      have HX := Lib.hid hx
      obtain ⟨m0, m1, m2⟩ := hM.at_
      have mf0 := hM.free 0
      have mf1 := hM.free 1
      have mf2 := hM.free 2
      have hsz := hM.size
      have hltz : (k : Int) + 1 < (L.length : Int) + 1 := by omega
      have hi0 : (0 : Int) ≤ (k : Int) + 1 := by omega
      have hin : ((k : Int) + 1).toNat = k + 1 := by omega
      have hRX := Lib.hid (((HH.out.each x (List.mem_cons_of_mem _ HXm.out)).below hM.below (Nat.le_refl _)).more (by omega : w.heap.size ≤ wr.heap.size))
      have hRY := Lib.hid (((HH.out.each y HMem.out).below hM.below (Nat.le_refl _)).more (by omega : w.heap.size ≤ wr.heap.size))
      clear hx hM
      go_wp2_with fail
      refine wp_region_still_tail 6 (by kernel_rfl) (by kernel_rfl) ?_
      change wpStill _ _ (World.drew _) _ _ _
      simp only [List.take_succ_cons, List.take_zero, List.drop_succ_cons, List.drop_zero]
      repeat still_step
      refine wpStill_nil ?_
      change wpList _ _ _ _ _ (World.drew _)
      have HMd := Lib.hid (HM.out.call (w' := wr.drew) ((Below.refl _ _).drew))
      go_wp2_with fail
      refine (compare_any x.1 y.1 _ _ _ _ wr.drew hRX.out hRY.out).mono ?_
      rintro e w1 ⟨rfl, hb1⟩
      have HM1 := HMd.out.call hb1
      obtain ⟨n0, n1, n2⟩ := HM1.at_
      have nf0 := HM1.free 0
      have nf1 := HM1.free 1
      have nf2 := HM1.free 2
      have hbb := (HH.out.below HM1.below (Nat.le_refl _))
      obtain ⟨_, _, e'', _, p0, p1, p2⟩ := hbb.at_ (i := k + 1) (z := x) (by simpa using HX.out)
      injection e'' with e''
      injection e'' with e1 e2
      subst e1 e2
      have HC := Lib.hid (cmpR_in x.1 y.1)
      have HM1 := Lib.hid HM1
      clear hbb hb1 m0 m1 m2 mf0 mf1 mf2 g0 g1 g2
      by_cases hc : cmpR x.1 y.1 < 0
      · have HP := Lib.hid (show pickB y x = x from by unfold pickB betterB; rw [if_pos (by simp; have := HC.out; omega)])
        have HS2 := Lib.hid (HM1.out.set x)
        go_wp2
        go_roundw
        case rel => exact ⟨k + 1, by omega, by go_num, by rw [HS.out, HP.out]; exact HS2.out⟩
        case measure => simp [intOf]; omega
      · have HP := Lib.hid (show pickB y x = y from by unfold pickB betterB; rw [if_neg (by simp; omega)])
        go_wp2
        go_roundw
        case rel => exact ⟨k + 1, by omega, by go_num, by rw [HS.out, HP.out]; exact HM1.out⟩
        case measure => simp [intOf]; omega
    · have hkl : k = L.length := by omega
      have hge : ((L.length : Nat) : Int) + 1 ≤ ((k + 1 : Nat) : Int) := by omega
      have HF := Lib.hid (show MinPost z L w (.returned (rtZV y)) (((wr.setCell ⟨w.heap.size, 0, none⟩ (.int .i64 y.1.kind)).setCell ⟨w.heap.size, 1, none⟩ (.int .i64 y.1.cost)).setCell ⟨w.heap.size, 2, none⟩ (.slice y.2.1 y.1.path.length y.2.2)) from
        ⟨by rw [← HY.out, hkl, List.take_length], HM.out.answer⟩)
      obtain ⟨m0, m1, m2⟩ := hM.at_
      obtain ⟨r0, r1, r2⟩ := hM.resAt
      have rf0 := hM.resFree 0
      have rf1 := hM.resFree 1
      have rf2 := hM.resFree 2
      clear hM hkl
      go_wp2
      exact bodyPost_ret (v := rtZV y) (by simp [results, Tryz.results97, go_sem, rtZV, rtV, m0, m1, m2, r0, r1, r2]) rfl HF.out
/-- What Best hands back: the best one, its list in memory of the call's own. -/
def BestPost (r : Rt) (w : World) (e : Ending) (w' : World) : Prop :=
  ∃ A c, e = .returned (rtV r A c) ∧ Own w' w.heap.size 3 1 A r.path.length c (ints r.path) ∧ (A = none ∨ ∃ g, A = some ⟨g, 0, none⟩) ∧ Below w.heap.size w w'
theorem results_best {w : World} {r : Rt} {A : Option Addr} {c : Nat} {b : Nat} {fr : Nat × Nat} (h : w.heap[b]? = some (.cells #[.int .i64 r.kind, .int .i64 r.cost, .slice A r.path.length c] 48 fr)) :
    w.cell? ⟨b, 0, none⟩ = some (.int .i64 r.kind) ∧ w.cell? ⟨b, 1, none⟩ = some (.int .i64 r.cost) ∧ w.cell? ⟨b, 2, none⟩ = some (.slice A r.path.length c) :=
  ⟨cell_of_row w _ 0 _ _ _ h, cell_of_row w _ 1 _ _ _ h, cell_of_row w _ 2 _ _ _ h⟩
/-- The answer's block: it holds some route. -/
structure OutW (w wr : World) (r : Rt) (A : Option Addr) (c : Nat) : Prop where
  below : Below w.heap.size w wr
  size : w.heap.size < wr.heap.size
  out : wr.heap[w.heap.size]? = some (.cells #[.int .i64 r.kind, .int .i64 r.cost, .slice A r.path.length c] 48 (0, 0))
theorem OutW.begin (w : World) : OutW w (w.alloc (.cells #[.int .i64 0, .int .i64 0, .slice none 0 0] 48)) rtNone none 0 :=
  ⟨(Below.refl _ _).alloc (Nat.le_refl _) _, by simp, heap_alloc_new _ _⟩
section
variable {w wr w' : World} {r x : Rt} {A A' : Option Addr} {c c' : Nat}
theorem OutW.call (a : OutW w wr r A c) (hb : Below wr.heap.size wr w') : OutW w w' r A c :=
  ⟨a.below.trans (hb.mono (by have := a.size; omega)), Nat.lt_of_lt_of_le a.size hb.size, (hb.block _ a.size).trans a.out⟩
theorem OutW.set (a : OutW w wr r A c) (x : Rt) (A' : Option Addr) (c' : Nat) : OutW w (((wr.setCell ⟨w.heap.size, 0, none⟩ (.int .i64 x.kind)).setCell ⟨w.heap.size, 1, none⟩ (.int .i64 x.cost)).setCell ⟨w.heap.size, 2, none⟩ (.slice A' x.path.length c')) x A' c' := by
  have h1 := heap_setCell_same wr w.heap.size 0 _ _ (.int .i64 x.kind) a.out
  have h2 := heap_setCell_same _ w.heap.size 1 _ _ (.int .i64 x.cost) h1
  have h3 := heap_setCell_same _ w.heap.size 2 _ _ (.slice A' x.path.length c') h2
  exact ⟨((a.below.setCell (by simp) _).setCell (by simp) _).setCell (by simp) _, by simpa [World.setCell] using a.size, h3⟩
theorem OutW.setP (a : OutW w wr r A c) (A' : Option Addr) (c' : Nat) : OutW w (wr.setCell ⟨w.heap.size, 2, none⟩ (.slice A' r.path.length c')) r A' c' :=
  ⟨a.below.setCell (by simp) _, by simpa [World.setCell] using a.size, heap_setCell_same wr w.heap.size 2 _ _ _ a.out⟩
theorem OutW.free (a : OutW w wr r A c) (i : Nat) : wr.frozen? ⟨w.heap.size, i, none⟩ = false := frozen_of_row wr _ i _ _ a.out
end
set_option maxRecDepth 100000 in
theorem best_any (L : List RtZ) (A : Option Addr) (c : Nat) (w : World) (h : RtsR w w.heap.size L A) (hl : L.length ≤ 1000) (hp : ∀ z ∈ L, z.1.path.length ≤ 1000000) :
    Calls Tryz.prog 76 #[.slice A L.length c] w (BestPost (bestR (L.map (·.1))) w) := by
  rcases L with _ | ⟨z, L⟩
  · have HF : Hid (BestPost (bestR ([] : List Rt)) w (.returned (rtV rtNone none 0)) (w.alloc (.cells #[.int .i64 0, .int .i64 0, .slice none 0 0] 48))) := Lib.hid ⟨none, 0, rfl, Own.nil _ _ _ _, .inl rfl, (Below.refl _ _).alloc (Nat.le_refl _) _⟩
    clear h hp
    go_enter Tryz.func76, Tryz.ntmps76
    go_wp2
    exact bodyPost_ret (v := rtV rtNone none 0) (by simp [results, Tryz.results76, go_sem, rtV, rtNone]) rfl HF.out
  · have HH := Lib.hid (fun o => (h.alloc (Nat.le_refl _) o).more (by simp : w.heap.size ≤ (w.alloc o).heap.size))
    have HO := Lib.hid (OutW.begin w)
    generalize hy : L.foldl pickB z = y
    have HY := Lib.hid hy
    have hmem : y ∈ z :: L := by
      rcases fold_mem L z with e | e
      · rw [← hy, e]; simp
      · rw [← hy]; exact List.mem_cons_of_mem _ e
    have HB := Lib.hid (show bestR ((z :: L).map (·.1)) = y.1 from by rw [← hy, fold_fst]; rfl)
    have HE := Lib.hid (h.each y hmem)
    have HL := Lib.hid (hp y hmem)
    simp only [List.length_cons] at hl ⊢
    have hl' : L.length ≤ 1000 := by omega
    clear h hy hmem hp
    go_enter Tryz.func76, Tryz.ntmps76
    go_wp2_with fail
    refine (minf_any z L A c _ (HH.out _) hl').mono ?_
    rintro e w1 ⟨rfl, hb1⟩
    rw [HY.out]
    have HO1 := HO.out.call hb1
    have HE1 := Lib.hid (HE.out.below HO1.below (Nat.le_refl _))
    have HO2 := Lib.hid (HO1.set y.1 y.2.1 y.2.2)
    obtain ⟨r0, r1, r2⟩ := results_best HO1.out
    have rf0 := HO1.free 0
    have rf1 := HO1.free 1
    have rf2 := HO1.free 2
    have hrd : Rd (((w1.setCell ⟨w.heap.size, 0, none⟩ (.int .i64 y.1.kind)).setCell ⟨w.heap.size, 1, none⟩ (.int .i64 y.1.cost)).setCell ⟨w.heap.size, 2, none⟩ (.slice y.2.1 y.1.path.length y.2.2)) w.heap.size 1 y.2.1 y.1.path.length (ints y.1.path) :=
      ((HE1.out.1.setCell (by simp) _).setCell (by simp) _).setCell (by simp) _
    have HR := Lib.hid hrd
    clear hrd hb1 HO1
    unfold rtZV rtV
    go_wp2_with fail
    refine (clone_any y.1.path y.2.1 y.2.2 _ _ HR.out HL.out).mono ?_
    rintro e w2 ⟨A2, c2, rfl, ho2, hA2, hb2⟩
    have HO3 := HO2.out.call hb2
    obtain ⟨q0, q1, q2⟩ := results_best HO3.out
    have qf2 := HO3.free 2
    have HF : Hid (BestPost (bestR ((z :: L).map (·.1))) w (.returned (rtV y.1 A2 c2)) (w2.setCell ⟨w.heap.size, 2, none⟩ (.slice A2 y.1.path.length c2))) := Lib.hid (by
      have hs := HO2.out.size
      rw [HB.out]
      exact ⟨A2, c2, rfl, (ho2.setCell_far (p := ⟨w.heap.size, 2, none⟩) (fun g hg => by have := ho2.from_ g hg; simp at this hs ⊢; omega) _).more (by simp at hs ⊢; omega), hA2, (HO3.setP A2 c2).below⟩)
    clear ho2 hA2 hb2 HO3
    go_wp2
    exact bodyPost_ret (v := rtV y.1 A2 c2) (by simp [results, Tryz.results76, go_sem, rtV, q0, q1, q2]) rfl HF.out
end

section
theorem ok_none : RtOk rtNone := ⟨.inl rfl, by simp [rtNone], by simp [rtNone], by simp [rtNone]⟩
theorem fold_best : ∀ (l : List Rt) (m : Rt), (∀ x ∈ m :: l, RtOk x) → l.foldl bestStepR m ∈ m :: l ∧ ∀ x ∈ m :: l, betterB x (l.foldl bestStepR m) = false
  | [], m, _ => ⟨by simp, by intro x hx; simp at hx; subst hx; exact betterB_self _⟩
  | y :: l, m, hok => by
    have hm := hok m (by simp)
    have hy := hok y (by simp)
    have hl : ∀ x ∈ bestStepR m y :: l, RtOk x := by
      intro x hx
      rcases List.mem_cons.1 hx with e | hx
      · rw [e]; unfold bestStepR; split
        · exact hy
        · exact hm
      · exact hok x (by simp [hx])
    obtain ⟨h1, h2⟩ := fold_best l (bestStepR m y) hl
    show l.foldl bestStepR (bestStepR m y) ∈ m :: y :: l ∧ ∀ x ∈ m :: y :: l, betterB x (l.foldl bestStepR (bestStepR m y)) = false
    generalize hf : l.foldl bestStepR (bestStepR m y) = f at *
    have hstep := h2 _ (List.mem_cons_self ..)
    have hfok : RtOk f := hl f h1
    have hboth : betterB m f = false ∧ betterB y f = false := by
      unfold bestStepR at hstep
      by_cases hb : betterB y m = true
      · rw [if_pos hb] at hstep
        refine ⟨?_, hstep⟩
        cases hmf : betterB m f with
        | false => rfl
        | true => rw [betterB_trans hb hmf] at hstep; cases hstep
      · rw [if_neg hb] at hstep
        refine ⟨hstep, ?_⟩
        cases hyf : betterB y f with
        | false => rfl
        | true =>
          by_cases e : f = m
          · rw [e] at hyf; exact absurd hyf hb
          · rcases betterB_total hfok hm e with h | h
            · exact absurd (betterB_trans hyf h) hb
            · rw [h] at hstep; cases hstep
    refine ⟨?_, ?_⟩
    · rcases List.mem_cons.1 h1 with e | h
      · rw [e]; unfold bestStepR; split <;> simp
      · simp [h]
    · intro x hx
      rcases List.mem_cons.1 hx with rfl | hx
      · exact hboth.1
      · rcases List.mem_cons.1 hx with rfl | hx
        · exact hboth.2
        · exact h2 x (List.mem_cons_of_mem _ hx)
theorem best_mem {l : List Rt} (hok : ∀ x ∈ l, RtOk x) (h : l ≠ []) : bestR l ∈ l := by
  cases l with
  | nil => exact absurd rfl h
  | cons m l => exact (fold_best l m hok).1
theorem best_min {l : List Rt} (hok : ∀ x ∈ l, RtOk x) : ∀ x ∈ l, betterB x (bestR l) = false := by
  cases l with
  | nil => intro x hx; cases hx
  | cons m l => exact (fold_best l m hok).2
theorem best_ok {l : List Rt} (hok : ∀ x ∈ l, RtOk x) : RtOk (bestR l) := by
  by_cases h : l = []
  · subst h; exact ok_none
  · exact hok _ (best_mem hok h)
theorem best_uniq {l : List Rt} (hok : ∀ x ∈ l, RtOk x) {f : Rt} (hf : f ∈ l) (h : ∀ x ∈ l, betterB x f = false) : f = bestR l := by
  have hne : l ≠ [] := by rintro rfl; cases hf
  by_cases e : f = bestR l
  · exact e
  · rcases betterB_total (hok f hf) (hok _ (best_mem hok hne)) e with h1 | h1
    · rw [best_min hok f hf] at h1; cases h1
    · rw [h _ (best_mem hok hne)] at h1; cases h1
/-- Neither on the order nor on how often each is there. -/
theorem best_same {l m : List Rt} (hok : ∀ x ∈ l, RtOk x) (h : ∀ x, x ∈ l ↔ x ∈ m) : bestR m = bestR l := by
  have hok' : ∀ x ∈ m, RtOk x := fun x hx => hok x ((h x).2 hx)
  by_cases hne : m = []
  · subst hne
    have : l = [] := by
      cases l with
      | nil => rfl
      | cons y l => exact absurd ((h y).1 (by simp)) (by simp)
    subst this; rfl
  · exact best_uniq hok ((h _).2 (best_mem hok' hne)) (fun x hx => best_min hok' x ((h x).1 hx))
/-- Best of some and of others is Best of all. -/
theorem best_parts {l m : List Rt} (hl : ∀ x ∈ l, RtOk x) (hm : ∀ x ∈ m, RtOk x) (h1 : l ≠ []) (h2 : m ≠ []) : bestR [bestR l, bestR m] = bestR (l ++ m) := by
  have hok : ∀ x ∈ l ++ m, RtOk x := fun x hx => (List.mem_append.1 hx).elim (hl x) (hm x)
  have hok2 : ∀ x ∈ [bestR l, bestR m], RtOk x := by
    intro x hx
    simp at hx
    rcases hx with rfl | rfl
    · exact best_ok hl
    · exact best_ok hm
  have hmem := best_mem hok2 (by simp)
  have hmin := best_min hok2
  generalize hf : bestR [bestR l, bestR m] = f at *
  have a1 := hmin (bestR l) (by simp)
  have a2 := hmin (bestR m) (by simp)
  have key : ∀ (k : List Rt), (∀ x ∈ k, RtOk x) → betterB (bestR k) f = false → RtOk f → k ≠ [] → ∀ x ∈ k, betterB x f = false := by
    intro k hk hb hfok hne x hx
    cases hxf : betterB x f with
    | false => rfl
    | true =>
      have hbx := best_min hk x hx
      by_cases e : x = bestR k
      · rw [e, hb] at hxf; cases hxf
      · rcases betterB_total (hk x hx) (best_ok hk) e with h | h
        · rw [hbx] at h; cases h
        · rw [betterB_trans h hxf] at hb; cases hb
  have hfok : RtOk f := hok2 f hmem
  refine best_uniq hok ?_ ?_
  · simp at hmem
    rcases hmem with rfl | rfl
    · exact List.mem_append_left _ (best_mem hl h1)
    · exact List.mem_append_right _ (best_mem hm h2)
  · intro x hx
    rcases List.mem_append.1 hx with hx | hx
    · exact key l hl a1 hfok h1 x hx
    · exact key m hm a2 hfok h2 x hx
end

section
theorem Own.keptN {w w' : World} {B s n c : Nat} {e : TypeId} {A : Option Addr} {xs : List Value} {row : Option Nat} (h : Own w B e s A n c xs) (hg : w.grownBy w' row) (hne : 0 < c → blk A ≠ row) : Own w' B e s A n c xs := by
  obtain ⟨h1, h2, h3, h4, hb, h5⟩ := h
  refine ⟨h1, h2, h3, h4, hb, fun hc => ?_⟩
  obtain ⟨g, off, cur, rfl, hh, r⟩ := h5 hc
  refine ⟨g, off, cur, rfl, ?_, r⟩
  rw [hg.block g (lt_heap hh) (by have := hne hc; simpa [blk] using this)]
  exact hh
theorem own_two {w : World} {B B' s s' n n' c c' : Nat} {e e' : TypeId} {A A' : Option Addr} {xs xs' : List Value} (h : Own w B e s A n c xs) (h' : Own w B' e' s' A' n' c' xs') (he : e ≠ e') (hz : c' = 0 → A' = none) : 0 < c → blk A ≠ blk A' := by
  intro hc hb
  obtain ⟨g, off, cur, rfl, hh, _⟩ := h.2.2.2.2.2 hc
  by_cases hc' : c' = 0
  · rw [hz hc'] at hb; simp [blk] at hb
  · obtain ⟨g', off', cur', rfl, hh', _⟩ := h'.2.2.2.2.2 (by omega)
    simp [blk] at hb
    subst hb
    rw [hh] at hh'
    injection hh' with hh'
    injection hh' with _ h2
    exact he h2
/-- The routes L lie at A, all of them in memory that w0 did not have. -/
structure LW (w0 wr : World) (L : List RtZ) (A : Option Addr) (c : Nat) : Prop where
  below : Below w0.heap.size w0 wr
  row : Own wr w0.heap.size 48 3 A L.length c (L.flatMap rtCells)
  za : c = 0 → A = none
  each : ∀ z ∈ L, OwnOr wr w0.heap.size z.2.1 z.2.2 z.1.path
section
variable {w0 wr w1 w2 w' : World} {L : List RtZ} {A : Option Addr} {c : Nat}
theorem LW.begin (hb : Below w0.heap.size w0 wr) : LW w0 wr [] none 0 := ⟨hb, Own.nil _ _ _ _, fun _ => rfl, by intro z hz; cases hz⟩
theorem LW.call (a : LW w0 wr L A c) (hb : Below wr.heap.size wr w') : LW w0 w' L A c :=
  ⟨a.below.trans (hb.mono a.below.size), a.row.call hb, a.za, fun z hz => (a.each z hz).call hb⟩
theorem LW.alloc (a : LW w0 wr L A c) (o : Obj) : LW w0 (wr.alloc o) L A c := a.call ((Below.refl _ _).alloc (Nat.le_refl _) o)
theorem LW.rts (a : LW w0 wr L A c) : RtsR wr wr.heap.size L A := ⟨a.row.rd, fun z hz => (a.each z hz).rt _ _⟩
/-- One more. -/
theorem LW.app (a : LW w0 wr L A c) {z : RtZ} {B : Nat} (hB : w0.heap.size ≤ B) (ho : OwnOr wr B z.2.1 z.2.2 z.1.path) {A2 : Option Addr} {n c2 : Nat} (hn : n = L.length + 1) (hg : wr.grownBy w2 (blk A)) (hown : Own w2 w0.heap.size 48 3 A2 n c2 (L.flatMap rtCells ++ rtCells z)) :
    LW w0 w2 (L ++ [z]) A2 c2 := by
  subst hn
  refine ⟨a.below.grown hg a.below.size (fun g h => a.row.from_ g h), ?_, ?_, ?_⟩
  · have e : (L ++ [z]).flatMap rtCells = L.flatMap rtCells ++ rtCells z := by simp
    rw [e]; simpa using hown
  · intro e; have := hown.2.1; omega
  · intro y hy
    rcases List.mem_append.1 hy with hy | hy
    · exact (a.each y hy).imp (fun h => h.keptN hg (own_two h a.row (by decide) a.za)) id
    · simp at hy; subst hy
      exact OwnOr.more (ho.imp (fun h => h.keptN hg (own_two h a.row (by decide) a.za)) id) hB
end
theorem flat_drop : ∀ (L : List RtZ) (k : Nat), (L.flatMap rtCells).drop (k * 3) = (L.drop k).flatMap rtCells
  | L, 0 => by simp
  | [], k + 1 => by simp
  | z :: L, k + 1 => by
    have e : (k + 1) * 3 = (rtCells z).length + k * 3 := by simp [rtCells]; omega
    rw [List.flatMap_cons, e, List.drop_append, List.drop_eq_nil_of_le (by omega)]
    simp only [List.nil_append, List.drop_succ_cons]
    rw [show (rtCells z).length + k * 3 - (rtCells z).length = k * 3 by omega]
    exact flat_drop L k
theorem flat_take : ∀ (L : List RtZ) (k : Nat), (L.flatMap rtCells).take (k * 3) = (L.take k).flatMap rtCells
  | L, 0 => by simp
  | [], k + 1 => by simp
  | z :: L, k + 1 => by
    have e : (k + 1) * 3 = (rtCells z).length + k * 3 := by simp [rtCells]; omega
    rw [List.flatMap_cons, e, List.take_append, List.take_of_length_le (by omega)]
    rw [show (rtCells z).length + k * 3 - (rtCells z).length = k * 3 by omega, flat_take L k]
    simp
/-- l[k:] reads. -/
theorem LW.dropRd {w0 wr : World} {L : List RtZ} {A : Option Addr} {c : Nat} (a : LW w0 wr L A c) {k : Nat} (hk : k ≤ L.length) : Rd wr wr.heap.size 3 (if c = k then A else A.map (·.add (k * 3))) (L.length - k) ((L.drop k).flatMap rtCells) := by
  have := (a.row.cut hk).rd
  rwa [flat_drop] at this
/-- l[:k] reads. -/
theorem LW.takeRd {w0 wr : World} {L : List RtZ} {A : Option Addr} {c : Nat} (a : LW w0 wr L A c) {k : Nat} (hk : k ≤ L.length) : Rd wr wr.heap.size 3 A k ((L.take k).flatMap rtCells) := by
  have h := a.row.rd
  refine ⟨by rw [flat_len (f := rtCells) (s := 3) (fun _ => rfl)]; simp; omega, fun h0 => ?_⟩
  obtain ⟨b, o, e, hb, hc⟩ := h.2 (by omega)
  refine ⟨b, o, e, hb, fun j u hj => hc j u ?_⟩
  rw [← flat_take] at hj
  rw [List.getElem?_take] at hj
  split at hj
  · exact hj
  · cases hj
theorem Tryz.info_rt : (Tryz.prog.info? 48).map (fun i => (i.zero, i.size, i.bytes)) = some (some (.agg #[.int .i64 0, .int .i64 0, .slice none 0 0]), 3, 40) := by kernel_rfl
end
end Go.Proofs.YtakolnmoieiicaaGreat

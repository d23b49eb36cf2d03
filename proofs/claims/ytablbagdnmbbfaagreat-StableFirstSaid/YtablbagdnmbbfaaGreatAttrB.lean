/- The walks of slices.MinFunc at routes, and of attr.Best. -/
import Derived.Test.YtablbagdnmbbfaaGreatAttrX
namespace Go.Proofs.YtablbagdnmbbfaaGreat
set_option linter.unusedSimpArgs false
set_option linter.unusedVariables false
open Go.RowKit

/-- A route, and where its list lies. -/
abbrev RtZ := Rt × (Option Addr × Nat)
def rtZV (z : RtZ) : Value := rtV z.1 z.2.1 z.2.2
def rtCells (z : RtZ) : List Value := [.int .i64 z.1.kind, .int .i64 z.1.cost, .slice z.2.1 z.1.path.length z.2.2]
/-- A slice of routes reads out of memory below block B. -/
structure RtsR (w : World) (B : Nat) (L : List RtZ) (A : Option Addr) : Prop where
  row : Rd w B 3 A L.length (L.flatMap rtCells)
  each : ∀ z ∈ L, RtR w B z.1 z.2.1 z.2.2
theorem RtsR.below {w w' : World} {B C : Nat} {L : List RtZ} {A : Option Addr} (h : RtsR w B L A) (hb : Below C w w') (hC : B ≤ C) : RtsR w' B L A := ⟨h.row.below hb hC, fun z hz => (h.each z hz).below hb hC⟩
theorem RtsR.more {w : World} {B B' : Nat} {L : List RtZ} {A : Option Addr} (h : RtsR w B L A) (hB : B ≤ B') : RtsR w B' L A := ⟨h.row.more hB, fun z hz => (h.each z hz).more hB⟩
theorem RtsR.call {w w' : World} {L : List RtZ} {A : Option Addr} (h : RtsR w w.heap.size L A) (hb : Below w.heap.size w w') : RtsR w' w'.heap.size L A := (h.below hb (Nat.le_refl _)).more hb.size
theorem RtsR.alloc {w : World} {B : Nat} {L : List RtZ} {A : Option Addr} (h : RtsR w B L A) (hB : B ≤ w.heap.size) (o : Obj) : RtsR (w.alloc o) B L A := ⟨h.row.alloc hB o, fun z hz => (h.each z hz).alloc hB o⟩
theorem RtsR.at_ {w : World} {B i : Nat} {L : List RtZ} {A : Option Addr} {z : RtZ} (h : RtsR w B L A) (hi : L[i]? = some z) :
    ∃ b o, A = some ⟨b, o, none⟩ ∧ b < B ∧ w.cell? ⟨b, o + i * 3, none⟩ = some (.int .i64 z.1.kind) ∧ w.cell? ⟨b, o + i * 3 + 1, none⟩ = some (.int .i64 z.1.cost) ∧ w.cell? ⟨b, o + i * 3 + 2, none⟩ = some (.slice z.2.1 z.1.path.length z.2.2) := by
  obtain ⟨b, o, e, hb, hc⟩ := h.row.elem (f := rtCells) (fun _ => rfl) hi
  exact ⟨b, o, e, hb, hc 0 _ (by omega) rfl, hc 1 _ (by omega) rfl, hc 2 _ (by omega) rfl⟩
def pickB (m x : RtZ) : RtZ := if betterB x.1 m.1 then x else m
def bestStepR (m x : Rt) : Rt := if betterB x m then x else m
def bestR : List Rt → Rt
  | [] => rtNone
  | r :: l => l.foldl bestStepR r
theorem fold_fst : ∀ (L : List RtZ) (z : RtZ), (L.foldl pickB z).1 = (L.map (·.1)).foldl bestStepR z.1
  | [], _ => rfl
  | x :: L, z => by
    simp only [List.foldl_cons, List.map_cons]
    rw [fold_fst L]
    congr 1
    unfold pickB bestStepR
    split <;> rfl
theorem fold_mem : ∀ (L : List RtZ) (z : RtZ), L.foldl pickB z = z ∨ L.foldl pickB z ∈ L
  | [], _ => .inl rfl
  | x :: L, z => by
    simp only [List.foldl_cons]
    rcases fold_mem L (pickB z x) with h | h
    · rw [h]
      unfold pickB
      split
      · exact .inr (by simp)
      · exact .inl rfl
    · exact .inr (List.mem_cons_of_mem _ h)
/-- The current best of the first k, and the blocks of the walk. -/
structure MinW (w wr : World) (y : RtZ) : Prop where
  below : Below w.heap.size w wr
  size : w.heap.size + 2 ≤ wr.heap.size
  res : wr.heap[w.heap.size]? = some (.cells #[.int .i64 0, .int .i64 0, .slice none 0 0] 53 (0, 0))
  m : wr.heap[w.heap.size + 1]? = some (.cells #[.int .i64 y.1.kind, .int .i64 y.1.cost, .slice y.2.1 y.1.path.length y.2.2] 53 (0, 0))
section
variable {w wr w' : World} {y : RtZ}
theorem MinW.begin : MinW w ((w.alloc (.cells #[.int .i64 0, .int .i64 0, .slice none 0 0] 53)).alloc (.cells #[.int .i64 y.1.kind, .int .i64 y.1.cost, .slice y.2.1 y.1.path.length y.2.2] 53)) y where
  below := ((Below.refl _ _).alloc (Nat.le_refl _) _).alloc (by simp) _
  size := by simp
  res := (Below.heap_alloc _ _ _ (by simp)).trans (heap_alloc_new _ _)
  m := by have := heap_alloc_new (w.alloc (.cells #[.int .i64 0, .int .i64 0, .slice none 0 0] 53)) (.cells #[.int .i64 y.1.kind, .int .i64 y.1.cost, .slice y.2.1 y.1.path.length y.2.2] 53); simpa using this
theorem MinW.call (a : MinW w wr y) (hb : Below wr.heap.size wr w') : MinW w w' y :=
  ⟨a.below.trans (hb.mono (by have := a.size; omega)), Nat.le_trans a.size hb.size, (hb.block _ (by have := a.size; omega)).trans a.res, (hb.block _ (by have := a.size; omega)).trans a.m⟩
theorem MinW.at_ (a : MinW w wr y) : wr.cell? ⟨w.heap.size + 1, 0, none⟩ = some (.int .i64 y.1.kind) ∧ wr.cell? ⟨w.heap.size + 1, 1, none⟩ = some (.int .i64 y.1.cost) ∧ wr.cell? ⟨w.heap.size + 1, 2, none⟩ = some (.slice y.2.1 y.1.path.length y.2.2) :=
  ⟨cell_of_row wr _ 0 _ _ _ a.m, cell_of_row wr _ 1 _ _ _ a.m, cell_of_row wr _ 2 _ _ _ a.m⟩
theorem MinW.free (a : MinW w wr y) (i : Nat) : wr.frozen? ⟨w.heap.size + 1, i, none⟩ = false := frozen_of_row wr _ i _ _ a.m
theorem MinW.resAt (a : MinW w wr y) : wr.cell? ⟨w.heap.size, 0, none⟩ = some (.int .i64 0) ∧ wr.cell? ⟨w.heap.size, 1, none⟩ = some (.int .i64 0) ∧ wr.cell? ⟨w.heap.size, 2, none⟩ = some (.slice none 0 0) :=
  ⟨cell_of_row wr _ 0 _ _ _ a.res, cell_of_row wr _ 1 _ _ _ a.res, cell_of_row wr _ 2 _ _ _ a.res⟩
theorem MinW.resFree (a : MinW w wr y) (i : Nat) : wr.frozen? ⟨w.heap.size, i, none⟩ = false := frozen_of_row wr _ i _ _ a.res
theorem MinW.set (a : MinW w wr y) (x : RtZ) : MinW w (((wr.setCell ⟨w.heap.size + 1, 0, none⟩ (.int .i64 x.1.kind)).setCell ⟨w.heap.size + 1, 1, none⟩ (.int .i64 x.1.cost)).setCell ⟨w.heap.size + 1, 2, none⟩ (.slice x.2.1 x.1.path.length x.2.2)) x := by
  have h1 := heap_setCell_same wr (w.heap.size + 1) 0 _ _ (.int .i64 x.1.kind) a.m
  have h2 := heap_setCell_same _ (w.heap.size + 1) 1 _ _ (.int .i64 x.1.cost) h1
  have h3 := heap_setCell_same _ (w.heap.size + 1) 2 _ _ (.slice x.2.1 x.1.path.length x.2.2) h2
  refine ⟨((a.below.setCell (by simp) _).setCell (by simp) _).setCell (by simp) _, by simpa [World.setCell] using a.size, ?_, h3⟩
  exact (Below.heap_setCell _ _ _ _ (by simp)).trans ((Below.heap_setCell _ _ _ _ (by simp)).trans ((Below.heap_setCell _ _ _ _ (by simp)).trans a.res))
theorem MinW.answer (a : MinW w wr y) : Below w.heap.size w (((wr.setCell ⟨w.heap.size, 0, none⟩ (.int .i64 y.1.kind)).setCell ⟨w.heap.size, 1, none⟩ (.int .i64 y.1.cost)).setCell ⟨w.heap.size, 2, none⟩ (.slice y.2.1 y.1.path.length y.2.2)) :=
  ((a.below.setCell (by simp) _).setCell (by simp) _).setCell (by simp) _
end
def MinPost (z : RtZ) (L : List RtZ) (w : World) (e : Ending) (w' : World) : Prop := e = .returned (rtZV (L.foldl pickB z)) ∧ Below w.heap.size w w'

set_option maxRecDepth 100000 in
set_option maxHeartbeats 1000000 in
theorem minf_any (z : RtZ) (L : List RtZ) (A : Option Addr) (c : Nat) (w : World) (h : RtsR w w.heap.size (z :: L) A) (hl : L.length ≤ 1000) :
    Calls Tryz.prog 105 #[.slice A (L.length + 1) c, .func (.func 45) #[] #[]] w (MinPost z L w) := by
  obtain ⟨b, o, rfl, hb, h0, h1, h2⟩ := h.at_ (i := 0) rfl
  simp only [Nat.zero_mul, Nat.add_zero] at h0 h1 h2
  have HH := Lib.hid h
  clear h
  go_enter Tryz.func105, Tryz.ntmps105
  go_wp2_with fail
  go_loopw [6] (fun i wr => ∃ k : Nat, k ≤ L.length ∧ i = .int .i64 (k + 1 : Nat) ∧ MinW w wr ((L.take k).foldl pickB z)) (fun i _ => L.length + 1 - (intOf i).toNat)
  case atStart => exact ⟨0, Nat.zero_le _, rfl, MinW.begin⟩
  case round =>
    clear h0 h1 h2
    obtain ⟨k, hk, rfl, hM⟩ := hrel
    generalize hy : (L.take k).foldl pickB z = y at hM
    have HY := Lib.hid hy
    have hmem : y ∈ z :: L := by
      rcases fold_mem (L.take k) z with e | e
      · rw [← hy, e]; simp
      · rw [← hy]; exact List.mem_cons_of_mem _ (List.mem_of_mem_take e)
    have HM := Lib.hid hM
    have HMem := Lib.hid hmem
    clear hy hmem
    by_cases hlt : k < L.length
    · obtain ⟨x, hx⟩ : ∃ x, L[k]? = some x := ⟨_, List.getElem?_eq_getElem hlt⟩
      obtain ⟨b', o', e', _, g0, g1, g2⟩ := (HH.out.below hM.below (Nat.le_refl _)).at_ (i := k + 1) (z := x) (by simpa using hx)
      injection e' with e'
      injection e' with e1 e2
      subst e1 e2
      have HS := Lib.hid (show (L.take (k + 1)).foldl pickB z = pickB y x from by rw [List.take_add_one, hx]; simp [← HY.out])
      have HXm := Lib.hid (List.mem_of_getElem? hx)
      have HX := Lib.hid hx
      obtain ⟨m0, m1, m2⟩ := hM.at_
      have mf0 := hM.free 0
      have mf1 := hM.free 1
      have mf2 := hM.free 2
      have hsz := hM.size
      have hltz : (k : Int) + 1 < (L.length : Int) + 1 := by omega
      have hi0 : (0 : Int) ≤ (k : Int) + 1 := by omega
      have hin : ((k : Int) + 1).toNat = k + 1 := by omega
      have hRX := Lib.hid (((HH.out.each x (List.mem_cons_of_mem _ HXm.out)).below hM.below (Nat.le_refl _)).more (by omega : w.heap.size ≤ wr.heap.size))
      have hRY := Lib.hid (((HH.out.each y HMem.out).below hM.below (Nat.le_refl _)).more (by omega : w.heap.size ≤ wr.heap.size))
      clear hx hM
      go_wp2_with fail
      refine wp_region_still_tail 6 (by kernel_rfl) (by kernel_rfl) ?_
      change wpStill _ _ (World.drew _) _ _ _
      simp only [List.take_succ_cons, List.take_zero, List.drop_succ_cons, List.drop_zero]
      repeat still_step
      refine wpStill_nil ?_
      change wpList _ _ _ _ _ (World.drew _)
      have HMd := Lib.hid (HM.out.call (w' := wr.drew) ((Below.refl _ _).drew))
      go_wp2_with fail
      refine (compare_any x.1 y.1 _ _ _ _ wr.drew hRX.out hRY.out).mono ?_
      rintro e w1 ⟨rfl, hb1⟩
      have HM1 := HMd.out.call hb1
      obtain ⟨n0, n1, n2⟩ := HM1.at_
      have nf0 := HM1.free 0
      have nf1 := HM1.free 1
      have nf2 := HM1.free 2
      have hbb := (HH.out.below HM1.below (Nat.le_refl _))
      obtain ⟨_, _, e'', _, p0, p1, p2⟩ := hbb.at_ (i := k + 1) (z := x) (by simpa using HX.out)
      injection e'' with e''
      injection e'' with e1 e2
      subst e1 e2
      have HC := Lib.hid (cmpR_in x.1 y.1)
      have HM1 := Lib.hid HM1
      clear hbb hb1 m0 m1 m2 mf0 mf1 mf2 g0 g1 g2
      by_cases hc : cmpR x.1 y.1 < 0
      · have HP := Lib.hid (show pickB y x = x from by unfold pickB betterB; rw [if_pos (by simp; have := HC.out; omega)])
        have HS2 := Lib.hid (HM1.out.set x)
        go_wp2
        go_roundw
        case rel => exact ⟨k + 1, by omega, by go_num, by rw [HS.out, HP.out]; exact HS2.out⟩
        case measure => simp [intOf]; omega
      · have HP := Lib.hid (show pickB y x = y from by unfold pickB betterB; rw [if_neg (by simp; omega)])
        go_wp2
        go_roundw
        case rel => exact ⟨k + 1, by omega, by go_num, by rw [HS.out, HP.out]; exact HM1.out⟩
        case measure => simp [intOf]; omega
    · have hkl : k = L.length := by omega
      have hge : ((L.length : Nat) : Int) + 1 ≤ ((k + 1 : Nat) : Int) := by omega
      have HF := Lib.hid (show MinPost z L w (.returned (rtZV y)) (((wr.setCell ⟨w.heap.size, 0, none⟩ (.int .i64 y.1.kind)).setCell ⟨w.heap.size, 1, none⟩ (.int .i64 y.1.cost)).setCell ⟨w.heap.size, 2, none⟩ (.slice y.2.1 y.1.path.length y.2.2)) from
        ⟨by rw [← HY.out, hkl, List.take_length], HM.out.answer⟩)
      obtain ⟨m0, m1, m2⟩ := hM.at_
      obtain ⟨r0, r1, r2⟩ := hM.resAt
      have rf0 := hM.resFree 0
      have rf1 := hM.resFree 1
      have rf2 := hM.resFree 2
      clear hM hkl
      go_wp2
      exact bodyPost_ret (v := rtZV y) (by simp [results, Tryz.results105, go_sem, rtZV, rtV, m0, m1, m2, r0, r1, r2]) rfl HF.out
/-- What Best hands back: the best one, its list in memory of the call's own. -/
def BestPost (r : Rt) (w : World) (e : Ending) (w' : World) : Prop :=
  ∃ A c, e = .returned (rtV r A c) ∧ Own w' w.heap.size 3 1 A r.path.length c (ints r.path) ∧ (A = none ∨ ∃ g, A = some ⟨g, 0, none⟩) ∧ Below w.heap.size w w'
theorem results_best {w : World} {r : Rt} {A : Option Addr} {c : Nat} {b : Nat} {fr : Nat × Nat} (h : w.heap[b]? = some (.cells #[.int .i64 r.kind, .int .i64 r.cost, .slice A r.path.length c] 53 fr)) :
    w.cell? ⟨b, 0, none⟩ = some (.int .i64 r.kind) ∧ w.cell? ⟨b, 1, none⟩ = some (.int .i64 r.cost) ∧ w.cell? ⟨b, 2, none⟩ = some (.slice A r.path.length c) :=
  ⟨cell_of_row w _ 0 _ _ _ h, cell_of_row w _ 1 _ _ _ h, cell_of_row w _ 2 _ _ _ h⟩
/-- The answer's block: it holds some route. -/
structure OutW (w wr : World) (r : Rt) (A : Option Addr) (c : Nat) : Prop where
  below : Below w.heap.size w wr
  size : w.heap.size < wr.heap.size
  out : wr.heap[w.heap.size]? = some (.cells #[.int .i64 r.kind, .int .i64 r.cost, .slice A r.path.length c] 53 (0, 0))
theorem OutW.begin (w : World) : OutW w (w.alloc (.cells #[.int .i64 0, .int .i64 0, .slice none 0 0] 53)) rtNone none 0 :=
  ⟨(Below.refl _ _).alloc (Nat.le_refl _) _, by simp, heap_alloc_new _ _⟩
section
variable {w wr w' : World} {r x : Rt} {A A' : Option Addr} {c c' : Nat}
theorem OutW.call (a : OutW w wr r A c) (hb : Below wr.heap.size wr w') : OutW w w' r A c :=
  ⟨a.below.trans (hb.mono (by have := a.size; omega)), Nat.lt_of_lt_of_le a.size hb.size, (hb.block _ a.size).trans a.out⟩
theorem OutW.set (a : OutW w wr r A c) (x : Rt) (A' : Option Addr) (c' : Nat) : OutW w (((wr.setCell ⟨w.heap.size, 0, none⟩ (.int .i64 x.kind)).setCell ⟨w.heap.size, 1, none⟩ (.int .i64 x.cost)).setCell ⟨w.heap.size, 2, none⟩ (.slice A' x.path.length c')) x A' c' := by
  have h1 := heap_setCell_same wr w.heap.size 0 _ _ (.int .i64 x.kind) a.out
  have h2 := heap_setCell_same _ w.heap.size 1 _ _ (.int .i64 x.cost) h1
  have h3 := heap_setCell_same _ w.heap.size 2 _ _ (.slice A' x.path.length c') h2
  exact ⟨((a.below.setCell (by simp) _).setCell (by simp) _).setCell (by simp) _, by simpa [World.setCell] using a.size, h3⟩
theorem OutW.setP (a : OutW w wr r A c) (A' : Option Addr) (c' : Nat) : OutW w (wr.setCell ⟨w.heap.size, 2, none⟩ (.slice A' r.path.length c')) r A' c' :=
  ⟨a.below.setCell (by simp) _, by simpa [World.setCell] using a.size, heap_setCell_same wr w.heap.size 2 _ _ _ a.out⟩
theorem OutW.free (a : OutW w wr r A c) (i : Nat) : wr.frozen? ⟨w.heap.size, i, none⟩ = false := frozen_of_row wr _ i _ _ a.out
end
set_option maxRecDepth 100000 in
theorem best_any (L : List RtZ) (A : Option Addr) (c : Nat) (w : World) (h : RtsR w w.heap.size L A) (hl : L.length ≤ 1000) (hp : ∀ z ∈ L, z.1.path.length ≤ 1000000) :
    Calls Tryz.prog 77 #[.slice A L.length c] w (BestPost (bestR (L.map (·.1))) w) := by
  rcases L with _ | ⟨z, L⟩
  · have HF : Hid (BestPost (bestR ([] : List Rt)) w (.returned (rtV rtNone none 0)) (w.alloc (.cells #[.int .i64 0, .int .i64 0, .slice none 0 0] 53))) := Lib.hid ⟨none, 0, rfl, Own.nil _ _ _ _, .inl rfl, (Below.refl _ _).alloc (Nat.le_refl _) _⟩
    clear h hp
    go_enter Tryz.func77, Tryz.ntmps77
    go_wp2
    exact bodyPost_ret (v := rtV rtNone none 0) (by simp [results, Tryz.results77, go_sem, rtV, rtNone]) rfl HF.out
  · have HH := Lib.hid (fun o => (h.alloc (Nat.le_refl _) o).more (by simp : w.heap.size ≤ (w.alloc o).heap.size))
    have HO := Lib.hid (OutW.begin w)
    generalize hy : L.foldl pickB z = y
    have HY := Lib.hid hy
    have hmem : y ∈ z :: L := by
      rcases fold_mem L z with e | e
      · rw [← hy, e]; simp
      · rw [← hy]; exact List.mem_cons_of_mem _ e
    have HB := Lib.hid (show bestR ((z :: L).map (·.1)) = y.1 from by rw [← hy, fold_fst]; rfl)
    have HE := Lib.hid (h.each y hmem)
    have HL := Lib.hid (hp y hmem)
    simp only [List.length_cons] at hl ⊢
    have hl' : L.length ≤ 1000 := by omega
    clear h hy hmem hp
    go_enter Tryz.func77, Tryz.ntmps77
    go_wp2_with fail
    refine (minf_any z L A c _ (HH.out _) hl').mono ?_
    rintro e w1 ⟨rfl, hb1⟩
    rw [HY.out]
    have HO1 := HO.out.call hb1
    have HE1 := Lib.hid (HE.out.below HO1.below (Nat.le_refl _))
    have HO2 := Lib.hid (HO1.set y.1 y.2.1 y.2.2)
    obtain ⟨r0, r1, r2⟩ := results_best HO1.out
    have rf0 := HO1.free 0
    have rf1 := HO1.free 1
    have rf2 := HO1.free 2
    have hrd : Rd (((w1.setCell ⟨w.heap.size, 0, none⟩ (.int .i64 y.1.kind)).setCell ⟨w.heap.size, 1, none⟩ (.int .i64 y.1.cost)).setCell ⟨w.heap.size, 2, none⟩ (.slice y.2.1 y.1.path.length y.2.2)) w.heap.size 1 y.2.1 y.1.path.length (ints y.1.path) :=
      ((HE1.out.1.setCell (by simp) _).setCell (by simp) _).setCell (by simp) _
    have HR := Lib.hid hrd
    clear hrd hb1 HO1
    unfold rtZV rtV
    go_wp2_with fail
    refine (clone_any y.1.path y.2.1 y.2.2 _ _ HR.out HL.out).mono ?_
    rintro e w2 ⟨A2, c2, rfl, ho2, hA2, hb2⟩
    have HO3 := HO2.out.call hb2
    obtain ⟨q0, q1, q2⟩ := results_best HO3.out
    have qf2 := HO3.free 2
    have HF : Hid (BestPost (bestR ((z :: L).map (·.1))) w (.returned (rtV y.1 A2 c2)) (w2.setCell ⟨w.heap.size, 2, none⟩ (.slice A2 y.1.path.length c2))) := Lib.hid (by
      have hs := HO2.out.size
      rw [HB.out]
      exact ⟨A2, c2, rfl, (ho2.setCell_far (p := ⟨w.heap.size, 2, none⟩) (fun g hg => by have := ho2.from_ g hg; simp at this hs ⊢; omega) _).more (by simp at hs ⊢; omega), hA2, (HO3.setP A2 c2).below⟩)
    clear ho2 hA2 hb2 HO3
    go_wp2
    exact bodyPost_ret (v := rtV y.1 A2 c2) (by simp [results, Tryz.results77, go_sem, rtV, q0, q1, q2]) rfl HF.out
end Go.Proofs.YtablbagdnmbbfaaGreat

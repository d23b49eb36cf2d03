/- The walk of backstaylaw06.Route: a route out of raw numbers. -/
import Derived.Test.YtablbagdnmbbfaaGreatAttrX
namespace Go.Proofs.YtablbagdnmbbfaaGreat
set_option linter.unusedSimpArgs false
set_option linter.unusedVariables false
open Go.RowKit

/-! ### Plainly -/
def numOf (x : Int) : Int := if 1000 < x then 1 + pickV x 65535 else 1 + pickV x 9
def stepP (acc : List Int) (x : Int) : List Int := if acc.length < 12 then (if numOf x ∈ acc then acc else acc ++ [numOf x]) else acc
def pathOf (raw : List Int) : List Int := (raw.drop 1).foldl stepP []
def routeR (raw : List Int) : Rt :=
  match raw with
  | [] => rtNone
  | x :: r => if pickV x 4 = 0 then rtNone else if pickV x 4 = 1 then ⟨1, (match r with | [] => 0 | y :: _ => pickV y 16), []⟩ else ⟨2, 0, pathOf raw⟩
theorem numOf_in (x : Int) : 1 ≤ numOf x ∧ numOf x ≤ 65535 := by
  unfold numOf
  have h1 := pickV_in (c := x) (n := 65535) (by omega)
  have h2 := pickV_in (c := x) (n := 9) (by omega)
  split <;> omega
/-- A path that may be. -/
def PathOk (l : List Int) : Prop := l.length ≤ 12 ∧ l.Nodup ∧ ∀ x ∈ l, 1 ≤ x ∧ x ≤ 65535
theorem PathOk.step {l : List Int} (h : PathOk l) (x : Int) : PathOk (stepP l x) := by
  obtain ⟨h1, h2, h3⟩ := h
  unfold stepP
  split
  · split
    · exact ⟨h1, h2, h3⟩
    · rename_i hl hm
      refine ⟨by simp; omega, ?_, ?_⟩
      · rw [List.nodup_append]
        refine ⟨h2, by simp, ?_⟩
        intro a ha b hb
        simp at hb
        subst hb
        rintro rfl
        exact hm ha
      · intro y hy
        rcases List.mem_append.1 hy with hy | hy
        · exact h3 y hy
        · simp at hy; subst hy; exact numOf_in x
  · exact ⟨h1, h2, h3⟩
theorem pathOk_fold : ∀ (r l : List Int), PathOk l → PathOk (r.foldl stepP l)
  | [], _, h => h
  | x :: r, l, h => pathOk_fold r _ (h.step x)
theorem pathOf_ok (raw : List Int) : PathOk (pathOf raw) := pathOk_fold _ _ ⟨by simp, by simp, by simp⟩
theorem PathOk.listB {l : List Int} (h : PathOk l) : listB l = true := by
  unfold YtablbagdnmbbfaaGreat.listB
  have h3 : l.any badNum = false := by
    rw [List.any_eq_false]
    intro x hx
    have := h.2.2 x hx
    simp [badNum]; omega
  rw [h3]; simp [h.1, h.2.1]
theorem stop_fold : ∀ (r l : List Int), ¬ l.length < 12 → r.foldl stepP l = l
  | [], _, _ => rfl
  | x :: r, l, h => by
    simp only [List.foldl_cons]
    have : stepP l x = l := by unfold stepP; rw [if_neg h]
    rw [this]; exact stop_fold r l h
/-- What Route hands back may be. -/
structure RtOk (r : Rt) : Prop where
  kind : r.kind = 0 ∨ r.kind = 1 ∨ r.kind = 2
  k0 : r.kind = 0 → r = rtNone
  k1 : r.kind = 1 → 0 ≤ r.cost ∧ r.cost ≤ 15 ∧ r.path = []
  k2 : r.kind = 2 → r.cost = 0 ∧ PathOk r.path
theorem RtOk.right {r : Rt} (h : RtOk r) : rtRightB r = true := by
  rcases h.kind with e | e | e
  · rw [h.k0 e]; rfl
  · have := h.k1 e
    simp [rtRightB, e, this]
  · have := h.k2 e
    simp [rtRightB, e, this.1, this.2.listB]
theorem routeR_ok (raw : List Int) : RtOk (routeR raw) := by
  unfold routeR
  split
  · exact ⟨.inl rfl, (fun _ => rfl), (fun h => by cases h), (fun h => by cases h)⟩
  · rename_i x r
    split
    · exact ⟨.inl rfl, (fun _ => rfl), (fun h => by cases h), (fun h => by cases h)⟩
    · split
      · refine ⟨.inr (.inl rfl), (fun h => by simp at h), (fun _ => ⟨?_, ?_, rfl⟩), (fun h => by simp at h)⟩
        · dsimp only
          split
          · exact Int.le_refl _
          · exact (pickV_in (by omega)).1
        · dsimp only
          split
          · omega
          · rename_i y _ _
            have := (pickV_in (c := y) (n := 16) (by omega)).2
            omega
      · exact ⟨.inr (.inr rfl), (fun h => by simp at h), (fun h => by simp at h), (fun _ => ⟨rfl, pathOf_ok _⟩)⟩

/-! ### The walk -/
/-- The blocks of the walk: the answer's, and the route's that is being made. -/
structure RouteW (w wr : World) (l : List Int) (A : Option Addr) (c : Nat) : Prop where
  below : Below w.heap.size w wr
  size : w.heap.size + 2 ≤ wr.heap.size
  res : wr.heap[w.heap.size]? = some (.cells #[.int .i64 0, .int .i64 0, .slice none 0 0] 53 (0, 0))
  r : wr.heap[w.heap.size + 1]? = some (.cells #[.int .i64 2, .int .i64 0, .slice A l.length c] 53 (0, 0))
  own : Own wr (w.heap.size + 2) 3 1 A l.length c (ints l)
section
variable {w wr w' w2 : World} {l : List Int} {A : Option Addr} {c : Nat}
theorem RouteW.begin (w : World) : RouteW w ((w.alloc (.cells #[.int .i64 0, .int .i64 0, .slice none 0 0] 53)).alloc (.cells #[.int .i64 2, .int .i64 0, .slice none 0 0] 53)) [] none 0 where
  below := ((Below.refl _ _).alloc (Nat.le_refl _) _).alloc (by simp) _
  size := by simp
  res := (Below.heap_alloc _ _ _ (by simp)).trans (heap_alloc_new _ _)
  r := by have := heap_alloc_new (w.alloc (.cells #[.int .i64 0, .int .i64 0, .slice none 0 0] 53)) (.cells #[.int .i64 2, .int .i64 0, .slice none 0 0] 53); simpa using this
  own := Own.nil _ _ _ _
theorem RouteW.alloc (a : RouteW w wr l A c) (o : Obj) : RouteW w (wr.alloc o) l A c :=
  ⟨a.below.alloc (by have := a.size; omega) o, by have := a.size; simp; omega, (Below.heap_alloc _ _ _ (by have := a.size; omega)).trans a.res, (Below.heap_alloc _ _ _ (by have := a.size; omega)).trans a.r, a.own.alloc o⟩
theorem RouteW.at2 (a : RouteW w wr l A c) : wr.cell? ⟨w.heap.size + 1, 2, none⟩ = some (.slice A l.length c) := cell_of_row wr _ 2 _ _ _ a.r
theorem RouteW.free (a : RouteW w wr l A c) (i : Nat) : wr.frozen? ⟨w.heap.size + 1, i, none⟩ = false := frozen_of_row wr _ i _ _ a.r
theorem RouteW.grow (a : RouteW w wr l A c) (hg : wr.grownBy w2 (blk A)) : w2.heap[w.heap.size]? = some (.cells #[.int .i64 0, .int .i64 0, .slice none 0 0] 53 (0, 0)) ∧ w2.heap[w.heap.size + 1]? = some (.cells #[.int .i64 2, .int .i64 0, .slice A l.length c] 53 (0, 0)) := by
  have hs := a.size
  exact ⟨(hg.block _ (by omega) (fun e => by have := a.own.from_ _ e.symm; omega)).trans a.res, (hg.block _ (by omega) (fun e => by have := a.own.from_ _ e.symm; omega)).trans a.r⟩
theorem RouteW.cell2 (a : RouteW w wr l A c) (hg : wr.grownBy w2 (blk A)) : w2.cell? ⟨w.heap.size + 1, 2, none⟩ = some (.slice A l.length c) := cell_of_row w2 _ 2 _ _ _ (a.grow hg).2
theorem RouteW.free2 (a : RouteW w wr l A c) (hg : wr.grownBy w2 (blk A)) (i : Nat) : w2.frozen? ⟨w.heap.size + 1, i, none⟩ = false := frozen_of_row w2 _ i _ _ (a.grow hg).2
theorem RouteW.app (a : RouteW w wr l A c) {x : Int} {A2 : Option Addr} {c2 n : Nat} (hn : n = l.length + 1) (hg : wr.grownBy w2 (blk A)) (hown : Own w2 (w.heap.size + 2) 3 1 A2 n c2 (ints l ++ [.int .i64 x])) :
    RouteW w (w2.setCell ⟨w.heap.size + 1, 2, none⟩ (.slice A2 n c2)) (l ++ [x]) A2 c2 := by
  subst hn
  obtain ⟨h1, h2⟩ := a.grow hg
  have hs := a.size
  have hgs := hg.size
  refine ⟨(a.below.grown hg (by omega) (fun g hg => by have := a.own.from_ g hg; omega)).setCell (by simp) _, by simp [World.setCell]; omega, (Below.heap_setCell _ _ _ _ (by simp)).trans h1, ?_, ?_⟩
  · rw [heap_setCell_same _ _ _ _ _ _ h2]; simp
  · have := hown.setCell_far (p := ⟨w.heap.size + 1, 2, none⟩) (fun g hg => by have := hown.from_ g hg; simp; omega) (.slice A2 (l.length + 1) c2)
    simpa [ints] using this
theorem RouteW.resAt (a : RouteW w wr l A c) : wr.cell? ⟨w.heap.size, 0, none⟩ = some (.int .i64 0) ∧ wr.cell? ⟨w.heap.size, 1, none⟩ = some (.int .i64 0) ∧ wr.cell? ⟨w.heap.size, 2, none⟩ = some (.slice none 0 0) :=
  ⟨cell_of_row wr _ 0 _ _ _ a.res, cell_of_row wr _ 1 _ _ _ a.res, cell_of_row wr _ 2 _ _ _ a.res⟩
theorem RouteW.resFree (a : RouteW w wr l A c) (i : Nat) : wr.frozen? ⟨w.heap.size, i, none⟩ = false := frozen_of_row wr _ i _ _ a.res
theorem RouteW.rAt (a : RouteW w wr l A c) : wr.cell? ⟨w.heap.size + 1, 0, none⟩ = some (.int .i64 2) ∧ wr.cell? ⟨w.heap.size + 1, 1, none⟩ = some (.int .i64 0) ∧ wr.cell? ⟨w.heap.size + 1, 2, none⟩ = some (.slice A l.length c) :=
  ⟨cell_of_row wr _ 0 _ _ _ a.r, cell_of_row wr _ 1 _ _ _ a.r, cell_of_row wr _ 2 _ _ _ a.r⟩
end
def RoutePost (raw : List Int) (w : World) (e : Ending) (w' : World) : Prop :=
  ∃ A c, e = .returned (rtV (routeR raw) A c) ∧ Own w' w.heap.size 3 1 A (routeR raw).path.length c (ints (routeR raw).path) ∧ Below w.heap.size w w'
theorem RouteW.answer {w wr : World} {raw l : List Int} {A : Option Addr} {c : Nat} (a : RouteW w wr l A c) (h : routeR raw = ⟨2, 0, l⟩) :
    RoutePost raw w (.returned (rtV ⟨2, 0, l⟩ A c)) (((wr.setCell ⟨w.heap.size, 0, none⟩ (.int .i64 2)).setCell ⟨w.heap.size, 1, none⟩ (.int .i64 0)).setCell ⟨w.heap.size, 2, none⟩ (.slice A l.length c)) := by
  have hf : ∀ {wx : World} (i : Nat) (v : Value), Own wx (w.heap.size + 2) 3 1 A l.length c (ints l) → Own (wx.setCell ⟨w.heap.size, i, none⟩ v) (w.heap.size + 2) 3 1 A l.length c (ints l) :=
    fun i v h => h.setCell_far (fun g hg => by have := h.from_ g hg; simp; omega) v
  refine ⟨A, c, by rw [h], ?_, ((a.below.setCell (by simp) _).setCell (by simp) _).setCell (by simp) _⟩
  rw [h]
  exact (hf _ _ (hf _ _ (hf _ _ a.own))).more (by omega)
end Go.Proofs.YtablbagdnmbbfaaGreat

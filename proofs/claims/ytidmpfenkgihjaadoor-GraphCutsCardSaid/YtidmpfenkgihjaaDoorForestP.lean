/- The plain part of GraphForest and GraphCuts: parts, ends, cuts of a network. No program is walked here. -/
import Derived.Test.YtidmpfenkgihjaaDoorLaw5
import Derived.Test.YtidmpfenkgihjaaDoorForest
namespace Go.Proofs.YtidmpfenkgihjaaDoor
set_option linter.unusedSimpArgs false
set_option linter.unusedVariables false
open Go.RowKit

theorem bool_eq {a b : Bool} (h : a = true ↔ b = true) : a = b := by cases a <;> cases b <;> simp_all
/-! ### Sums -/
def sumN (g : Nat → Nat) : Nat → Nat
  | 0 => 0
  | k + 1 => sumN g k + g k
theorem sumN_add (g h : Nat → Nat) : ∀ k, sumN (fun v => g v + h v) k = sumN g k + sumN h k
  | 0 => rfl
  | k + 1 => by simp only [sumN]; rw [sumN_add g h k]; omega
theorem sumN_congr {g h : Nat → Nat} : ∀ {k}, (∀ v, v < k → g v = h v) → sumN g k = sumN h k
  | 0, _ => rfl
  | k + 1, e => by simp only [sumN]; rw [sumN_congr (fun v hv => e v (by omega)), e k (by omega)]
theorem sumN_zero : ∀ k, sumN (fun _ => 0) k = 0
  | 0 => rfl
  | k + 1 => by simp only [sumN]; rw [sumN_zero k]
theorem sumN_one (a : Nat) : ∀ k, sumN (fun v => if v = a then 1 else 0) k = if a < k then 1 else 0
  | 0 => by simp [sumN]
  | k + 1 => by
    simp only [sumN]
    rw [sumN_one a k]
    by_cases h : a < k
    · rw [if_pos h, if_neg (by omega), if_pos (by omega)]
    · by_cases e : k = a
      · rw [if_neg h, if_pos e, if_pos (by omega)]
      · rw [if_neg h, if_neg e, if_neg (by omega)]
theorem sumN_le {g : Nat → Nat} {m : Nat} (h : ∀ v, g v ≤ m) : ∀ k, sumN g k ≤ m * k
  | 0 => by simp [sumN]
  | k + 1 => by
    simp only [sumN]
    have := sumN_le h k
    have := h k
    rw [Nat.mul_succ]
    omega
/-! ### A network's links that stand -/
def upL (f : Int) (k : Nat) : List Nat := (List.range k).filter fun i : Nat => !hasB f i
theorem upL_hit {f : Int} {k : Nat} (h : hasB f k = false) : upL f (k + 1) = upL f k ++ [k] := by simp [upL, List.range_succ, List.filter_append, h]
theorem upL_miss {f : Int} {k : Nat} (h : hasB f k = true) : upL f (k + 1) = upL f k := by simp [upL, List.range_succ, List.filter_append, h]
theorem upL_le (f : Int) (k : Nat) : (upL f k).length ≤ k := by
  have := List.length_filter_le (fun i : Nat => !hasB f i) (List.range k)
  simpa [upL] using this
theorem mem_upL {f : Int} {k i : Nat} : i ∈ upL f k ↔ i < k ∧ hasB f i = false := by simp [upL]
/-- Each link that stands has two ends. -/
theorem ends_two {L : List Lk} {f : Int} {N : Nat} (hok : LksOk L N) : ∀ k, k ≤ L.length → sumN (fun v => (arL L f (v : Int) k).length) N = 2 * (upL f k).length := by
  intro k
  induction k with
  | zero => intro _; rw [sumN_congr (h := fun _ => 0) (fun v _ => by simp [arL]), sumN_zero]; simp [upL]
  | succ k ih =>
    intro hk
    have hx : L[k]? = some L[k] := List.getElem?_eq_getElem (by omega)
    have ho := hok L[k] (List.getElem_mem _)
    have ih := ih (by omega)
    by_cases hf : hasB f k = true
    · rw [upL_miss hf, ← ih]
      refine sumN_congr fun v _ => ?_
      rw [arL_miss (by simp [isAr, hx, hf])]
    · have hf : hasB f k = false := by simpa using hf
      rw [upL_hit hf, List.length_append, List.length_singleton, Nat.mul_add, ← ih]
      rw [sumN_congr (h := fun v => (arL L f (v : Int) k).length + ((if v = (L[k]).a.toNat then 1 else 0) + (if v = (L[k]).b.toNat then 1 else 0))) (fun v _ => ?_)]
      · rw [sumN_add, sumN_add, sumN_one, sumN_one, if_pos (by omega), if_pos (by omega)]
      · by_cases h1 : v = (L[k]).a.toNat
        · rw [if_pos h1, if_neg (by omega), arL_hit (by simp only [isAr, hx, hf]; simp; omega)]
          simp
        · by_cases h2 : v = (L[k]).b.toNat
          · rw [if_neg h1, if_pos h2, arL_hit (by simp only [isAr, hx, hf]; simp; omega)]
            simp
          · rw [if_neg h1, if_neg h2, arL_miss (by simp only [isAr, hx, hf]; simp; omega)]; omega
def enOf (L : List Lk) (i : Nat) : Nat × Nat := match L[i]? with | some x => (x.a.toNat, x.b.toNat) | none => (0, 0)
theorem enOf_at {L : List Lk} {i : Nat} {x : Lk} (h : L[i]? = some x) : enOf L i = (x.a.toNat, x.b.toNat) := by simp [enOf, h]
theorem adj_rp {L : List Lk} {f : Int} {N : Nat} (hok : LksOk L N) {Q : Nat → Prop} (hQ : ∀ i, Q i ↔ i < L.length ∧ hasB f i = false) (u v : Nat) : Adj L f u v ↔ Gr.RP (enOf L) Q u v := by
  constructor
  · rintro ⟨i, x, hx, hf, h⟩
    have ho := hok x (List.mem_of_getElem? hx)
    refine ⟨i, (hQ i).2 ⟨(List.getElem?_eq_some_iff.1 hx).1, hf⟩, ?_⟩
    rw [enOf_at hx]
    simp only
    omega
  · rintro ⟨i, hi, h⟩
    obtain ⟨hl, hf⟩ := (hQ i).1 hi
    have hx : L[i]? = some L[i] := List.getElem?_eq_getElem hl
    have ho := hok L[i] (List.getElem_mem _)
    rw [enOf_at hx] at h
    simp only at h
    exact ⟨i, L[i], hx, hf, by omega⟩
theorem conn_rp {L : List Lk} {f : Int} {N : Nat} (hok : LksOk L N) {Q : Nat → Prop} (hQ : ∀ i, Q i ↔ i < L.length ∧ hasB f i = false) (u v : Nat) : Gr.Conn (Adj L f) u v ↔ Gr.Conn (Gr.RP (enOf L) Q) u v :=
  ⟨fun h => h.sub (fun u v h => (adj_rp hok hQ u v).1 h), fun h => h.sub (fun u v h => (adj_rp hok hQ u v).2 h)⟩
/-- A cut: without it its ends are parted. -/
theorem cut_iff {L : List Lk} {f : Int} {i : Nat} (hi : i < L.length) : cutB L f i = true ↔ hasB f i = false ∧ ¬ Gr.Conn (Adj L (withB f i)) (enOf L i).1 (enOf L i).2 := by
  have hx : L[i]? = some L[i] := List.getElem?_eq_getElem hi
  rw [enOf_at hx]
  unfold cutB
  rw [hx]
  simp only [decide_eq_true_eq]
  exact ⟨fun h => ⟨h.1, fun ⟨k, hk⟩ => h.2 k hk⟩, fun h => ⟨h.1, fun k hk => h.2 ⟨k, hk⟩⟩⟩
theorem filter_len {α : Type} {p q : α → Bool} (l : List α) (h : ∀ x ∈ l, p x = true → q x = true) : ((l.filter p).length = (l.filter q).length) ↔ ∀ x ∈ l, q x = true → p x = true := by
  induction l with
  | nil => simp
  | cons y l ih =>
    have ih := ih (fun x hx => h x (by simp [hx]))
    have hle : (l.filter p).length ≤ (l.filter q).length := by
      rw [← List.countP_eq_length_filter, ← List.countP_eq_length_filter]
      exact List.countP_mono_left fun x hx => h x (by simp [hx])
    have hy := h y (by simp)
    simp only [List.filter_cons, List.mem_cons, forall_eq_or_imp]
    cases hp : p y <;> cases hq : q y <;> simp_all <;> omega
open Classical in
/-- The parts that begin below k. -/
noncomputable def partsK (L : List Lk) (f : Int) (k : Nat) : Nat := ((List.range k).filter fun v => decide (Gr.First (Adj L f) v)).length
theorem partsK_le (L : List Lk) (f : Int) (k : Nat) : partsK L f k ≤ k := by
  have := List.length_filter_le (fun v => @decide _ (Classical.propDecidable (Gr.First (Adj L f) v))) (List.range k)
  simpa [partsK] using this
theorem partsK_hit {L : List Lk} {f : Int} {k : Nat} (h : Gr.First (Adj L f) k) : partsK L f (k + 1) = partsK L f k + 1 := by
  unfold partsK; rw [List.range_succ, List.filter_append]; simp [h]
theorem partsK_miss {L : List Lk} {f : Int} {k : Nat} (h : ¬ Gr.First (Adj L f) k) : partsK L f (k + 1) = partsK L f k := by
  unfold partsK; rw [List.range_succ, List.filter_append]; simp [h]
theorem forest_law {L : List Lk} {f : Int} {N : Nat} (hok : LksOk L N) (h16 : L.length ≤ 16) :
    N ≤ partsK L f N + (upL f L.length).length ∧ (N = partsK L f N + (upL f L.length).length ↔ (cutL L f L.length).length = (upL f L.length).length) := by
  have hQ : ∀ i, i ∈ upL f L.length ↔ i < L.length ∧ hasB f i = false := fun i => mem_upL
  have hp : partsK L f N = Gr.parts (Gr.RP (enOf L) (· ∈ upL f L.length)) N := Gr.parts_congr (conn_rp hok hQ)
  obtain ⟨h1, h2⟩ := Gr.forest (en := enOf L) (N := N) (upL f L.length) (List.nodup_range.sublist List.filter_sublist) (fun k hk => by
    obtain ⟨hl, _⟩ := mem_upL.1 hk
    have ho := hok L[k] (List.getElem_mem _)
    rw [enOf_at (List.getElem?_eq_getElem hl)]
    simp only
    omega)
  rw [hp]
  refine ⟨h1, h2.trans ?_⟩
  show _ ↔ ((List.range L.length).filter (cutB L f)).length = ((List.range L.length).filter fun i : Nat => !hasB f i).length
  rw [filter_len]
  · have key : ∀ j, j < L.length → hasB f j = false → (Gr.Conn (Adj L (withB f j)) (enOf L j).1 (enOf L j).2 ↔ Gr.Conn (Gr.RP (enOf L) (fun k => k ∈ upL f L.length ∧ k ≠ j)) (enOf L j).1 (enOf L j).2) := by
      intro j hj hf
      refine conn_rp hok (fun i => ?_) _ _
      rw [mem_upL, hasB_with f (by omega)]
      simp only [Bool.or_eq_false_iff, decide_eq_false_iff_not]
      exact ⟨fun h => ⟨h.1.1, h.1.2, h.2⟩, fun h => ⟨⟨h.1, h.2.1⟩, h.2.2⟩⟩
    constructor
    · intro h j hj hf
      have hj := List.mem_range.1 hj
      have hf : hasB f j = false := by simpa using hf
      exact (cut_iff hj).2 ⟨hf, fun hc => h j (mem_upL.2 ⟨hj, hf⟩) ((key j hj hf).1 hc)⟩
    · intro h j hj hc
      obtain ⟨hl, hf⟩ := mem_upL.1 hj
      exact ((cut_iff hl).1 (h j (List.mem_range.2 hl) (by simp [hf]))).2 ((key j hl hf).2 hc)
  · intro i hi hc
    have hc := (cut_iff (List.mem_range.1 hi)).1 hc
    simp [hc.1]
/-- The first of those that are joined with v. -/
theorem reach_first {L : List Lk} {f : Int} {N v h : Nat} (hv : v < N) (hok : LksOk L N) (hh : (reachL L f N v)[0]? = some h) : h = v ↔ Gr.First (Adj L f) v := by
  have hr := reachL_is (f := f) hv hok
  generalize reachL L f N v = l at *
  constructor
  · rintro rfl u ⟨k, hk⟩
    have hu : u ∈ l := (hr.2.1 u).2 ⟨k, hk⟩
    cases l with
    | nil => cases hu
    | cons y l =>
      simp at hh; subst hh
      rcases List.mem_cons.1 hu with rfl | hu
      · exact Nat.le_refl _
      · exact Nat.le_of_lt ((List.pairwise_cons.1 hr.1).1 u hu)
  · intro hf
    have hm : h ∈ l := List.mem_of_getElem? hh
    have h1 : v ≤ h := hf h ((hr.2.1 h).1 hm)
    have h2 : h ≤ v := by
      have hs := hr.self
      cases l with
      | nil => cases hs
      | cons y l =>
        simp at hh; subst hh
        rcases List.mem_cons.1 hs with e | hu
        · omega
        · exact Nat.le_of_lt ((List.pairwise_cons.1 hr.1).1 v hu)
    omega
end Go.Proofs.YtidmpfenkgihjaaDoor

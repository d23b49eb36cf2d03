/- Plain laws on graphs: balls, distances, and what a search in breadth keeps. No program here. -/
import Derived.Test.YtablbagdnmbbfaaGreatRows
namespace Go.Proofs.YtablbagdnmbbfaaGreat
set_option linter.unusedSimpArgs false
set_option linter.unusedVariables false
namespace Gr

/-- b is at most k steps from a. -/
def Ball (R : Nat → Nat → Prop) : Nat → Nat → Nat → Prop
  | 0, a, b => a = b
  | k + 1, a, b => Ball R k a b ∨ ∃ u, Ball R k a u ∧ R u b

section
variable {R : Nat → Nat → Prop}
theorem Ball.succ {k a b : Nat} (h : Ball R k a b) : Ball R (k + 1) a b := .inl h
theorem Ball.mono {k m a b : Nat} (h : Ball R k a b) (hm : k ≤ m) : Ball R m a b := by
  induction hm with
  | refl => exact h
  | step _ ih => exact .inl ih
theorem Ball.step {k a u b : Nat} (h : Ball R k a u) (hr : R u b) : Ball R (k + 1) a b := .inr ⟨u, h, hr⟩
theorem Ball.trans {j k a b c : Nat} (h : Ball R j a b) (h' : Ball R k b c) : Ball R (j + k) a c := by
  induction k generalizing c with
  | zero => cases h'; exact h
  | succ k ih =>
    rcases h' with h' | ⟨u, h', hr⟩
    · exact (ih h').succ
    · exact (ih h').step hr
theorem Ball.symm (hs : ∀ u v, R u v → R v u) {k a b : Nat} (h : Ball R k a b) : Ball R k b a := by
  induction k generalizing b with
  | zero => exact Eq.symm h
  | succ k ih =>
    rcases h with h | ⟨u, h, hr⟩
    · exact (ih h).succ
    · have h1 : Ball R 1 b u := .inr ⟨b, rfl, hs _ _ hr⟩
      have := h1.trans (ih h)
      rwa [Nat.add_comm] at this
theorem Ball.sub {R' : Nat → Nat → Prop} (hR : ∀ u v, R u v → R' u v) {k a b : Nat} (h : Ball R k a b) : Ball R' k a b := by
  induction k generalizing b with
  | zero => exact h
  | succ k ih =>
    rcases h with h | ⟨u, h, hr⟩
    · exact .inl (ih h)
    · exact .inr ⟨u, ih h, hR _ _ hr⟩
theorem Ball.lt {N : Nat} (hN : ∀ u v, R u v → v < N) {k a b : Nat} (ha : a < N) (h : Ball R k a b) : b < N := by
  induction k generalizing b with
  | zero => cases h; exact ha
  | succ k ih =>
    rcases h with h | ⟨u, h, hr⟩
    · exact ih h
    · exact hN _ _ hr
end

/-- h is how many steps b is from a; -1: none lead there. -/
def IsHops (R : Nat → Nat → Prop) (a b : Nat) (h : Int) : Prop :=
  (h = -1 ∧ ∀ k, ¬ Ball R k a b) ∨ ∃ n : Nat, h = n ∧ Ball R n a b ∧ ∀ k, Ball R k a b → n ≤ k

/-- What a search in breadth from a keeps: d the distances so far, q the nodes that are still to be looked at. -/
structure BInv (R : Nat → Nat → Prop) (N a : Nat) (d : Nat → Int) (q : List Nat) : Prop where
  start : d a = 0
  low : ∀ v, -1 ≤ d v
  far : ∀ v, N ≤ v → d v = -1
  ball : ∀ v, 0 ≤ d v → Ball R (d v).toNat a v
  inq : ∀ v ∈ q, 0 ≤ d v
  done : ∀ u, 0 ≤ d u → u ∉ q → ∀ v, R u v → 0 ≤ d v ∧ d v ≤ d u + 1
  sorted : q.Pairwise (fun x y => d x ≤ d y)
  near : ∀ x, q.head? = some x → ∀ v, d v ≤ d x + 1

def upd (d : Nat → Int) (m : Nat) (x : Int) : Nat → Int := fun v => if v = m then x else d v

section
variable {R : Nat → Nat → Prop} {N a : Nat} {d : Nat → Int} {q : List Nat}
theorem BInv.begin (ha : a < N) : BInv R N a (upd (fun _ => -1) a 0) [a] where
  start := by simp [upd]
  low := fun v => by unfold upd; split <;> simp
  far := fun v hv => by unfold upd; rw [if_neg (by omega)]
  ball := fun v hv => by
    by_cases e : v = a
    · subst e; simp [upd, Ball]
    · simp [upd, e] at hv
  inq := fun v hv => by simp at hv; subst hv; simp [upd]
  done := fun u hu hn => by
    by_cases e : u = a
    · subst e; simp at hn
    · simp [upd, e] at hu
  sorted := by simp
  near := fun x hx v => by
    simp at hx; subst hx
    by_cases e : v = a <;> simp [upd, e]

/-- A node that was not found yet is found from the head. -/
theorem BInv.find {n m : Nat} {t : List Nat} (h : BInv R N a d (n :: t)) (hm : d m < 0) (hr : R n m) (hmN : m < N) : BInv R N a (upd d m (d n + 1)) (n :: t ++ [m]) := by
  have hn : 0 ≤ d n := h.inq n (by simp)
  have hnm : n ≠ m := by rintro rfl; omega
  have hq : ∀ v ∈ n :: t, v ≠ m := fun v hv e => by subst e; have := h.inq v hv; omega
  have hd : ∀ v, v ≠ m → upd d m (d n + 1) v = d v := fun v hv => by simp [upd, hv]
  have hdm : upd d m (d n + 1) m = d n + 1 := by simp [upd]
  refine ⟨?_, ?_, ?_, ?_, ?_, ?_, ?_, ?_⟩
  · rw [hd a (by rintro rfl; have := h.start; omega)]; exact h.start
  · intro v
    by_cases e : v = m
    · subst e; rw [hdm]; omega
    · rw [hd v e]; exact h.low v
  · intro v hv
    rw [hd v (by omega)]; exact h.far v hv
  · intro v hv
    by_cases e : v = m
    · subst e
      rw [hdm, show (d n + 1).toNat = (d n).toNat + 1 from by omega]
      exact (h.ball n hn).step hr
    · rw [hd v e] at hv ⊢; exact h.ball v hv
  · intro v hv
    rcases List.mem_append.1 hv with hv | hv
    · rw [hd v (hq v hv)]; exact h.inq v hv
    · simp at hv; subst hv; rw [hdm]; omega
  · intro u hu hnq v hv
    have hum : u ≠ m := fun e => hnq (by simp [e])
    have hu' : 0 ≤ d u := by rwa [hd u hum] at hu
    have := h.done u hu' (fun hh => hnq (List.mem_append_left _ hh)) v hv
    rw [hd u hum]
    by_cases e : v = m
    · subst e; omega
    · rw [hd v e]; exact this
  · rw [List.pairwise_append]
    refine ⟨?_, by simp, ?_⟩
    · exact h.sorted.imp_of_mem fun {x y} hx hy hxy => by rw [hd x (hq x hx), hd y (hq y hy)]; exact hxy
    · intro x hx y hy
      simp at hy; subst hy
      rw [hd x (hq x hx), hdm]
      have := h.near n rfl x
      omega
  · intro x hx v
    have hx' : x = n := by simpa using hx.symm
    subst hx'
    rw [hd x hnm]
    by_cases e : v = m
    · subst e; rw [hdm]; omega
    · rw [hd v e]; exact h.near x rfl v

/-- The head has been looked at: all its neighbours are found. -/
theorem BInv.pop {n : Nat} {t : List Nat} (h : BInv R N a d (n :: t)) (hall : ∀ v, R n v → 0 ≤ d v) : BInv R N a d t where
  start := h.start
  low := h.low
  far := h.far
  ball := h.ball
  inq := fun v hv => h.inq v (by simp [hv])
  done := fun u hu hnq v hv => by
    by_cases e : u = n
    · subst e; exact ⟨hall v hv, h.near u rfl v⟩
    · exact h.done u hu (by simp [e, hnq]) v hv
  sorted := (List.pairwise_cons.1 h.sorted).2
  near := fun x hx v => by
    have h1 := h.near n rfl v
    have h2 := (List.pairwise_cons.1 h.sorted).1 x (List.mem_of_mem_head? (by simp [hx]))
    omega

theorem BInv.end_ (h : BInv R N a d []) (b : Nat) : IsHops R a b (d b) := by
  have key : ∀ k b, Ball R k a b → 0 ≤ d b ∧ d b ≤ k := by
    intro k
    induction k with
    | zero =>
      intro b hb
      cases hb
      rw [h.start]; simp
    | succ k ih =>
      intro b hb
      rcases hb with hb | ⟨u, hb, hr⟩
      · have := ih b hb; omega
      · have h1 := ih u hb
        have h2 := h.done u h1.1 (by simp) b hr
        omega
  by_cases hb : 0 ≤ d b
  · refine .inr ⟨(d b).toNat, by omega, h.ball b hb, fun k hk => ?_⟩
    have := key k b hk
    omega
  · have hl := h.low b
    exact .inl ⟨by omega, fun k hk => hb (key k b hk).1⟩

/-- How many of the nodes below N are not found yet. -/
def und (d : Nat → Int) (N : Nat) : Nat := ((List.range N).filter fun v => d v < 0).length
theorem und_upd {m : Nat} {x : Int} : ∀ {N : Nat}, d m < 0 → 0 ≤ x → m < N → und (upd d m x) N + 1 = und d N := by
  intro N
  induction N with
  | zero => intro _ _ h; omega
  | succ N ih =>
    intro hm hx hN
    unfold und
    rw [List.range_succ, List.filter_append, List.length_append, List.filter_append, List.length_append]
    by_cases e : m = N
    · subst e
      have h1 : (List.range m).filter (fun v => decide (upd d m x v < 0)) = (List.range m).filter (fun v => decide (d v < 0)) := by
        apply List.filter_congr
        intro v hv
        have : v ≠ m := by have := List.mem_range.1 hv; omega
        simp [upd, this]
      rw [h1]
      have h2 : ([m].filter fun v => decide (upd d m x v < 0)) = [] := by simp [upd]; omega
      have h3 : ([m].filter fun v => decide (d v < 0)) = [m] := by simp; omega
      rw [h2, h3]; simp
    · have := ih hm hx (by omega)
      unfold und at this
      have h2 : ([N].filter fun v => decide (upd d m x v < 0)) = ([N].filter fun v => decide (d v < 0)) := by
        have : N ≠ m := fun h => e h.symm
        simp [upd, List.filter_cons, this]
      rw [h2]; omega
theorem und_none {N : Nat} : und (fun _ => -1) N = N := by
  unfold und
  rw [List.filter_eq_self.2 (fun _ _ => by simp)]
  simp
theorem und_le (d : Nat → Int) (N : Nat) : und d N ≤ N := by
  have := List.length_filter_le (fun v => decide (d v < 0)) (List.range N)
  simpa [und] using this
/-- No distance is as great as the number of nodes. -/
def Top (d : Nat → Int) (N : Nat) : Prop := ∀ v, d v + und d N + 1 ≤ N
theorem Top.begin {a N : Nat} (ha : a < N) : Top (upd (fun _ => -1) a 0) N := by
  intro v
  have h := und_upd (d := fun _ => -1) (m := a) (x := 0) (N := N) (by simp) (by simp) ha
  rw [und_none] at h
  by_cases e : v = a
  · have : upd (fun _ => -1) a 0 v = 0 := by simp [upd, e]
    omega
  · have : upd (fun _ => -1) a 0 v = -1 := by simp [upd, e]
    omega
theorem Top.find {d : Nat → Int} {n m N : Nat} (h : Top d N) (hn : 0 ≤ d n) (hm : d m < 0) (hmN : m < N) : Top (upd d m (d n + 1)) N := by
  intro v
  have h1 := und_upd (d := d) (m := m) (x := d n + 1) (N := N) hm (by omega) hmN
  have h2 := h n
  have h3 := h v
  by_cases e : v = m
  · subst e
    have : upd d v (d n + 1) v = d n + 1 := by simp [upd]
    omega
  · have : upd d m (d n + 1) v = d v := by simp [upd, e]
    omega
end
end Gr
end Go.Proofs.YtablbagdnmbbfaaGreat

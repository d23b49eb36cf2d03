/- Plain laws: that there is a distance; the document's rounds. No program is walked here. -/
import Derived.Test.YtakolnmoieiicaaGreatApi
namespace Go.Proofs.YtakolnmoieiicaaGreat
set_option linter.unusedSimpArgs false
set_option linter.unusedVariables false
open Go.RowKit

theorem filter_ltH {α : Type} {p q : α → Bool} : ∀ (l : List α), (∀ x ∈ l, p x = true → q x = true) → (∃ x ∈ l, q x = true ∧ p x = false) → (l.filter p).length < (l.filter q).length
  | [], _, ⟨x, hx, _⟩ => by cases hx
  | y :: l, h, ⟨x, hx, hq, hp⟩ => by
    have hle : (l.filter p).length ≤ (l.filter q).length := by
      rw [← List.countP_eq_length_filter, ← List.countP_eq_length_filter]
      exact List.countP_mono_left fun x hx => h x (by simp [hx])
    have hy := h y (by simp)
    simp only [List.filter_cons]
    rcases List.mem_cons.1 hx with rfl | hx
    · rw [hq, hp]; simp; omega
    · have ih := filter_ltH l (fun x hx => h x (by simp [hx])) ⟨x, hx, hq, hp⟩
      cases h1 : p y <;> cases h2 : q y <;> simp_all <;> omega
namespace Gr
section
variable {R : Nat → Nat → Prop} {a N : Nat}
open Classical in
theorem ball_stop (hR : ∀ u v, R u v → v < N) (ha : a < N) : ∃ k, k < N ∧ ∀ v, Ball R (k + 1) a v → Ball R k a v := by
  apply Classical.byContradiction
  intro hno
  have hle : ∀ k, ((List.range N).filter fun v => decide (Ball R k a v)).length ≤ N := fun k => by
    have := List.length_filter_le (fun v => decide (Ball R k a v)) (List.range N)
    simpa using this
  have hgrow : ∀ k, k ≤ N → k + 1 ≤ ((List.range N).filter fun v => decide (Ball R k a v)).length := by
    intro k
    induction k with
    | zero =>
      intro _
      exact List.length_pos_of_mem (a := a) (List.mem_filter.2 ⟨List.mem_range.2 ha, by simp [Ball]⟩)
    | succ k ih =>
      intro hk
      have ih := ih (by omega)
      have : ∃ v, Ball R (k + 1) a v ∧ ¬ Ball R k a v := by
        apply Classical.byContradiction
        intro h
        exact hno ⟨k, by omega, fun v hv => Classical.byContradiction fun hn => h ⟨v, hv, hn⟩⟩
      obtain ⟨v, h1, h2⟩ := this
      have := filter_ltH (p := fun v => decide (Ball R k a v)) (q := fun v => decide (Ball R (k + 1) a v)) (List.range N) (fun x _ h => by simp only [decide_eq_true_eq] at h ⊢; exact h.succ) ⟨v, List.mem_range.2 (h1.lt hR ha), by simpa using h1, by simpa using h2⟩
      omega
  have := hgrow N (Nat.le_refl _)
  have := hle N
  omega
theorem least_ball {b : Nat} : ∀ k, Ball R k a b → ∃ n, n ≤ k ∧ Ball R n a b ∧ ∀ j, Ball R j a b → n ≤ j
  | 0, h => ⟨0, Nat.le_refl _, h, fun _ _ => Nat.zero_le _⟩
  | k + 1, h => by
    by_cases h' : Ball R k a b
    · obtain ⟨n, h1, h2, h3⟩ := least_ball k h'
      exact ⟨n, by omega, h2, h3⟩
    · exact ⟨k + 1, Nat.le_refl _, h, fun j hj => Nat.le_of_not_lt fun hlt => h' (hj.mono (by omega))⟩
theorem hops_ex (hR : ∀ u v, R u v → v < N) (ha : a < N) (b : Nat) : ∃ d : Int, IsHops R a b d ∧ d < N := by
  obtain ⟨k, hk, hs⟩ := ball_stop hR ha
  have hall : ∀ j v, Ball R j a v → Ball R k a v := by
    intro j
    induction j with
    | zero => intro v h; exact h.mono (Nat.zero_le _)
    | succ j ih =>
      rintro v (h | ⟨u, h, r⟩)
      · exact ih v h
      · exact hs v ((ih u h).step r)
  by_cases hb : ∃ j, Ball R j a b
  · obtain ⟨j, hj⟩ := hb
    obtain ⟨n, h1, h2, h3⟩ := least_ball k (hall j b hj)
    exact ⟨n, .inr ⟨n, rfl, h2, h3⟩, by omega⟩
  · exact ⟨-1, .inl ⟨rfl, fun k h => hb ⟨k, h⟩⟩, by omega⟩
end
end Gr
/-! ### The document's rounds -/
/-- Which nodes are in behind n rounds. -/
def InIs (L : List Lk) (f : Int) (a n : Nat) (d : Nat → Bool) : Prop := ∀ v, d v = true ↔ Gr.Ball (Adj L f) n a v
/-- .. and of the next round, behind k links. -/
def NextIs (L : List Lk) (f : Int) (k : Nat) (d e : Nat → Bool) : Prop :=
  ∀ v, e v = true ↔ d v = true ∨ ∃ (i : Nat) (x : Lk), i < k ∧ L[i]? = some x ∧ hasB f i = false ∧ (d x.a.toNat = true ∨ d x.b.toNat = true) ∧ (v = x.a.toNat ∨ v = x.b.toNat)
def putB (d : Nat → Bool) (m : Nat) : Nat → Bool := fun v => if v = m then true else d v
def boolsV (N : Nat) (d : Nat → Bool) : List Value := (List.range N).map fun v => Value.bool (d v)
theorem boolsV_len (N : Nat) (d : Nat → Bool) : (boolsV N d).length = N := by simp [boolsV]
theorem boolsV_at {N v : Nat} (d : Nat → Bool) (h : v < N) : (boolsV N d)[v]? = some (.bool (d v)) := by simp [boolsV, h]
theorem boolsV_set {N m : Nat} (d : Nat → Bool) : (boolsV N d).set m (.bool true) = boolsV N (putB d m) := by
  apply List.ext_getElem?
  intro i
  by_cases hi : i < N
  · rw [boolsV_at _ hi]
    by_cases e : m = i
    · subst e
      rw [List.getElem?_set_self (by rw [boolsV_len]; exact hi)]
      simp [putB]
    · rw [List.getElem?_set_ne e, boolsV_at _ hi]
      simp [putB, show ¬ i = m from fun h => e h.symm]
  · rw [List.getElem?_eq_none (by rw [List.length_set, boolsV_len]; omega), List.getElem?_eq_none (by rw [boolsV_len]; omega)]
theorem boolsV_none (N : Nat) : boolsV N (fun _ => false) = List.replicate N (Value.bool false) := by
  apply List.ext_getElem?
  intro i
  by_cases hi : i < N
  · rw [boolsV_at _ hi]; simp [hi]
  · rw [List.getElem?_eq_none (by rw [boolsV_len]; omega), List.getElem?_eq_none (by simp; omega)]
theorem InIs.begin (L : List Lk) (f : Int) (a : Nat) : InIs L f a 0 (putB (fun _ => false) a) := by
  intro v
  unfold putB
  show _ ↔ a = v
  by_cases e : v = a
  · simp [e]
  · rw [if_neg e]; simp; exact fun h => e h.symm
theorem NextIs.begin (L : List Lk) (f : Int) (d : Nat → Bool) : NextIs L f 0 d d := fun v =>
  ⟨.inl, fun h => h.elim id (fun ⟨_, _, h, _⟩ => by omega)⟩
theorem NextIs.hit {L : List Lk} {f : Int} {k : Nat} {d e : Nat → Bool} {x : Lk} (h : NextIs L f k d e) (hx : L[k]? = some x) (hf : hasB f k = false) (hd : d x.a.toNat = true ∨ d x.b.toNat = true) :
    NextIs L f (k + 1) d (putB (putB e x.a.toNat) x.b.toNat) := by
  intro v
  unfold putB
  constructor
  · intro hv
    by_cases e1 : v = x.b.toNat
    · exact .inr ⟨k, x, by omega, hx, hf, hd, .inr e1⟩
    · rw [if_neg e1] at hv
      by_cases e2 : v = x.a.toNat
      · exact .inr ⟨k, x, by omega, hx, hf, hd, .inl e2⟩
      · rw [if_neg e2] at hv
        rcases (h v).1 hv with hv | ⟨i, y, hi, hy⟩
        · exact .inl hv
        · exact .inr ⟨i, y, by omega, hy⟩
  · intro hv
    by_cases e1 : v = x.b.toNat
    · rw [if_pos e1]
    rw [if_neg e1]
    by_cases e2 : v = x.a.toNat
    · rw [if_pos e2]
    rw [if_neg e2]
    rcases hv with hv | ⟨i, y, hi, hy, h1, h2, h3⟩
    · exact (h v).2 (.inl hv)
    · by_cases e3 : i = k
      · subst e3
        rw [hx] at hy
        injection hy with hy
        subst hy
        rcases h3 with h3 | h3
        · exact absurd h3 e2
        · exact absurd h3 e1
      · exact (h v).2 (.inr ⟨i, y, by omega, hy, h1, h2, h3⟩)
theorem NextIs.miss {L : List Lk} {f : Int} {k : Nat} {d e : Nat → Bool} {x : Lk} (h : NextIs L f k d e) (hx : L[k]? = some x) (hf : hasB f k = true ∨ (d x.a.toNat = false ∧ d x.b.toNat = false)) : NextIs L f (k + 1) d e := by
  intro v
  refine (h v).trans ⟨fun hv => hv.imp id (fun ⟨i, y, hi, hy⟩ => ⟨i, y, by omega, hy⟩), fun hv => hv.imp id (fun ⟨i, y, hi, hy, h1, h2, h3⟩ => ⟨i, y, ?_, hy, h1, h2, h3⟩)⟩
  apply Classical.byContradiction
  intro hn
  have e3 : i = k := by omega
  subst e3
  rw [hx] at hy
  injection hy with hy
  subst hy
  rcases hf with hf | ⟨ha, hb⟩
  · rw [hf] at h1; cases h1
  · rw [ha, hb] at h2; simp at h2
theorem NextIs.round {L : List Lk} {f : Int} {N a n : Nat} {d e : Nat → Bool} (hok : LksOk L N) (hd : InIs L f a n d) (h : NextIs L f L.length d e) : InIs L f a (n + 1) e := by
  intro v
  rw [h v]
  constructor
  · rintro (hv | ⟨i, x, _, hx, hf, h2, h3⟩)
    · exact .inl ((hd v).1 hv)
    · have ho := hok x (List.mem_of_getElem? hx)
      have hab : Adj L f x.a.toNat x.b.toNat := ⟨i, x, hx, hf, .inl (by omega)⟩
      have hba : Adj L f x.b.toNat x.a.toNat := ⟨i, x, hx, hf, .inr (by omega)⟩
      rcases h2 with h2 | h2 <;> rcases h3 with rfl | rfl
      · exact .inl ((hd _).1 h2)
      · exact .inr ⟨_, (hd _).1 h2, hab⟩
      · exact .inr ⟨_, (hd _).1 h2, hba⟩
      · exact .inl ((hd _).1 h2)
  · rintro (hv | ⟨u, hu, i, x, hx, hf, hx2⟩)
    · exact .inl ((hd v).2 hv)
    · refine .inr ⟨i, x, (List.getElem?_eq_some_iff.1 hx).1, hx, hf, ?_, ?_⟩
      · have := (hd u).2 hu
        rcases hx2 with ⟨e1, e2⟩ | ⟨e1, e2⟩
        · left; rw [e1]; simpa using this
        · right; rw [e1]; simpa using this
      · rcases hx2 with ⟨e1, e2⟩ | ⟨e1, e2⟩
        · right; rw [e2]; simp
        · left; rw [e2]; simp
/-- In at last. -/
theorem InIs.hit {L : List Lk} {f : Int} {a b n : Nat} {d : Nat → Bool} (h : InIs L f a n d) (hb : d b = true) (hn : ∀ j, j < n → ¬ Gr.Ball (Adj L f) j a b) : Gr.IsHops (Adj L f) a b n :=
  .inr ⟨n, rfl, (h b).1 hb, fun k hk => Nat.le_of_not_lt fun hlt => hn k hlt hk⟩
theorem InIs.miss {L : List Lk} {f : Int} {a b n : Nat} {d : Nat → Bool} (h : InIs L f a n d) (hb : d b = false) : ∀ j, j < n + 1 → ¬ Gr.Ball (Adj L f) j a b := by
  intro j hj hB
  have := (h b).2 (hB.mono (by omega))
  rw [hb] at this; cases this
theorem hops_none {L : List Lk} {f : Int} {a b N : Nat} (hok : LksOk L N) (ha : a < N) (hn : ∀ j, j < N + 1 → ¬ Gr.Ball (Adj L f) j a b) : Gr.IsHops (Adj L f) a b (-1) := by
  obtain ⟨d, h1, h2⟩ := Gr.hops_ex (R := Adj L f) (N := N) (fun u v ⟨i, x, hx, _, h⟩ => by have := hok x (List.mem_of_getElem? hx); omega) ha b
  rcases h1 with ⟨e, h1⟩ | ⟨n, e, h1, _⟩
  · exact .inl ⟨rfl, h1⟩
  · exact absurd h1 (hn n (by omega))
end Go.Proofs.YtakolnmoieiicaaGreat

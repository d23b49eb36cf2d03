/- Ways in a graph that meet no node twice: the list that is made node by node holds just them, in order; a way that is turned is a way back; the shortest walk makes one. No program is walked here. -/
import Derived.Test.YtakolnmoieiicaaGreatApi
namespace Go.Proofs.YtakolnmoieiicaaGreat
set_option linter.unusedSimpArgs false
set_option linter.unusedVariables false
open Go.RowKit

namespace Gr
theorem nodup_len {α : Type} [DecidableEq α] : ∀ (l m : List α), l.Nodup → (∀ x ∈ l, x ∈ m) → l.length ≤ m.length
  | [], _, _, _ => by simp
  | x :: l, m, h, hs => by
    have h1 := List.nodup_cons.1 h
    have h2 := nodup_len l (m.erase x) h1.2 (fun y hy => (List.mem_erase_of_ne (by rintro rfl; exact h1.1 hy)).2 (hs y (by simp [hy])))
    have hx := hs x (by simp)
    rw [List.length_erase_of_mem hx] at h2
    have := List.length_pos_of_mem hx
    simp; omega
theorem nodup_rev {α : Type} {l : List α} (h : l.Nodup) : l.reverse.Nodup := List.pairwise_reverse.2 (h.imp Ne.symm)
section
variable {R : Nat → Nat → Prop} {b : Nat}
/-- A way from u to b. -/
inductive Way (R : Nat → Nat → Prop) (b : Nat) : Nat → List Nat → Prop
  | one : Way R b b [b]
  | cons {u v : Nat} {t : List Nat} (h : R u v) (ht : Way R b v t) (hu : u ∉ t) : Way R b u (u :: t)
theorem Way.head {u : Nat} {q : List Nat} (h : Way R b u q) : ∃ t, q = u :: t := by cases h <;> exact ⟨_, rfl⟩
theorem Way.last {u : Nat} {q : List Nat} (h : Way R b u q) : q.getLast? = some b := by
  induction h with
  | one => rfl
  | cons h ht hu ih =>
    obtain ⟨t', rfl⟩ := ht.head
    rw [List.getLast?_cons_cons]; exact ih
theorem Way.mem_last {u : Nat} {q : List Nat} (h : Way R b u q) : b ∈ q := List.mem_of_getLast? h.last
theorem Way.nodup {u : Nat} {q : List Nat} (h : Way R b u q) : q.Nodup := by
  induction h with
  | one => simp
  | cons h ht hu ih => exact List.nodup_cons.2 ⟨hu, ih⟩
theorem Way.self {q : List Nat} (h : Way R b b q) : q = [b] := by
  cases h with
  | one => rfl
  | cons h ht hu => exact absurd ht.mem_last hu
theorem Way.lt {N u : Nat} {q : List Nat} (h : Way R b u q) (hN : ∀ x y, R x y → x < N ∧ y < N) (hu : u < N) : ∀ x ∈ q, x < N := by
  induction h with
  | one => intro x hx; simp at hx; omega
  | cons h ht hu' ih =>
    intro x hx
    rcases List.mem_cons.1 hx with e | hx
    · omega
    · exact ih (hN _ _ h).2 x hx
theorem Way.length_le {N u : Nat} {q : List Nat} (h : Way R b u q) (hN : ∀ x y, R x y → x < N ∧ y < N) (hu : u < N) : q.length ≤ N := by
  have h1 := h.nodup
  have h2 := h.lt hN hu
  have := nodup_len q (List.range N) h1 (fun x hx => List.mem_range.2 (h2 x hx))
  simpa using this
theorem Way.chain {u : Nat} {q : List Nat} (h : Way R b u q) : ∀ k x y, q[k]? = some x → q[k + 1]? = some y → R x y := by
  induction h with
  | one => intro k x y _ h2; simp at h2
  | cons h ht hu ih =>
    intro k x y h1 h2
    cases k with
    | zero =>
      obtain ⟨t', rfl⟩ := ht.head
      simp at h1 h2
      subst h1 h2; exact h
    | succ k => exact ih k x y (by simpa using h1) (by simpa using h2)
theorem Way.sub {R' : Nat → Nat → Prop} (hR : ∀ u v, R u v → R' u v) {u : Nat} {q : List Nat} (h : Way R b u q) : Way R' b u q := by
  induction h with
  | one => exact .one
  | cons h ht hu ih => exact .cons (hR _ _ h) ih hu
/-- .. from any list that goes over links and meets no node twice. -/
theorem way_of {R : Nat → Nat → Prop} : ∀ (t : List Nat) (u : Nat), (u :: t).Nodup → (∀ k x y, (u :: t)[k]? = some x → (u :: t)[k + 1]? = some y → R x y) → (u :: t).getLast? = some b → Way R b u (u :: t)
  | [], u, _, _, h3 => by simp at h3; subst h3; exact .one
  | v :: t, u, h1, h2, h3 => by
    refine .cons (h2 0 u v rfl rfl) (way_of t v (List.nodup_cons.1 h1).2 (fun k x y hx hy => h2 (k + 1) x y (by simpa using hx) (by simpa using hy)) ?_) (List.nodup_cons.1 h1).1
    rw [List.getLast?_cons_cons] at h3; exact h3
/-- A way that is turned is a way back. -/
theorem Way.rev (hs : ∀ u v, R u v → R v u) {u : Nat} {q : List Nat} (h : Way R b u q) : Way R u b q.reverse := by
  obtain ⟨t, rfl⟩ := h.head
  have hne : (u :: t).reverse ≠ [] := by simp
  obtain ⟨y, s, hy⟩ := List.exists_cons_of_ne_nil hne
  have hyb : y = b := by
    have h1 := h.last
    rw [← List.head?_reverse, hy] at h1
    simpa using h1
  rw [hy, ← hyb]
  refine way_of s y ?_ ?_ ?_
  · rw [← hy]; exact nodup_rev h.nodup
  · rw [← hy]
    intro k x z hx hz
    have hk : k + 1 < (u :: t).length := by
      have := (List.getElem?_eq_some_iff.1 hz).1
      rwa [List.length_reverse] at this
    rw [List.getElem?_reverse (by omega)] at hx
    rw [List.getElem?_reverse hk] at hz
    refine hs _ _ (h.chain _ z x hz ?_)
    rw [← hx]
    congr 1
    omega
  · rw [← hy, List.getLast?_reverse]; rfl
/-- The list of all ways, made node by node: 'pre' has been met, u is the last one. -/
def onL (nb : Nat → List Nat) (b : Nat) : Nat → List Nat → Nat → List (List Nat)
  | 0, _, _ => []
  | k + 1, pre, u => if u = b then [pre ++ [u]] else (nb u).flatMap fun v => if v ∈ pre ++ [u] then [] else onL nb b k (pre ++ [u]) v
theorem mem_onL {nb : Nat → List Nat} {N : Nat} (hnb : ∀ u v, v ∈ nb u ↔ R u v) (hN : ∀ x y, R x y → x < N ∧ y < N) : ∀ (k : Nat) (pre : List Nat) (u : Nat), N + 1 ≤ k + pre.length → (pre ++ [u]).Nodup → (∀ x ∈ pre ++ [u], x < N) → ∀ q,
    q ∈ onL nb b k pre u ↔ ∃ t, q = pre ++ t ∧ Way R b u t ∧ (pre ++ t).Nodup
  | 0, pre, u, hk, h1, h2, q => by
    have := nodup_len _ (List.range N) h1 (fun x hx => List.mem_range.2 (h2 x hx))
    simp at this; omega
  | k + 1, pre, u, hk, h1, h2, q => by
    simp only [onL]
    by_cases e : u = b
    · rw [if_pos e]
      subst e
      simp only [List.mem_singleton]
      constructor
      · rintro rfl; exact ⟨[u], rfl, .one, h1⟩
      · rintro ⟨t, rfl, hw, _⟩; rw [hw.self]
    · rw [if_neg e, List.mem_flatMap]
      constructor
      · rintro ⟨v, hv, hq⟩
        by_cases hm : v ∈ pre ++ [u]
        · rw [if_pos hm] at hq; cases hq
        · rw [if_neg hm] at hq
          have huv := (hnb u v).1 hv
          obtain ⟨t, rfl, hw, hd⟩ := (mem_onL hnb hN k (pre ++ [u]) v (by simp; omega) (by
            rw [List.nodup_append]; refine ⟨h1, by simp, ?_⟩
            rintro x hx y hy rfl
            simp at hy; subst hy; exact hm hx) (by
            intro x hx
            rcases List.mem_append.1 hx with hx | hx
            · exact h2 x hx
            · simp at hx; subst hx; exact (hN _ _ huv).2) q).1 hq
          have hd' := hd
          rw [List.append_assoc, List.singleton_append] at hd'
          refine ⟨u :: t, by simp, .cons huv hw ?_, hd'⟩
          have := (List.nodup_append.1 hd').2.1
          exact (List.nodup_cons.1 this).1
      · rintro ⟨t, rfl, hw, hd⟩
        cases hw with
        | one => exact absurd rfl e
        | @cons _ v t h ht hu =>
          refine ⟨v, (hnb u v).2 h, ?_⟩
          obtain ⟨t', rfl⟩ := ht.head
          have hm : v ∉ pre ++ [u] := by
            intro hm
            have hd2 := List.nodup_append.1 hd
            rcases List.mem_append.1 hm with hm | hm
            · exact hd2.2.2 v hm v (by simp) rfl
            · simp at hm; subst hm; exact hu (by simp)
          rw [if_neg hm]
          have hd' : (pre ++ [u] ++ v :: t').Nodup := by simpa using hd
          exact (mem_onL hnb hN k (pre ++ [u]) v (by simp; omega) (by
            rw [show pre ++ [u] ++ v :: t' = (pre ++ [u] ++ [v]) ++ t' by simp] at hd'
            exact (List.nodup_append.1 hd').1) (by
            intro x hx
            rcases List.mem_append.1 hx with hx | hx
            · exact h2 x hx
            · simp at hx; subst hx; exact (hN _ _ h).2) _).2 ⟨v :: t', by simp, ht, hd'⟩
/-- All ways from a to b. -/
def waysL (nb : Nat → List Nat) (N a b : Nat) : List (List Nat) := onL nb b (N + 1) [] a
theorem mem_ways {nb : Nat → List Nat} {N : Nat} (hnb : ∀ u v, v ∈ nb u ↔ R u v) (hN : ∀ x y, R x y → x < N ∧ y < N) {a : Nat} (ha : a < N) (q : List Nat) : q ∈ waysL nb N a b ↔ Way R b a q := by
  rw [waysL, mem_onL hnb hN (N + 1) [] a (by simp) (by simp) (by simpa using ha)]
  constructor
  · rintro ⟨t, rfl, h, _⟩; simpa using h
  · intro h; exact ⟨q, by simp, h, by simpa using h.nodup⟩
/-- One list is ahead of another one: behind what they have in common it goes on with a lesser one. -/
def LexLt (x y : List Nat) : Prop := ∃ (c : List Nat) (i j : Nat) (r s : List Nat), x = c ++ i :: r ∧ y = c ++ j :: s ∧ i < j
theorem LexLt.ne {x y : List Nat} (h : LexLt x y) : x ≠ y := by
  obtain ⟨c, i, j, r, s, rfl, rfl, hij⟩ := h
  intro e
  have := List.append_cancel_left e
  injection this with e1 _
  omega
theorem onL_pre {nb : Nat → List Nat} : ∀ (k : Nat) (pre : List Nat) (u : Nat) (q : List Nat), q ∈ onL nb b k pre u → ∃ t, q = pre ++ u :: t
  | 0, pre, u, q, h => by cases h
  | k + 1, pre, u, q, h => by
    simp only [onL] at h
    split at h
    · simp at h; subst h; exact ⟨[], rfl⟩
    · obtain ⟨v, hv, hq⟩ := List.mem_flatMap.1 h
      split at hq
      · cases hq
      · obtain ⟨t, rfl⟩ := onL_pre k _ v q hq
        exact ⟨v :: t, by simp⟩
theorem onL_sorted {nb : Nat → List Nat} (hnb : ∀ u, (nb u).Pairwise (· < ·)) : ∀ (k : Nat) (pre : List Nat) (u : Nat), (onL nb b k pre u).Pairwise LexLt
  | 0, pre, u => List.Pairwise.nil
  | k + 1, pre, u => by
    simp only [onL]
    split
    · exact List.pairwise_singleton _ _
    · rw [List.pairwise_flatMap]
      refine ⟨fun v _ => ?_, (hnb u).imp ?_⟩
      · split
        · exact List.Pairwise.nil
        · exact onL_sorted hnb k _ v
      · intro v v' hvv x hx y hy
        split at hx
        · cases hx
        · split at hy
          · cases hy
          · obtain ⟨t, rfl⟩ := onL_pre k _ v x hx
            obtain ⟨t', rfl⟩ := onL_pre k _ v' y hy
            exact ⟨pre ++ [u], v, v', t, t', rfl, rfl, hvv⟩
theorem ways_sorted {nb : Nat → List Nat} (hnb : ∀ u, (nb u).Pairwise (· < ·)) (N a b : Nat) : (waysL nb N a b).Pairwise LexLt := onL_sorted hnb _ _ _
theorem ways_nodup {nb : Nat → List Nat} (hnb : ∀ u, (nb u).Pairwise (· < ·)) (N a b : Nat) : (waysL nb N a b).Nodup := (ways_sorted hnb N a b).imp LexLt.ne
/-- There are as many ways back. -/
theorem ways_back {nb : Nat → List Nat} {N : Nat} (hnb : ∀ u v, v ∈ nb u ↔ R u v) (hN : ∀ x y, R x y → x < N ∧ y < N) (hs : ∀ u v, R u v → R v u) (hp : ∀ u, (nb u).Pairwise (· < ·)) {a : Nat} (ha : a < N) (hb : b < N) :
    (waysL nb N a b).length = (waysL nb N b a).length := by
  have key : ∀ {a b : Nat}, a < N → b < N → (waysL nb N a b).length ≤ (waysL nb N b a).length := by
    intro a b ha hb
    have h1 : ((waysL nb N a b).map List.reverse).Nodup := by
      refine List.Pairwise.map _ (fun x y (h : x ≠ y) e => h ?_) (ways_nodup hp N a b)
      have := congrArg List.reverse e
      simpa using this
    have h2 := nodup_len _ (waysL nb N b a) h1 (fun q hq => by
      obtain ⟨x, hx, rfl⟩ := List.mem_map.1 hq
      exact (mem_ways hnb hN hb x.reverse).2 (((mem_ways hnb hN ha x).1 hx).rev hs))
    simpa using h2
  exact Nat.le_antisymm (key ha hb) (key hb ha)
/-- A way is a walk. -/
theorem Way.ball {u : Nat} {q : List Nat} (h : Way R b u q) (hs : ∀ u v, R u v → R v u) : Ball R (q.length - 1) u b := by
  have : ∀ {u : Nat} {q : List Nat}, Way R b u q → Ball R (q.length - 1) b u := by
    intro u q h
    induction h with
    | one => exact rfl
    | cons h ht hu ih =>
      obtain ⟨t', rfl⟩ := ht.head
      exact ih.step (hs _ _ h)
  exact (this h).symm hs
/-- The nearest walk makes a way of as many links. -/
theorem way_near (hs : ∀ u v, R u v → R v u) : ∀ (k : Nat) (u : Nat), Ball R k b u → (∀ j, j < k → ¬ Ball R j b u) → ∃ q, Way R b u q ∧ q.length = k + 1 ∧ ∀ x ∈ q, Ball R k b x ∧ (x ≠ u → ∃ j, j < k ∧ Ball R j b x)
  | 0, u, h, _ => by
    have e : b = u := h
    subst e
    exact ⟨[b], .one, rfl, by intro x hx; simp at hx; subst hx; exact ⟨rfl, fun h => absurd rfl h⟩⟩
  | k + 1, u, h, hn => by
    rcases h with h | ⟨v, hv, hr⟩
    · exact absurd h (hn k (by omega))
    · have hvn : ∀ j, j < k → ¬ Ball R j b v := fun j hj hb => hn (j + 1) (by omega) (hb.step hr)
      obtain ⟨q, hq, hl, hx⟩ := way_near hs k v hv hvn
      refine ⟨u :: q, .cons (hs _ _ hr) hq ?_, by simp [hl], ?_⟩
      · intro hu
        exact hn k (by omega) (hx u hu).1
      · intro x hx'
        rcases List.mem_cons.1 hx' with e | hx'
        · subst e; exact ⟨.inr ⟨v, hv, hr⟩, fun h => absurd rfl h⟩
        · exact ⟨(hx x hx').1.succ, fun _ => ⟨k, by omega, (hx x hx').1⟩⟩
end
end Gr
end Go.Proofs.YtakolnmoieiicaaGreat

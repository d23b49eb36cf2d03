/- The walk of graph.from: the search in breadth. -/
import Derived.Test.YtiehlnokidhgfaaGraphW
import Derived.Test.YtiehlnokidhgfaaHops
namespace Go.Proofs.Ytiehlnokidhgfaa
set_option linter.unusedSimpArgs false
set_option linter.unusedVariables false
open Go.RowKit

/-- Two nodes are ends of a link that has not failed. -/
def Adj (L : List Lk) (f : Int) (u v : Nat) : Prop := ∃ (i : Nat) (x : Lk), L[i]? = some x ∧ hasB f i = false ∧ ((x.a = u ∧ x.b = v) ∨ (x.b = u ∧ x.a = v))
/-- Links between nodes below N, from a lower one to a higher one. -/
def LksOk (L : List Lk) (N : Nat) : Prop := ∀ x ∈ L, 0 ≤ x.a ∧ x.a < x.b ∧ x.b < N

/-- The array of twelve distances. -/
def farArr (d : Nat → Int) : Array Value := ((List.range 12).map fun i => Value.int .i64 (d i)).toArray
theorem farArr_size (d : Nat → Int) : (farArr d).size = 12 := by simp [farArr]
theorem farArr_one (d : Nat → Int) : (farArr d).all (·.oneCell') = true := by simp [farArr, Value.oneCell']
theorem farArr_at (d : Nat → Int) {i : Nat} (h : i < 12) : (farArr d)[i]? = some (.int .i64 (d i)) := by simp [farArr, h]
theorem farArr_set (d : Nat → Int) {m : Nat} (x : Int) : (farArr d).setIfInBounds m (.int .i64 x) = farArr (Gr.upd d m x) := by
  apply Array.ext_getElem?
  intro i
  rw [Array.getElem?_setIfInBounds]
  by_cases hi : i < 12
  · rw [farArr_at _ hi, farArr_at _ hi]
    by_cases e : m = i
    · subst e; simp [farArr, hi, Gr.upd]
    · have e' : i ≠ m := fun h => e h.symm
      simp [e, e', Gr.upd]
  · rw [Array.getElem?_eq_none (by rw [farArr_size]; omega), Array.getElem?_eq_none (by rw [farArr_size]; omega)]
    split <;> simp_all [farArr]

section
variable {w wr w' : World} {cs : Array Value} {d : Nat → Int}
end

/-! ### Neighbours -/
theorem mem_arL {L : List Lk} {f n : Int} {k i : Nat} : i ∈ arL L f n k ↔ i < k ∧ isAr L f n i = true := by simp [arL]
theorem ar_oth {L : List Lk} {f : Int} {N n i : Nat} {x : Lk} (hok : LksOk L N) (hx : L[i]? = some x) (har : isAr L f n i = true) : ∃ m : Nat, othV x.a x.b n = m ∧ m < N ∧ Adj L f n m := by
  have ho := hok x (List.mem_of_getElem? hx)
  simp only [isAr, hx, Bool.and_eq_true, Bool.not_eq_true', Bool.or_eq_true, beq_iff_eq] at har
  obtain ⟨hh, h1 | h1⟩ := har
  · refine ⟨x.b.toNat, ?_, by omega, i, x, hx, hh, .inl ⟨h1, by omega⟩⟩
    unfold othV; rw [if_pos h1.symm]; omega
  · refine ⟨x.a.toNat, ?_, by omega, i, x, hx, hh, .inr ⟨h1, by omega⟩⟩
    unfold othV; rw [if_neg (by omega), if_pos h1.symm]; omega
theorem adj_ar {L : List Lk} {f : Int} {N n v : Nat} (hok : LksOk L N) (h : Adj L f n v) : ∃ i x, L[i]? = some x ∧ isAr L f n i = true ∧ othV x.a x.b n = v := by
  obtain ⟨i, x, hx, hh, hab⟩ := h
  have ho := hok x (List.mem_of_getElem? hx)
  refine ⟨i, x, hx, ?_, ?_⟩
  · simp only [isAr, hx, hh, Bool.not_false, Bool.true_and, Bool.or_eq_true, beq_iff_eq]
    rcases hab with ⟨h1, _⟩ | ⟨h1, _⟩
    · exact .inl h1
    · exact .inr h1
  · unfold othV
    rcases hab with ⟨h1, h2⟩ | ⟨h1, h2⟩
    · rw [if_pos h1.symm]; exact h2
    · rw [if_neg (by omega), if_pos h1.symm]; exact h2

/-- The ends of the first k links around n have been found. -/
def Seen (L : List Lk) (f : Int) (n : Nat) (d : Nat → Int) (k : Nat) : Prop :=
  ∀ j i x, j < k → (arL L f n L.length)[j]? = some i → L[i]? = some x → 0 ≤ d (othV x.a x.b n).toNat
theorem Seen.step {L : List Lk} {f : Int} {n k i m : Nat} {x : Lk} {d : Nat → Int} (h : Seen L f n d k) (hi : (arL L f n L.length)[k]? = some i) (hx : L[i]? = some x) (hm : othV x.a x.b n = m) (hd : 0 ≤ d m) : Seen L f n d (k + 1) := by
  intro j i' x' hj hi' hx'
  by_cases e : j = k
  · subst e
    rw [hi] at hi'
    injection hi' with hi'
    subst hi'
    rw [hx] at hx'
    injection hx' with hx'
    subst hx'
    rw [hm]; simpa using hd
  · exact h j i' x' (by omega) hi' hx'
theorem Seen.upd {L : List Lk} {f : Int} {n k m : Nat} {d : Nat → Int} {v : Int} (h : Seen L f n d k) (hv : 0 ≤ v) : Seen L f n (Gr.upd d m v) k := by
  intro j i x hj hi hx
  unfold Gr.upd
  split
  · exact hv
  · exact h j i x hj hi hx
theorem Seen.all {L : List Lk} {f : Int} {N n : Nat} {d : Nat → Int} (hok : LksOk L N) (h : Seen L f n d (arL L f n L.length).length) : ∀ v, Adj L f n v → 0 ≤ d v := by
  intro v hv
  obtain ⟨i, x, hx, har, ho⟩ := adj_ar hok hv
  have hmem : i ∈ arL L f n L.length := mem_arL.2 ⟨(List.getElem?_eq_some_iff.1 hx).1, har⟩
  obtain ⟨j, hj, hji⟩ := List.mem_iff_getElem.1 hmem
  have := h j i x hj (by rw [List.getElem?_eq_getElem hj, hji]) hx
  rw [ho] at this
  simpa using this
theorem nats_cut (q : List Nat) : (nats q).drop (1 * 1) = nats q.tail := by cases q <;> simp [nats]

/-- What from hands back. -/
def FromPost (L : List Lk) (f : Int) (N n : Nat) (w : World) (e : Ending) (w' : World) : Prop :=
  ∃ d : Nat → Int, e = .returned (.agg (farArr d)) ∧ (∀ b, Gr.IsHops (Adj L f) n b (d b)) ∧ (∀ b, d b < N) ∧ Below w.heap.size w w'
theorem upd_zero (n : Nat) : farArr (Gr.upd (fun v => if v < 12 then -1 else 0) n 0) = farArr (Gr.upd (fun _ => -1) n 0) := by
  apply Array.ext_getElem?
  intro i
  by_cases hi : i < 12
  · rw [farArr_at _ hi, farArr_at _ hi]; simp [Gr.upd, hi]
  · rw [Array.getElem?_eq_none (by rw [farArr_size]; omega), Array.getElem?_eq_none (by rw [farArr_size]; omega)]

theorem own_tail {w : World} {B e c : Nat} {A : Option Addr} {n : Nat} {t : List Nat} (h : Own w B e 1 A (t.length + 1) c (nats (n :: t))) (hc : c ≠ 1) :
    Own w B e 1 (Option.map (fun x => { block := x.block, off := x.off + 1 }) A) t.length (c - 1) (nats t) := by
  have := h.cut (k := 1) (by omega)
  rw [if_neg hc] at this
  exact this
theorem own_tail1 {w : World} {B e : Nat} {A : Option Addr} {n : Nat} {t : List Nat} (h : Own w B e 1 A (t.length + 1) 1 (nats (n :: t))) :
    Own w B e 1 A t.length 0 (nats t) := by
  have := h.cut (k := 1) (by omega)
  rw [if_pos rfl] at this
  exact this

end Go.Proofs.Ytiehlnokidhgfaa

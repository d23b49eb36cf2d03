/- Plain laws: how many parts there are, and when all links are cuts. No program is walked here. -/
import Derived.Test.YtidmpfenkgihjaaDoorApi
namespace Go.Proofs.YtidmpfenkgihjaaDoor
set_option linter.unusedSimpArgs false
set_option linter.unusedVariables false
open Go.RowKit
namespace Gr
open Classical
/-- Joined. -/
def Conn (R : Nat → Nat → Prop) (u v : Nat) : Prop := ∃ k, Ball R k u v
section
variable {R : Nat → Nat → Prop} {u v x : Nat}
theorem Conn.refl (R : Nat → Nat → Prop) (u : Nat) : Conn R u u := ⟨0, rfl⟩
theorem Conn.trans (h : Conn R u v) (h' : Conn R v x) : Conn R u x := by obtain ⟨i, h⟩ := h; obtain ⟨j, h'⟩ := h'; exact ⟨_, Ball.trans h h'⟩
theorem Conn.one (h : R u v) : Conn R u v := ⟨1, .inr ⟨u, rfl, h⟩⟩
theorem Conn.symm (hs : ∀ u v, R u v → R v u) (h : Conn R u v) : Conn R v u := by obtain ⟨i, h⟩ := h; exact ⟨i, h.symm hs⟩
theorem Conn.sub {R' : Nat → Nat → Prop} (hR : ∀ u v, R u v → R' u v) (h : Conn R u v) : Conn R' u v := by obtain ⟨i, h⟩ := h; exact ⟨i, h.sub hR⟩
end
variable (en : Nat → Nat × Nat)
/-- Ends of a link of which P. -/
def RP (P : Nat → Prop) (u v : Nat) : Prop := ∃ i, P i ∧ (((en i).1 = u ∧ (en i).2 = v) ∨ ((en i).2 = u ∧ (en i).1 = v))
variable {en}
theorem RP.symm {P : Nat → Prop} : ∀ u v, RP en P u v → RP en P v u := by
  rintro u v ⟨i, h, e⟩
  exact ⟨i, h, e.symm.imp (fun h => ⟨h.2, h.1⟩) (fun h => ⟨h.2, h.1⟩)⟩
theorem RP.sub {P Q : Nat → Prop} (h : ∀ i, P i → Q i) : ∀ u v, RP en P u v → RP en Q u v := by
  rintro u v ⟨i, h', e⟩
  exact ⟨i, h i h', e⟩
/-- With one link more. -/
theorem conn_more {P Q : Nat → Prop} {i : Nat} (hQ : ∀ k, Q k ↔ P k ∨ k = i) {u v : Nat} :
    Conn (RP en Q) u v ↔ Conn (RP en P) u v ∨ (Conn (RP en P) u (en i).1 ∧ Conn (RP en P) (en i).2 v) ∨ (Conn (RP en P) u (en i).2 ∧ Conn (RP en P) (en i).1 v) := by
  constructor
  · rintro ⟨k, h⟩
    induction k generalizing v with
    | zero => cases h; exact .inl (Conn.refl _ _)
    | succ k ih =>
      rcases h with h | ⟨x, h, j, hj, e⟩
      · exact ih h
      have h0 := ih h
      rcases (hQ j).1 hj with hj | rfl
      · have h1 : Conn (RP en P) x v := Conn.one ⟨j, hj, e⟩
        rcases h0 with h0 | ⟨h0, h2⟩ | ⟨h0, h2⟩
        · exact .inl (h0.trans h1)
        · exact .inr (.inl ⟨h0, h2.trans h1⟩)
        · exact .inr (.inr ⟨h0, h2.trans h1⟩)
      · rcases e with ⟨rfl, rfl⟩ | ⟨rfl, rfl⟩
        · rcases h0 with h0 | ⟨h0, h2⟩ | ⟨h0, h2⟩
          · exact .inr (.inl ⟨h0, Conn.refl _ _⟩)
          · exact .inr (.inl ⟨h0, Conn.refl _ _⟩)
          · exact .inl h0
        · rcases h0 with h0 | ⟨h0, h2⟩ | ⟨h0, h2⟩
          · exact .inr (.inr ⟨h0, Conn.refl _ _⟩)
          · exact .inl h0
          · exact .inr (.inr ⟨h0, Conn.refl _ _⟩)
  · have hs : ∀ {u v}, Conn (RP en P) u v → Conn (RP en Q) u v := fun h => h.sub (RP.sub fun k hk => (hQ k).2 (.inl hk))
    have h1 : Conn (RP en Q) (en i).1 (en i).2 := Conn.one ⟨i, (hQ i).2 (.inr rfl), .inl ⟨rfl, rfl⟩⟩
    have h2 : Conn (RP en Q) (en i).2 (en i).1 := h1.symm RP.symm
    rintro (h | ⟨h, h'⟩ | ⟨h, h'⟩)
    · exact hs h
    · exact ((hs h).trans h1).trans (hs h')
    · exact ((hs h).trans h2).trans (hs h')
/-- A node that none that is joined with it is below. -/
def First (R : Nat → Nat → Prop) (v : Nat) : Prop := ∀ u, Conn R v u → v ≤ u
/-- How many parts there are. -/
noncomputable def parts (R : Nat → Nat → Prop) (N : Nat) : Nat := ((List.range N).filter fun v => decide (First R v)).length
theorem parts_congr {R R' : Nat → Nat → Prop} {N : Nat} (h : ∀ u v, Conn R u v ↔ Conn R' u v) : parts R N = parts R' N := by
  unfold parts First
  congr 1
  apply List.filter_congr
  intro v _
  rw [decide_eq_decide]
  exact ⟨fun a u hu => a u ((h v u).2 hu), fun a u hu => a u ((h v u).1 hu)⟩
theorem first_ex (R : Nat → Nat → Prop) (v : Nat) : ∃ u, Conn R v u ∧ ∀ x, Conn R v x → u ≤ x := by
  have : ∀ n, (∃ u, u ≤ n ∧ Conn R v u) → ∃ u, Conn R v u ∧ ∀ x, Conn R v x → u ≤ x := by
    intro n
    induction n with
    | zero =>
      rintro ⟨u, hu, h⟩
      exact ⟨u, h, fun x _ => by omega⟩
    | succ n ih =>
      rintro ⟨u, hu, h⟩
      by_cases h' : ∃ u, u ≤ n ∧ Conn R v u
      · exact ih h'
      · refine ⟨u, h, fun x hx => ?_⟩
        apply Nat.le_of_not_lt
        intro hlt
        exact h' ⟨x, by omega, hx⟩
  exact this v ⟨v, Nat.le_refl _, Conn.refl _ _⟩
/-- One is taken away. -/
theorem count_less {p q : Nat → Bool} {x : Nat} (hp : p x = true) (hq : ∀ v, q v = (p v && decide (v ≠ x))) : ∀ {N : Nat}, x < N → ((List.range N).filter q).length + 1 = ((List.range N).filter p).length := by
  intro N
  induction N with
  | zero => intro h; omega
  | succ N ih =>
    intro h
    rw [List.range_succ, List.filter_append, List.filter_append, List.length_append, List.length_append]
    by_cases e : x = N
    · subst e
      have h1 : (List.range x).filter q = (List.range x).filter p := by
        apply List.filter_congr
        intro v hv
        have : v ≠ x := by have := List.mem_range.1 hv; omega
        rw [hq]; simp [this]
      have h2 : ([x].filter q) = [] := by simp [hq]
      have h3 : ([x].filter p) = [x] := by simp [hp]
      rw [h1, h2, h3]; simp
    · have := ih (by omega)
      have h2 : ([N].filter q) = [N].filter p := by
        have : N ≠ x := fun h => e h.symm
        simp [List.filter_cons, hq, this]
      rw [h2]; omega
/-- A link between two parts makes one of them. -/
theorem parts_more {P Q : Nat → Prop} {i N : Nat} (hQ : ∀ k, Q k ↔ P k ∨ k = i) (hN : ∀ k, Q k → (en k).1 < N ∧ (en k).2 < N) (hc : ¬ Conn (RP en P) (en i).1 (en i).2) : parts (RP en Q) N + 1 = parts (RP en P) N := by
  obtain ⟨m1, h1, h1'⟩ := first_ex (RP en P) (en i).1
  obtain ⟨m2, h2, h2'⟩ := first_ex (RP en P) (en i).2
  have sy : ∀ {u v}, Conn (RP en P) u v → Conn (RP en P) v u := fun h => h.symm RP.symm
  have hne : m1 ≠ m2 := by
    rintro rfl
    exact hc (h1.trans (sy h2))
  have hi := hN i ((hQ i).2 (.inr rfl))
  have key : ∀ {a b ma mb : Nat}, ((a = (en i).1 ∧ b = (en i).2) ∨ (a = (en i).2 ∧ b = (en i).1)) → Conn (RP en P) a ma → (∀ x, Conn (RP en P) a x → ma ≤ x) → Conn (RP en P) b mb → (∀ x, Conn (RP en P) b x → mb ≤ x) → ma < mb → b < N →
      parts (RP en Q) N + 1 = parts (RP en P) N := by
    intro a b ma mb hab ha ha' hb hb' hlt hbN
    have hconn : ∀ {u v}, Conn (RP en Q) u v ↔ Conn (RP en P) u v ∨ (Conn (RP en P) u a ∧ Conn (RP en P) b v) ∨ (Conn (RP en P) u b ∧ Conn (RP en P) a v) := by
      intro u v
      rw [conn_more hQ]
      rcases hab with ⟨rfl, rfl⟩ | ⟨rfl, rfl⟩
      · exact Iff.rfl
      · constructor
        · rintro (h | h | h)
          · exact .inl h
          · exact .inr (.inr h)
          · exact .inr (.inl h)
        · rintro (h | h | h)
          · exact .inl h
          · exact .inr (.inr h)
          · exact .inr (.inl h)
    have hmbN : mb < N := by have := hb' b (Conn.refl _ _); omega
    refine count_less (x := mb) ?_ ?_ hmbN
    · simp only [decide_eq_true_eq]
      intro u hu
      exact hb' u (hb.trans hu)
    · intro v
      rw [Bool.eq_iff_iff]
      simp only [decide_eq_true_eq, Bool.and_eq_true]
      constructor
      · intro h
        refine ⟨fun u hu => h u (hconn.2 (.inl hu)), ?_⟩
        rintro rfl
        have := h ma (hconn.2 (.inr (.inr ⟨sy hb, ha⟩)))
        omega
      · rintro ⟨h, hv⟩ u hu
        rcases hconn.1 hu with hu | ⟨h3, h4⟩ | ⟨h3, h4⟩
        · exact h u hu
        · -- v is in a's part: v = ma
          have : v ≤ ma := h ma (h3.trans ha)
          have := hb' u h4
          omega
        · have e1 : v ≤ mb := h mb (h3.trans hb)
          have e2 : mb ≤ v := hb' v (sy h3)
          omega
  rcases Nat.lt_or_gt_of_ne hne with hlt | hlt
  · exact key (.inl ⟨rfl, rfl⟩) h1 h1' h2 h2' hlt hi.2
  · exact key (.inr ⟨rfl, rfl⟩) h2 h2' h1 h1' hlt hi.1
theorem conn_same {P Q : Nat → Prop} {i : Nat} (hQ : ∀ k, Q k ↔ P k ∨ k = i) (hc : Conn (RP en P) (en i).1 (en i).2) (u v : Nat) : Conn (RP en Q) u v ↔ Conn (RP en P) u v := by
  rw [conn_more hQ]
  have hc' := hc.symm RP.symm
  constructor
  · rintro (h | ⟨h, h'⟩ | ⟨h, h'⟩)
    · exact h
    · exact (h.trans hc).trans h'
    · exact (h.trans hc').trans h'
  · exact .inl
theorem filter_all {p : Nat → Bool} {N : Nat} (h : ∀ v, v < N → p v = true) : ((List.range N).filter p).length = N := by
  rw [List.filter_eq_self.2 (fun v hv => h v (List.mem_range.1 hv))]
  simp
/-- No more nodes than parts and links; as many just if all links are cuts. -/
theorem forest {N : Nat} : ∀ (I : List Nat), I.Nodup → (∀ k ∈ I, (en k).1 < N ∧ (en k).2 < N) →
    N ≤ parts (RP en (· ∈ I)) N + I.length ∧ (N = parts (RP en (· ∈ I)) N + I.length ↔ ∀ j ∈ I, ¬ Conn (RP en (fun k => k ∈ I ∧ k ≠ j)) (en j).1 (en j).2) := by
  intro I
  induction I with
  | nil =>
    intro _ _
    have : parts (RP en (· ∈ ([] : List Nat))) N = N := by
      refine filter_all fun v _ => ?_
      simp only [decide_eq_true_eq]
      rintro u ⟨k, hk⟩
      have : v = u := by
        induction k generalizing u with
        | zero => exact hk
        | succ k ih =>
          rcases hk with hk | ⟨x, hk, j, hj, _⟩
          · exact ih u hk
          · simp at hj
      omega
    rw [this]; simp
  | cons i I ih =>
    intro hn hN
    obtain ⟨hi, hn⟩ := List.nodup_cons.1 hn
    obtain ⟨h1, h2⟩ := ih hn (fun k hk => hN k (by simp [hk]))
    have hQ : ∀ k, k ∈ i :: I ↔ k ∈ I ∨ k = i := fun k => by simp [or_comm]
    have hself : ∀ k, (k ∈ i :: I ∧ k ≠ i) ↔ k ∈ I := fun k => by
      constructor
      · rintro ⟨h, e⟩
        rcases List.mem_cons.1 h with h | h
        · exact absurd h e
        · exact h
      · intro h
        exact ⟨by simp [h], by rintro rfl; exact hi h⟩
    have hselfR : Conn (RP en (fun k => k ∈ i :: I ∧ k ≠ i)) (en i).1 (en i).2 ↔ Conn (RP en (· ∈ I)) (en i).1 (en i).2 :=
      ⟨fun h => h.sub (RP.sub fun k hk => (hself k).1 hk), fun h => h.sub (RP.sub fun k hk => (hself k).2 hk)⟩
    have hlen : (i :: I).length = I.length + 1 := rfl
    by_cases hc : Conn (RP en (· ∈ I)) (en i).1 (en i).2
    · have e : parts (RP en (fun x => x ∈ i :: I)) N = parts (RP en (fun x => x ∈ I)) N := parts_congr (N := N) (conn_same hQ hc)
      rw [e, hlen]
      refine ⟨by omega, ⟨fun h => by omega, fun h => ?_⟩⟩
      · exact absurd (hselfR.2 hc) (h i (by simp))
    · have e : parts (RP en (fun x => x ∈ i :: I)) N + 1 = parts (RP en (fun x => x ∈ I)) N := parts_more hQ (N := N) hN hc
      rw [hlen]
      refine ⟨by omega, ?_⟩
      have h3 : (N = parts (RP en (· ∈ i :: I)) N + (I.length + 1)) ↔ N = parts (RP en (· ∈ I)) N + I.length := by omega
      rw [h3, h2]
      constructor
      · intro h j hj
        rcases List.mem_cons.1 hj with e | hjI
        · subst e; exact fun hh => hc (hselfR.1 hh)
        · intro hh
          have hij : j ≠ i := by rintro rfl; exact hi hjI
          have hQ' : ∀ k, (k ∈ i :: I ∧ k ≠ j) ↔ (k ∈ I ∧ k ≠ j) ∨ k = i := by
            intro k
            constructor
            · rintro ⟨h, e⟩
              rcases List.mem_cons.1 h with h | h
              · exact .inr h
              · exact .inl ⟨h, e⟩
            · rintro (⟨h, e⟩ | rfl)
              · exact ⟨by simp [h], e⟩
              · exact ⟨by simp, fun e => hij e.symm⟩
          have hsub : ∀ {u v}, Conn (RP en (fun k => k ∈ I ∧ k ≠ j)) u v → Conn (RP en (· ∈ I)) u v := fun h => h.sub (RP.sub fun k hk => hk.1)
          have hjj : Conn (RP en (· ∈ I)) (en j).1 (en j).2 := Conn.one ⟨j, hjI, .inl ⟨rfl, rfl⟩⟩
          have sy : ∀ {u v}, Conn (RP en (· ∈ I)) u v → Conn (RP en (· ∈ I)) v u := fun h => h.symm RP.symm
          rcases (conn_more hQ').1 hh with h4 | ⟨h4, h5⟩ | ⟨h4, h5⟩
          · exact h j hjI h4
          · exact hc (((sy (hsub h4)).trans hjj).trans (sy (hsub h5)))
          · exact hc (((hsub h5).trans (sy hjj)).trans (hsub h4))
      · intro h j hj hh
        refine h j (by simp [hj]) (hh.sub (RP.sub fun k hk => ⟨by simp [hk.1], hk.2⟩))
end Gr
end Go.Proofs.YtidmpfenkgihjaaDoor

/- A table of routes, plainly: a list, in which each one has the number of its place. No program is walked here. -/
import Derived.Test.YtjdnkbpclhldfaaDoorRt
namespace Go.Proofs.YtjdnkbpclhldfaaDoor
set_option linter.unusedSimpArgs false
set_option linter.unusedVariables false
open Go.RowKit

/-- A route's number: its place; none: -1. -/
def findT (L : List Rt) (r : Rt) : Int := if r ∈ L then ((L.idxOf r : Nat) : Int) else -1
/-- Behind Add: the routes. -/
def addL (most : Int) (L : List Rt) (r : Rt) : List Rt := if r ∈ L then L else if most ≤ L.length then L else L ++ [r]
/-- What Add tells: the number. -/
def addN (most : Int) (L : List Rt) (r : Rt) : Int := if r ∈ L then ((L.idxOf r : Nat) : Int) else if most ≤ L.length then 0 else L.length
/-- What Add tells: the error. -/
def addE (most : Int) (L : List Rt) (r : Rt) : Int := if r ∈ L then 0 else if most ≤ L.length then 60 else 0
theorem idx_append {L M : List Rt} {r : Rt} (h : r ∈ L) : (L ++ M).idxOf r = L.idxOf r := by
  induction L with
  | nil => cases h
  | cons x L ih =>
    by_cases e : x = r
    · subst e; simp
    · have h' : r ∈ L := (List.mem_cons.1 h).resolve_left (fun e' => e e'.symm)
      rw [List.cons_append, List.idxOf_cons, List.idxOf_cons]
      have : (x == r) = false := by simp [e]
      rw [this]
      simp only [cond_false]
      rw [ih h']
theorem idx_new {L : List Rt} {r : Rt} (h : r ∉ L) : (L ++ [r]).idxOf r = L.length := by
  induction L with
  | nil => simp
  | cons x L ih =>
    have e : x ≠ r := fun e => h (by simp [e])
    have h' : r ∉ L := fun h' => h (by simp [h'])
    rw [List.cons_append, List.idxOf_cons]
    have : (x == r) = false := by simp [e]
    rw [this]
    simp only [cond_false]
    rw [ih h']; simp
theorem idx_lt {L : List Rt} {r : Rt} (h : r ∈ L) : L.idxOf r < L.length := List.idxOf_lt_length_of_mem h
theorem idx_at {L : List Rt} {r : Rt} (h : r ∈ L) : L[L.idxOf r]? = some r := by
  rw [List.getElem?_eq_getElem (idx_lt h), List.getElem_idxOf]
theorem idx_inj {L : List Rt} {r s : Rt} (hr : r ∈ L) (hs : s ∈ L) : L.idxOf r = L.idxOf s ↔ r = s := by
  constructor
  · intro e
    have h1 := idx_at hr
    rw [e, idx_at hs] at h1
    injection h1 with h1
    exact h1.symm
  · intro e; rw [e]
/-- Behind Add the route is there, if there was room, and has the number that was told. -/
theorem add_room {most : Int} {L : List Rt} {r : Rt} (h : (L.length : Int) < most) : addE most L r = 0 ∧ r ∈ addL most L r ∧ addN most L r = ((addL most L r).idxOf r : Nat) ∧ (addL most L r).length ≤ L.length + 1 ∧ ∃ M, addL most L r = L ++ M := by
  unfold addE addL addN
  by_cases hr : r ∈ L
  · simp only [hr, if_true]
    exact ⟨trivial, trivial, trivial, by omega, [], by simp⟩
  · simp only [hr, if_false]
    rw [if_neg (by omega), if_neg (by omega), if_neg (by omega)]
    exact ⟨by first | rfl | trivial, by simp, by rw [idx_new hr], by simp, [r], rfl⟩
theorem add_there {most : Int} {L : List Rt} {r : Rt} (h : r ∈ L) : addE most L r = 0 ∧ addL most L r = L ∧ addN most L r = ((L.idxOf r : Nat) : Int) := by
  unfold addE addL addN
  simp only [h, if_true]
  exact ⟨trivial, trivial, trivial⟩
/-- Routes added, one behind the other. -/
def addAll (most : Int) (L : List Rt) : List Rt → List Rt
  | [] => L
  | r :: rs => addAll most (addL most L r) rs
theorem addAll_snoc (most : Int) : ∀ (rs : List Rt) (L : List Rt) (r : Rt), addAll most L (rs ++ [r]) = addL most (addAll most L rs) r
  | [], _, _ => rfl
  | _ :: rs, _, r => addAll_snoc most rs _ r
theorem addAll_len {most : Int} : ∀ (rs L : List Rt), (addAll most L rs).length ≤ L.length + rs.length
  | [], L => by simp [addAll]
  | r :: rs, L => by
    have h1 := addAll_len (most := most) rs (addL most L r)
    have h2 : (addL most L r).length ≤ L.length + 1 := by
      unfold addL
      split
      · omega
      · split
        · omega
        · simp
    show (addAll most (addL most L r) rs).length ≤ _
    simp; omega
theorem addAll_pre {most : Int} : ∀ (rs L : List Rt), ∃ M, addAll most L rs = L ++ M
  | [], L => ⟨[], by simp [addAll]⟩
  | r :: rs, L => by
    obtain ⟨M, h⟩ := addAll_pre (most := most) rs (addL most L r)
    have : ∃ M', addL most L r = L ++ M' := by
      unfold addL
      split
      · exact ⟨[], by simp⟩
      · split
        · exact ⟨[], by simp⟩
        · exact ⟨[r], rfl⟩
    obtain ⟨M', h'⟩ := this
    exact ⟨M' ++ M, by show addAll most (addL most L r) rs = _; rw [h, h', List.append_assoc]⟩
/-- THE STAGE'S THEOREM, plainly: what was added keeps its number. -/
theorem addAll_keeps {most : Int} {L : List Rt} {rs : List Rt} (hm : (L.length : Int) + rs.length ≤ most) : ∀ i r, rs[i]? = some r →
    r ∈ addAll most L rs ∧ addN most (addAll most L (rs.take i)) r = ((addAll most L rs).idxOf r : Nat) := by
  intro i r hi
  have hlt := (List.getElem?_eq_some_iff.1 hi).1
  have hs : rs = rs.take i ++ [r] ++ rs.drop (i + 1) := by
    have h1 : rs.take (i + 1) = rs.take i ++ [r] := by rw [List.take_add_one, hi]; rfl
    rw [← h1, List.take_append_drop]
  have hl : ((addAll most L (rs.take i)).length : Int) < most := by
    have := addAll_len (most := most) (rs.take i) L
    rw [List.length_take] at this
    omega
  obtain ⟨-, h1, h2, -, -⟩ := add_room (r := r) hl
  rw [← addAll_snoc] at h1 h2
  have happ : ∀ (ks ls K : List Rt), addAll most K (ks ++ ls) = addAll most (addAll most K ks) ls := by
    intro ks
    induction ks with
    | nil => intro ls K; rfl
    | cons a ks ih => intro ls K; exact ih ls _
  have he : addAll most L rs = addAll most (addAll most L (rs.take i ++ [r])) (rs.drop (i + 1)) := by
    rw [← happ, ← hs]
  obtain ⟨M, hM⟩ := addAll_pre (most := most) (rs.drop (i + 1)) (addAll most L (rs.take i ++ [r]))
  rw [he, hM]
  exact ⟨List.mem_append_left _ h1, by rw [h2, idx_append h1]⟩
/-- With less room: the beginning of what there is with more. -/
theorem add_take {k m : Int} {T U : List Rt} (hk : 0 ≤ k) (hkm : k ≤ m) (hT : T = U.take k.toNat) (hU : (U.length : Int) < m) (r : Rt) :
    addL k T r = (addL m U r).take k.toNat ∧ (addE k T r = 0 → addN k T r = addN m U r ∨ (k ≤ T.length)) ∧ (addE k T r ≠ 0 → addE k T r = 60 ∧ (T.length : Int) = k ∧ findT T r = -1 ∧ addN k T r = 0) ∧ addE m U r = 0 := by
  have hE := (add_room (r := r) hU).1
  by_cases hle : (U.length : Int) ≤ k
  · have hTU : T = U := by rw [hT, List.take_of_length_le (by omega)]
    subst hTU
    by_cases hr : r ∈ T
    · obtain ⟨a1, a2, a3⟩ := add_there (most := k) hr
      obtain ⟨b1, b2, b3⟩ := add_there (most := m) hr
      exact ⟨by rw [a2, b2]; exact hT, fun _ => .inl (by rw [a3, b3]), fun h => absurd a1 h, hE⟩
    · unfold addL addE addN findT
      simp only [hr, if_false]
      rw [if_neg (show ¬ m ≤ (T.length : Int) by omega), if_neg (show ¬ m ≤ (T.length : Int) by omega), if_neg (show ¬ m ≤ (T.length : Int) by omega)]
      by_cases hf : k ≤ (T.length : Int)
      · simp only [hf, if_true]
        refine ⟨?_, fun h => by simp at h, fun _ => ⟨by first | rfl | trivial, by omega, by first | rfl | trivial, by first | rfl | trivial⟩, by first | rfl | trivial⟩
        rw [List.take_append_of_le_length (by omega)]; exact hT
      · simp only [hf, if_false]
        refine ⟨?_, fun _ => .inl (by first | rfl | trivial), fun h => absurd (by first | rfl | trivial) h, by first | rfl | trivial⟩
        rw [List.take_of_length_le (by simp; omega)]
  · have hTl : (T.length : Int) = k := by rw [hT, List.length_take]; omega
    have hpre : ∃ M, addL m U r = U ++ M := (add_room (r := r) hU).2.2.2.2
    obtain ⟨M, hM⟩ := hpre
    have htk : (addL m U r).take k.toNat = T := by rw [hM, List.take_append_of_le_length (by omega)]; exact hT.symm
    rw [htk]
    by_cases hr : r ∈ T
    · obtain ⟨a1, a2, a3⟩ := add_there (most := k) hr
      exact ⟨a2, fun _ => .inr (by omega), fun h => absurd a1 h, hE⟩
    · unfold addL addE addN findT
      simp only [hr, if_false]
      rw [if_pos (by omega), if_pos (by omega), if_pos (by omega)]
      exact ⟨by first | rfl | trivial, fun h => by simp at h, fun _ => ⟨by first | rfl | trivial, hTl, by first | rfl | trivial, by first | rfl | trivial⟩, hE⟩
end Go.Proofs.YtjdnkbpclhldfaaDoor

/- The ways of a network and the routes that they make, plainly: what a way makes is what becomes of its rest's route over its first link; in the end nodes hold the best that ways make. No program is walked here. -/
import Derived.Test.YtlnnmjomdblciaaGreatRoundP
import Derived.Test.YtlnnmjomdblciaaGreatWayP
namespace Go.Proofs.YtlnnmjomdblciaaGreat
set_option linter.unusedSimpArgs false
set_option linter.unusedVariables false
open Go.RowKit

section
/-- A node's neighbours, rising. -/
def nbL (L : List Lk) (f : Int) (N u : Nat) : List Nat := (List.range N).filter fun v => (arL L f u L.length).any fun i => decide (othL L (i : Nat) u = (v : Int))
theorem othL_at {L : List Lk} {i : Nat} {x : Lk} (h : L[i]? = some x) (n : Int) : othL L i n = othV x.a x.b n := by simp [othL, h]
theorem mem_nb {L : List Lk} {f : Int} {N u v : Nat} (hok : LksOk L N) : v ∈ nbL L f N u ↔ Adj L f u v := by
  unfold nbL
  rw [List.mem_filter, List.mem_range, List.any_eq_true]
  constructor
  · rintro ⟨_, i, hi, ho⟩
    obtain ⟨hlt, har⟩ := mem_arL.1 hi
    obtain ⟨x, hx⟩ : ∃ x, L[i]? = some x := ⟨_, List.getElem?_eq_getElem hlt⟩
    obtain ⟨m, h1, _, h3⟩ := ar_oth hok hx har
    rw [decide_eq_true_eq, othL_at hx, h1] at ho
    have : m = v := by omega
    subst this; exact h3
  · intro h
    obtain ⟨i, x, hx, har, ho⟩ := adj_ar hok h
    obtain ⟨m, h1, h2, _⟩ := ar_oth hok hx har
    rw [ho] at h1
    have : v = m := by omega
    subst this
    exact ⟨h2, i, mem_arL.2 ⟨(List.getElem?_eq_some_iff.1 hx).1, har⟩, by rw [decide_eq_true_eq, othL_at hx, ho]⟩
theorem nb_sorted (L : List Lk) (f : Int) (N u : Nat) : (nbL L f N u).Pairwise (· < ·) := List.Pairwise.filter _ List.pairwise_lt_range
theorem adj_lt {L : List Lk} {f : Int} {N : Nat} (hok : LksOk L N) : ∀ u v, Adj L f u v → u < N ∧ v < N := by
  rintro u v ⟨i, x, hx, _, h⟩
  have := hok x (List.mem_of_getElem? hx)
  omega
theorem adj_ne {L : List Lk} {f : Int} {N : Nat} (hok : LksOk L N) {u v : Nat} (h : Adj L f u v) : u ≠ v := by
  obtain ⟨i, x, hx, _, h⟩ := h
  have := hok x (List.mem_of_getElem? hx)
  omega
/-- All ways from a to b. -/
def waysN (p : Net) (f : Int) (a b : Nat) : List (List Nat) := Gr.waysL (nbL p.links f p.nodes.length) p.nodes.length a b
theorem mem_waysN {p : Net} {f : Int} {a b : Nat} (hok : LksOk p.links p.nodes.length) (ha : a < p.nodes.length) (q : List Nat) : q ∈ waysN p f a b ↔ Gr.Way (Adj p.links f) b a q :=
  Gr.mem_ways (fun _ _ => mem_nb hok) (adj_lt hok) ha q

/-! ### The link between two nodes -/
def isBet (u v : Nat) (x : Lk) : Bool := decide (x.a = ((min u v : Nat) : Int)) && decide (x.b = ((max u v : Nat) : Int))
def betI (L : List Lk) (f : Int) (u v : Nat) : Int := match L.findIdx? (isBet u v) with | some i => if hasB f i then -1 else i | none => -1
theorem isBet_comm (u v : Nat) : isBet u v = isBet v u := by unfold isBet; rw [Nat.min_comm, Nat.max_comm]
theorem betI_comm (L : List Lk) (f : Int) (u v : Nat) : betI L f u v = betI L f v u := by unfold betI; rw [isBet_comm]
theorem pair_uniq {L : List Lk} (hnd : (pairsOf L).Nodup) {i j : Nat} {x y : Lk} (hx : L[i]? = some x) (hy : L[j]? = some y) (h1 : x.a = y.a) (h2 : x.b = y.b) : i = j := by
  have hi := (List.getElem?_eq_some_iff.1 hx).1
  have hj := (List.getElem?_eq_some_iff.1 hy).1
  unfold pairsOf at hnd
  refine (List.getElem?_inj (by simpa using hi) hnd).1 ?_
  rw [List.getElem?_map, List.getElem?_map, hx, hy]
  simp [h1, h2]
theorem betI_adj {L : List Lk} {f : Int} {N u v : Nat} (hok : LksOk L N) (hnd : (pairsOf L).Nodup) {i : Nat} {x : Lk} (hx : L[i]? = some x) (hf : hasB f i = false) (h : (x.a = u ∧ x.b = v) ∨ (x.b = u ∧ x.a = v)) : betI L f u v = i := by
  have hxo := hok x (List.mem_of_getElem? hx)
  have hb : isBet u v x = true := by
    unfold isBet
    rw [Bool.and_eq_true, decide_eq_true_eq, decide_eq_true_eq]
    omega
  have hi := (List.getElem?_eq_some_iff.1 hx).1
  unfold betI
  cases hfi : L.findIdx? (isBet u v) with
  | none =>
    rw [List.findIdx?_eq_none_iff] at hfi
    rw [hfi x (List.mem_of_getElem? hx)] at hb; cases hb
  | some j =>
    obtain ⟨hj, hbj, _⟩ := List.findIdx?_eq_some_iff_getElem.1 hfi
    have hij : i = j := by
      refine pair_uniq hnd hx (List.getElem?_eq_getElem hj) ?_ ?_
      · unfold isBet at hb hbj
        rw [Bool.and_eq_true, decide_eq_true_eq, decide_eq_true_eq] at hb hbj
        rw [hb.1, hbj.1]
      · unfold isBet at hb hbj
        rw [Bool.and_eq_true, decide_eq_true_eq, decide_eq_true_eq] at hb hbj
        rw [hb.2, hbj.2]
    subst hij
    simp [hf]
/-- What is known of two neighbours. -/
structure Joint (L : List Lk) (f : Int) (N u v i : Nat) (x : Lk) : Prop where
  bet : betI L f u v = i
  at_ : L[i]? = some x
  up : hasB f i = false
  ends : (x.a = u ∧ x.b = v) ∨ (x.b = u ∧ x.a = v)
theorem joint_of {L : List Lk} {f : Int} {N u v : Nat} (hok : LksOk L N) (hnd : (pairsOf L).Nodup) (h : Adj L f u v) : ∃ i x, Joint L f N u v i x := by
  obtain ⟨i, x, hx, hf, he⟩ := h
  exact ⟨i, x, betI_adj hok hnd hx hf he, hx, hf, he⟩
theorem Joint.oth {L : List Lk} {f : Int} {N u v i : Nat} {x : Lk} (j : Joint L f N u v i x) (hok : LksOk L N) : othL L (i : Nat) u = v := by
  have hxo := hok x (List.mem_of_getElem? j.at_)
  rw [othL_at j.at_]
  unfold othV
  rcases j.ends with ⟨h1, h2⟩ | ⟨h1, h2⟩
  · rw [if_pos h1.symm, h2]
  · rw [if_neg (by omega), if_pos h1.symm, h2]
theorem Joint.ar {L : List Lk} {f : Int} {N u v i : Nat} {x : Lk} (j : Joint L f N u v i x) (hok : LksOk L N) (hnd : (pairsOf L).Nodup) : i ∈ arL L f u L.length := by
  have hlt := (List.getElem?_eq_some_iff.1 j.at_).1
  obtain ⟨k, y, hy, har, ho⟩ := adj_ar hok (show Adj L f u v from ⟨i, x, j.at_, j.up, j.ends⟩)
  have hyo := hok y (List.mem_of_getElem? hy)
  have hxo := hok x (List.mem_of_getElem? j.at_)
  have : k = i := by
    obtain ⟨m, h1, h2, h3⟩ := ar_oth hok hy har
    have hends : (y.a = u ∧ y.b = v) ∨ (y.b = u ∧ y.a = v) := by
      unfold othV at ho
      split at ho
      · left; omega
      · split at ho
        · right; omega
        · omega
    have e := j.ends
    exact pair_uniq hnd hy j.at_ (by omega) (by omega)
  subst this
  exact mem_arL.2 ⟨hlt, har⟩

/-! ### The route that a way makes -/
def wayR (p : Net) (f : Int) : List Nat → Rt
  | [] => rtNone
  | [_] => rtOwn p
  | u :: v :: t => overR p (betI p.links f u v) u (wayR p f (v :: t))
def asL (p : Net) (t : List Nat) : List Int := t.map fun (v : Nat) => asOf p v
def costL (p : Net) (f : Int) : List Nat → Int
  | [] => 0
  | [_] => 0
  | u :: v :: t => costOf p (betI p.links f u v) + costL p f (v :: t)
def alongR (p : Net) (f : Int) (q : List Nat) : Rt :=
  if p.proto = 2 then (if rtRightB ⟨2, 0, asL p q.tail⟩ && (decide (((asL p q.tail).length : Int) ≤ p.cap) && !decide (asOf p (q.headD 0 : Nat) ∈ asL p q.tail)) then ⟨2, 0, asL p q.tail⟩ else rtNone)
  else if rtRightB ⟨1, costL p f q, []⟩ then ⟨1, costL p f q, []⟩ else rtNone
theorem wayR_holds {p : Net} (G : NetG p) (f : Int) (q : List Nat) : Holds p (asOf p (q.headD 0 : Nat)) (wayR p f q) := by
  rcases q with _ | ⟨u, _ | ⟨v, t⟩⟩
  · exact holds_none _ _
  · exact holds_own G _
  · exact holds_over _ _ _ _
section
variable {p : Net} {f : Int}
theorem cost_nonneg (G : NetG p) (hok : LksOk p.links p.nodes.length) (hnd : (pairsOf p.links).Nodup) {b u : Nat} {q : List Nat} (h : Gr.Way (Adj p.links f) b u q) : 0 ≤ costL p f q ∧ costL p f q ≤ 15 * q.length := by
  induction h with
  | one => simp [costL]
  | @cons u v t h ht hu ih =>
    obtain ⟨t', rfl⟩ := ht.head
    obtain ⟨i, x, j⟩ := joint_of hok hnd h
    have hc := G.links x (List.mem_of_getElem? j.at_)
    have e : costOf p (betI p.links f u v) = x.cost := by rw [j.bet]; simp [costOf, j.at_]
    simp only [costL, e]
    simp only [List.length_cons] at ih ⊢
    omega
theorem right_vec (c : Int) : rtRightB ⟨1, c, []⟩ = (decide (0 ≤ c) && decide (c ≤ 15)) := by unfold rtRightB; simp
theorem way_lt (hok : LksOk p.links p.nodes.length) {b u : Nat} {q : List Nat} (hb : b < p.nodes.length) (h : Gr.Way (Adj p.links f) b u q) : ∀ v ∈ q, v < p.nodes.length := by
  induction h with
  | one => intro v hv; simp at hv; omega
  | cons h ht hu ih =>
    intro v hv
    rcases List.mem_cons.1 hv with e | hv
    · have := (adj_lt hok _ _ h).1; omega
    · exact ih v hv
theorem along_path (G : NetG p) (hp : p.proto = 2) (q : List Nat) (hq : ∀ v ∈ q, v < p.nodes.length) :
    (alongR p f q = ⟨2, 0, asL p q.tail⟩ ∧ ((asL p q.tail).length : Int) ≤ p.cap ∧ (asL p q.tail).Nodup ∧ asOf p (q.headD 0 : Nat) ∉ asL p q.tail) ∨ (alongR p f q = rtNone ∧ ¬ (((asL p q.tail).length : Int) ≤ p.cap ∧ (asL p q.tail).Nodup ∧ asOf p (q.headD 0 : Nat) ∉ asL p q.tail)) := by
  have hcap : 1 ≤ p.cap ∧ p.cap ≤ 12 := by have := G.proto; omega
  have hnum : ∀ x ∈ asL p q.tail, badNum x = false := by
    intro x hx
    obtain ⟨v, hv, rfl⟩ := List.mem_map.1 hx
    have := G.asIn (i := (v : Int)) (by omega) (by have := hq v (List.mem_of_mem_tail hv); omega)
    unfold badNum
    simp; omega
  unfold alongR
  rw [if_pos hp]
  by_cases hc : ((asL p q.tail).length : Int) ≤ p.cap ∧ (asL p q.tail).Nodup ∧ asOf p (q.headD 0 : Nat) ∉ asL p q.tail
  · left
    refine ⟨?_, hc⟩
    rw [if_pos]
    obtain ⟨h1, h2, h3⟩ := hc
    have h12 : (asL p q.tail).length ≤ 12 := by omega
    have hb : (asL p q.tail).any badNum = false := List.any_eq_false.2 (fun x hx => by rw [hnum x hx]; simp)
    simp [rtRightB, listB, hb, h1, h2, h12]
    simpa using h3
  · right
    refine ⟨?_, hc⟩
    rw [if_neg]
    intro h
    apply hc
    simp only [Bool.and_eq_true, decide_eq_true_eq, Bool.not_eq_true', decide_eq_false_iff_not] at h
    refine ⟨h.2.1, ?_, h.2.2⟩
    have h1 := h.1
    simp [rtRightB, listB] at h1
    exact h1.2.2
theorem along_way (G : NetG p) (hok : LksOk p.links p.nodes.length) (hnd : (pairsOf p.links).Nodup) {b u : Nat} {q : List Nat} (hb : b < p.nodes.length) (h : Gr.Way (Adj p.links f) b u q) : alongR p f q = wayR p f q := by
  by_cases hp : p.proto = 2
  · have hcap : 1 ≤ p.cap ∧ p.cap ≤ 12 := by have := G.proto; omega
    induction h with
    | one =>
      rcases along_path (f := f) G hp [b] (by intro v hv; simp at hv; omega) with ⟨h, _⟩ | ⟨_, h⟩
      · rw [h]; simp [wayR, rtOwn, hp, asL]
      · exact absurd ⟨by simp [asL]; omega, by simp [asL], by simp [asL]⟩ h
    | @cons u v t h ht hu ih =>
      obtain ⟨t', rfl⟩ := ht.head
      obtain ⟨i, x, j⟩ := joint_of hok hnd h
      have huv := adj_lt hok _ _ h
      have hlt := way_lt hok hb ht
      have ho : othL p.links (betI p.links f u v) u = v := by rw [j.bet]; exact j.oth hok
      have h2 := along_path (f := f) G hp (u :: v :: t') (by
        intro y hy
        rcases List.mem_cons.1 hy with e | hy
        · omega
        · exact hlt y hy)
      show alongR p f (u :: v :: t') = overR p (betI p.links f u v) u (wayR p f (v :: t'))
      rw [← ih]
      have e1 : asL p (u :: v :: t').tail = asOf p (v : Nat) :: asL p t' := rfl
      have e2 : asL p (v :: t').tail = asL p t' := rfl
      have e3 : ((u :: v :: t').headD 0) = u := rfl
      have e4 : ((v :: t').headD 0) = v := rfl
      rw [e1, e3] at h2
      have h1 := along_path (f := f) G hp (v :: t') hlt
      rw [e2, e4] at h1
      rcases h1 with ⟨a1, a2, a3, a4⟩ | ⟨a1, a2⟩
      · rw [a1]
        have hh : Holds p (asOf p (othL p.links (betI p.links f u v) u)) ⟨2, 0, asL p t'⟩ := by
          rw [ho]
          refine ⟨⟨.inr (.inr rfl), (fun h => by simp at h), (fun h => by simp at h), fun _ => ⟨rfl, by simp; omega, a3, ?_⟩⟩, .inr (.inl ⟨hp, rfl, a2, a4⟩)⟩
          intro y hy
          obtain ⟨z, hz, rfl⟩ := List.mem_map.1 hy
          exact G.asIn (by omega) (by have := hlt z (List.mem_cons_of_mem _ hz); omega)
        rw [over_path G hp (by rw [ho]; omega) (by simp) hh (by rw [ho]; exact G.asIn (by omega) (by omega)), ho]
        rcases h2 with ⟨b1, b2, b3, b4⟩ | ⟨b1, b2⟩
        · rw [b1, if_pos]
          simp at b2 b4
          exact ⟨by simp; omega, b4.1, b4.2⟩
        · rw [b1, if_neg]
          rintro ⟨c1, c2, c3⟩
          apply b2
          simp at c1
          exact ⟨by simp; omega, List.nodup_cons.2 ⟨a4, a3⟩, by simp; exact ⟨c2, c3⟩⟩
      · rw [a1, over_none (.inr (.inl rfl))]
        rcases h2 with ⟨b1, b2, b3, b4⟩ | ⟨b1, b2⟩
        · refine absurd ⟨?_, (List.nodup_cons.1 b3).2, (List.nodup_cons.1 b3).1⟩ a2
          simp at b2; omega
        · exact b1
  · have hv : ∀ q, alongR p f q = if 0 ≤ costL p f q ∧ costL p f q ≤ 15 then ⟨1, costL p f q, []⟩ else rtNone := by
      intro q
      unfold alongR
      rw [if_neg hp, right_vec]
      by_cases hc : 0 ≤ costL p f q ∧ costL p f q ≤ 15
      · rw [if_pos hc, if_pos (by simp [hc])]
      · rw [if_neg hc, if_neg (by simpa using hc)]
    induction h with
    | one => rw [hv]; simp [wayR, rtOwn, hp, costL]
    | @cons u v t h ht hu ih =>
      have hn := (cost_nonneg G hok hnd ht).1
      obtain ⟨t', rfl⟩ := ht.head
      obtain ⟨i, x, j⟩ := joint_of hok hnd h
      have hc := G.links x (List.mem_of_getElem? j.at_)
      have e : costOf p (betI p.links f u v) = x.cost := by rw [j.bet]; simp [costOf, j.at_]
      have ho : othL p.links (betI p.links f u v) u = v := by rw [j.bet]; exact j.oth hok
      show alongR p f (u :: v :: t') = overR p (betI p.links f u v) u (wayR p f (v :: t'))
      rw [← ih, hv, hv (v :: t')]
      have ec : costL p f (u :: v :: t') = x.cost + costL p f (v :: t') := by simp only [costL, e]
      rw [ec]
      generalize costL p f (v :: t') = c at *
      by_cases h15 : c ≤ 15
      · rw [if_pos (⟨hn, h15⟩ : 0 ≤ c ∧ c ≤ 15)]
        have hh : Holds p (asOf p (othL p.links (betI p.links f u v) u)) ⟨1, c, []⟩ :=
          ⟨⟨.inr (.inl rfl), (fun h => by simp at h), fun _ => ⟨hn, h15, rfl⟩, fun h => by simp at h⟩, .inr (.inr ⟨hp, rfl⟩)⟩
        rw [over_vec hp (by rw [ho]; omega) (by simp) hh (by rw [e]; omega), e]
        by_cases hc2 : c + x.cost ≤ 15
        · rw [if_pos (⟨by omega, by omega⟩ : 0 ≤ x.cost + c ∧ x.cost + c ≤ 15), if_pos (show (⟨1, c, []⟩ : Rt).cost + x.cost ≤ 15 from hc2), Int.add_comm]
        · rw [if_neg (by omega), if_neg (show ¬ (⟨1, c, []⟩ : Rt).cost + x.cost ≤ 15 from hc2)]
      · rw [if_neg (by omega), if_neg (by omega), over_none (.inr (.inl rfl))]
/-- A way that is turned is as dear. -/
theorem costL_snoc : ∀ (q : List Nat) (u v : Nat), costL p f (q ++ [u, v]) = costL p f (q ++ [u]) + costOf p (betI p.links f u v)
  | [], u, v => by simp [costL]
  | [x], u, v => by simp [costL]
  | x :: y :: q, u, v => by
    have := costL_snoc (y :: q) u v
    simp only [List.cons_append, costL] at this ⊢
    omega
theorem costL_rev : ∀ q : List Nat, costL p f q.reverse = costL p f q
  | [] => rfl
  | [x] => rfl
  | u :: v :: t => by
    have h := costL_rev (v :: t)
    have e : (u :: v :: t).reverse = t.reverse ++ [v, u] := by simp
    rw [e, costL_snoc, betI_comm]
    have e2 : (v :: t).reverse = t.reverse ++ [v] := by simp
    rw [e2] at h
    rw [h]
    simp only [costL]
    omega

/-! ### In the end -/
/-- Two nodes of one AS number are one. -/
def ApartP (p : Net) : Prop := ∀ u v : Nat, u < p.nodes.length → v < p.nodes.length → asOf p u = asOf p v → u = v
/-- What is held is what a way makes, and so along this way. -/
def Made (p : Net) (f d : Int) (E : St) (u : Nat) : Prop :=
  ∃ (b : Nat) (q : List Nat), (b : Int) ∈ orgOf p d ∧ b < p.nodes.length ∧ Gr.Way (Adj p.links f) b u q ∧ E u = wayR p f q ∧ ∀ x ∈ q, (E x).kind ≠ 0 ∧ rtLen (E x) ≤ rtLen (E u) ∧ (x ≠ u → rtLen (E x) < rtLen (E u))
theorem made_of (G : NetG p) (hok : LksOk p.links p.nodes.length) (hnd : (pairsOf p.links).Nodup) {d : Int} {E : St} (hd : placeB d p.dests.length = true) (hor : ∀ b ∈ orgOf p d, 0 ≤ b ∧ b < p.nodes.length) (hfit : FitsF p E) (hE : stepF p f d E = E) :
    ∀ (n : Nat) (u : Nat), (E u).kind ≠ 0 → rtLen (E u) ≤ n → Made p f d E u := by
  have base : ∀ u : Nat, (E u).kind ≠ 0 → E u = ownR p d u → Made p f d E u := by
    intro u hk he
    have h1 : placeB d p.dests.length = true ∧ (u : Int) ∈ orgOf p d := by
      by_cases h : placeB d p.dests.length = true ∧ (u : Int) ∈ orgOf p d
      · exact h
      · rw [he, ownR, if_neg h] at hk; exact absurd rfl hk
    have h2 : ownR p d u = rtOwn p := by rw [ownR, if_pos h1]
    have hb := hor u h1.2
    exact ⟨u, [u], h1.2, by omega, .one, by rw [he, h2]; rfl, by intro x hx; simp at hx; subst hx; exact ⟨hk, Int.le_refl _, fun h => absurd rfl h⟩⟩
  intro n
  induction n with
  | zero =>
    intro u hk hl
    have hm := step_mem (f := f) (d := d) (l := E) (i := u) G
    rw [hE] at hm
    rcases mem_cand.1 hm with e | ⟨k, hk', e⟩
    · exact base u hk e
    · rw [e] at hk hl
      obtain ⟨h1, h2⟩ := over_more G hk
      have := ((hfit _).len h1).1
      omega
  | succ n ih =>
    intro u hk hl
    have hm := step_mem (f := f) (d := d) (l := E) (i := u) G
    rw [hE] at hm
    rcases mem_cand.1 hm with e | ⟨k, hk', e⟩
    · exact base u hk e
    · have hk0 := hk
      rw [e] at hk0
      obtain ⟨h1, h2⟩ := over_more G hk0
      rw [← e] at h2
      obtain ⟨hlt, har⟩ := mem_arL.1 hk'
      obtain ⟨x, hx⟩ : ∃ x, p.links[k]? = some x := ⟨_, List.getElem?_eq_getElem hlt⟩
      obtain ⟨v, hv, hvN, hadj⟩ := ar_oth hok hx har
      have hov : othL p.links (k : Nat) u = v := by rw [othL_at hx, hv]
      have hvv : (othL p.links (k : Nat) u).toNat = v := by rw [hov]; omega
      rw [hvv] at h1 h2 e
      obtain ⟨b, q, hb, hbN, hw, hq, hall⟩ := ih v h1 (by omega)
      have huq : u ∉ q := fun hu => by have := (hall u hu).2.1; omega
      obtain ⟨t, rfl⟩ := hw.head
      have hbet : betI p.links f u v = k := by
        obtain ⟨i, y, j⟩ := joint_of hok hnd hadj
        rw [j.bet]
        have hf : hasB f k = false := by
          unfold isAr at har
          rw [hx] at har
          simp at har
          first
            | exact har.1
            | exact har.2
            | simp_all
        have hends : (x.a = u ∧ x.b = v) ∨ (x.b = u ∧ x.a = v) := by
          unfold othV at hv
          split at hv
          · left; omega
          · split at hv
            · right; omega
            · omega
        rw [← betI_adj hok hnd hx hf hends, j.bet]
      refine ⟨b, u :: v :: t, hb, hbN, .cons hadj hw huq, ?_, ?_⟩
      · show E u = overR p (betI p.links f u v) u (wayR p f (v :: t))
        rw [hbet, ← hq]; exact e
      · intro y hy
        rcases List.mem_cons.1 hy with e' | hy
        · subst e'; exact ⟨hk, Int.le_refl _, fun h => absurd rfl h⟩
        · have := hall y hy
          exact ⟨this.1, by omega, fun _ => by omega⟩
theorem path_len (G : NetG p) (hp : p.proto = 2) {a : Int} {r : Rt} (h : Holds p a r) (hk : r.kind ≠ 0) : rtLen r = r.path.length ∧ r.kind = 2 := by
  rcases h.some hk with ⟨_, h1, _⟩ | ⟨q, _⟩
  · exact ⟨by simp [rtLen, h1], h1⟩
  · exact absurd hp q
/-- No way makes anything better than what is held. -/
theorem way_worse (G : NetG p) (hok : LksOk p.links p.nodes.length) (hnd : (pairsOf p.links).Nodup) {d : Int} {E : St} (hd : placeB d p.dests.length = true) (hor : ∀ b ∈ orgOf p d, 0 ≤ b ∧ b < p.nodes.length) (hfit : FitsF p E) (hE : stepF p f d E = E) (hap : p.proto = 2 → ApartP p)
    {b : Nat} (hb : (b : Int) ∈ orgOf p d) (hbN : b < p.nodes.length) {u : Nat} {q : List Nat} (h : Gr.Way (Adj p.links f) b u q) : NBt (wayR p f q) (E u) := by
  have hmin : ∀ u : Nat, ∀ x ∈ candF p f d E u, betterB x (E u) = false := by
    intro u x hx
    have := step_min (f := f) (d := d) (l := E) (i := u) G x hx
    rwa [hE] at this
  induction h with
  | one =>
    refine hmin b _ (mem_cand.2 (.inl ?_))
    rw [ownR, if_pos ⟨hd, hb⟩]; rfl
  | @cons u v t h ht hu ih =>
    obtain ⟨t', rfl⟩ := ht.head
    obtain ⟨i, x, j⟩ := joint_of hok hnd h
    have huv := adj_lt hok _ _ h
    have ho : othL p.links (i : Nat) u = v := j.oth hok
    have hov : (othL p.links (i : Nat) u).toNat = v := by rw [ho]; omega
    have hmem : overR p i u (E v) ∈ candF p f d E u := mem_cand.2 (.inr ⟨i, j.ar hok hnd, by rw [hov]⟩)
    have hW : wayR p f (u :: v :: t') = overR p i u (wayR p f (v :: t')) := by
      show overR p (betI p.links f u v) u (wayR p f (v :: t')) = _
      rw [j.bet]
    have hHw : Holds p (asOf p (v : Nat)) (wayR p f (v :: t')) := wayR_holds G f (v :: t')
    generalize hr : wayR p f (v :: t') = r at *
    have hok1 : RtOk (overR p i u r) := (holds_over p _ _ _).1
    have hok2 : RtOk (overR p i u (E v)) := (holds_over p _ _ _).1
    have hokE : RtOk (E u) := (hfit u).1
    rw [hW]
    show betterB _ _ = false
    by_cases hk : (overR p i u r).kind = 0
    · exact (lt_none hk hok1 _ hokE).1
    by_cases hk2 : (overR p i u (E v)).kind = 0
    rotate_left
    · have h1 : NBt (overR p i u r) (overR p i u (E v)) := by
        show betterB _ _ = false
        rw [over_keeps G hk hk2]; exact ih
      exact h1.trans hok1 hok2 hokE (hmin u _ hmem)
    -- what is held there does not come over, though what the way makes does
    obtain ⟨i1, i2, i3, i4⟩ := over_some G hk
    have hbet : betterB (E v) r = true := by
      rcases nb_eq hHw.1 (hfit v).1 ih with e | e
      · rw [e] at hk2; exact absurd hk2 hk
      · exact e
    have hEk := better_some (hfit v) hHw hbet
    have hsh := (shorter (hfit v) hHw hEk i2).2 hbet
    by_cases hp : p.proto = 2
    · rcases i4 with ⟨_, e', hc1, hc2, hc3⟩ | ⟨q', _⟩
      rotate_left
      · exact absurd hp q'
      have hEv : Holds p (asOf p (othL p.links (i : Nat) u)) (E v) := by rw [ho]; exact hfit v
      have hpl := path_len G hp (hfit v) hEk
      have hpr := path_len G hp hHw i2
      have hno := over_path G hp i1 hEk hEv (by rw [ho]; exact G.asIn (by omega) (by omega))
      have hin : asOf p u ∈ (E v).path := by
        refine Classical.byContradiction fun hin => ?_
        rw [if_pos ⟨by omega, hc2, hin⟩] at hno
        rw [hno] at hk2; cases hk2
      obtain ⟨b', q, hb', hbN', hw, hq, hall⟩ := made_of G hok hnd hd hor hfit hE (rtLen (E v)).toNat v hEk (by omega)
      have ha := along_way G hok hnd hbN' hw
      obtain ⟨s, rfl⟩ := hw.head
      have hlt := way_lt hok hbN' hw
      have hpath : (E v).path = asL p s := by
        rw [hq, ← ha]
        rcases along_path (f := f) G hp (v :: s) hlt with ⟨h, _⟩ | ⟨h, _⟩
        · rw [h]; rfl
        · rw [hq, ← ha, h] at hEk; exact absurd rfl hEk
      rw [hpath] at hin
      obtain ⟨y, hy, hyu⟩ := List.mem_map.1 hin
      have hyx : y = u := hap hp y u (hlt y (List.mem_cons_of_mem _ hy)) huv.1 hyu
      subst hyx
      have hh := hall y (List.mem_cons_of_mem _ hy)
      have hlen : rtLen (E y) < rtLen (overR p i y r) := by
        have := (over_longer G hk).2.1
        rw [if_pos hp] at this
        omega
      have hbt := (shorter (hfit y) (holds_over p _ _ _) hh.1 hk).1 hlen
      cases hx : betterB (overR p i y r) (E y) with
      | false => rfl
      | true => rw [betterB_iff] at hbt hx; exact absurd hx (fun hx => ltR_asymm hbt hx)
    · have := over_comes G hp (by rw [ho]; exact hfit v) hk hbet
      exact absurd hk2 this
/-- What is held in the end is the best that ways make: of the list of all that origins' ways make, behind none. -/
theorem end_best (G : NetG p) (hok : LksOk p.links p.nodes.length) (hnd : (pairsOf p.links).Nodup) {d : Int} {E : St} (hd : placeB d p.dests.length = true) (hor : ∀ b ∈ orgOf p d, 0 ≤ b ∧ b < p.nodes.length) (hfit : FitsF p E) (hE : stepF p f d E = E) (hap : p.proto = 2 → ApartP p)
    {u : Nat} (hu : u < p.nodes.length) : E u = bestR (rtNone :: (orgOf p d).flatMap fun b => (waysN p f u b.toNat).map (wayR p f)) := by
  have hmem : ∀ x, x ∈ (orgOf p d).flatMap (fun b => (waysN p f u b.toNat).map (wayR p f)) ↔ ∃ b : Nat, (b : Int) ∈ orgOf p d ∧ ∃ q, Gr.Way (Adj p.links f) b u q ∧ x = wayR p f q := by
    intro x
    rw [List.mem_flatMap]
    constructor
    · rintro ⟨b, hb, hx⟩
      obtain ⟨q, hq, rfl⟩ := List.mem_map.1 hx
      have := hor b hb
      exact ⟨b.toNat, by rw [show ((b.toNat : Nat) : Int) = b by omega]; exact hb, q, (mem_waysN hok hu q).1 hq, rfl⟩
    · rintro ⟨b, hb, q, hq, rfl⟩
      exact ⟨b, hb, List.mem_map.2 ⟨q, (mem_waysN hok hu q).2 (by simpa using hq), rfl⟩⟩
  have hokl : ∀ x ∈ rtNone :: (orgOf p d).flatMap (fun b => (waysN p f u b.toNat).map (wayR p f)), RtOk x := by
    intro x hx
    rcases List.mem_cons.1 hx with rfl | hx
    · exact ok_none
    · obtain ⟨b, _, q, _, rfl⟩ := (hmem x).1 hx
      exact (wayR_holds G f q).1
  refine best_uniq hokl ?_ ?_
  · by_cases hk : (E u).kind = 0
    · have : E u = rtNone := by
        have h := (hfit u).1.k0 hk
        exact h
      rw [this]; exact List.mem_cons_self ..
    · obtain ⟨b, q, hb, hbN, hw, hq, _⟩ := made_of G hok hnd hd hor hfit hE (rtLen (E u)).toNat u hk (by have := ((hfit u).len hk).1; omega)
      exact List.mem_cons_of_mem _ ((hmem _).2 ⟨b, hb, q, hw, hq⟩)
  · intro x hx
    rcases List.mem_cons.1 hx with rfl | hx
    · exact (lt_none rfl ok_none _ (hfit u).1).1
    · obtain ⟨b, hb, q, hw, rfl⟩ := (hmem x).1 hx
      have := hor b hb
      exact way_worse G hok hnd hd hor hfit hE hap hb (by omega) hw
end
end
end Go.Proofs.YtlnnmjomdblciaaGreat

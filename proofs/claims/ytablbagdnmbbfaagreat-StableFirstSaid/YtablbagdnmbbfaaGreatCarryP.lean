/- What a node may hold, its own route, and what becomes of a route over a link, plainly. No program is walked here. -/
import Derived.Test.YtablbagdnmbbfaaGreatRtBox
import Derived.Test.YtablbagdnmbbfaaGreatLaws
namespace Go.Proofs.YtablbagdnmbbfaaGreat
set_option linter.unusedSimpArgs false
set_option linter.unusedVariables false
open Go.RowKit

def asOf (p : Net) (i : Int) : Int := match p.nodes[i.toNat]? with | some x => x.as_ | none => 0
def costOf (p : Net) (k : Int) : Int := match p.links[k.toNat]? with | some x => x.cost | none => 0
def fitsB (p : Net) (a : Int) (r : Rt) : Bool := if p.proto = 2 then decide (r.kind = 2) && (decide ((r.path.length : Int) ≤ p.cap) && !decide (a ∈ r.path)) else decide (r.kind = 1)
def holdsB (p : Net) (i : Int) (r : Rt) : Bool := rtRightB r && (decide (r.kind = 0) || fitsB p (asOf p i) r)
def rtOwn (p : Net) : Rt := if p.proto = 2 then ⟨2, 0, []⟩ else ⟨1, 0, []⟩
def orgOf (p : Net) (d : Int) : List Int := match p.dests[d.toNat]? with | some x => x.origins | none => []
def ownR (p : Net) (d n : Int) : Rt := if placeB d p.dests.length = true ∧ n ∈ orgOf p d then rtOwn p else rtNone
def overV (p : Net) (c a : Int) (r : Rt) : Rt := if p.proto = 2 then ⟨r.kind, r.cost, a :: r.path⟩ else ⟨r.kind, r.cost + c, r.path⟩
def overR (p : Net) (k n : Int) (r : Rt) : Rt :=
  if othL p.links k n < 0 ∨ r.kind = 0 ∨ holdsB p (othL p.links k n) r = false then rtNone
  else if holdsB p n (overV p (costOf p k) (asOf p (othL p.links k n)) r) = true then overV p (costOf p k) (asOf p (othL p.links k n)) r else rtNone

/-- What is known of a network that may be. -/
structure NetG (p : Net) : Prop where
  proto : (p.proto = 1 ∧ p.cap = 0) ∨ (p.proto = 2 ∧ 1 ≤ p.cap ∧ p.cap ≤ 12)
  as_ : ∀ x ∈ p.nodes, 1 ≤ x.as_ ∧ x.as_ ≤ 65535
  links : ∀ x ∈ p.links, 0 ≤ x.a ∧ x.a < x.b ∧ x.b < p.nodes.length ∧ 1 ≤ x.cost ∧ x.cost ≤ 15
theorem Good.netG {p : Net} (g : Good p) : NetG p := by
  have hr := g.right
  simp only [YtablbagdnmbbfaaGreat.rightB, Bool.and_eq_true] at hr
  have hl := g.linksB
  have hn := g.nodesB
  simp only [YtablbagdnmbbfaaGreat.linksB, Bool.and_eq_true, List.all_eq_true, lkB, placeB, withinB, decide_eq_true_eq] at hl
  simp only [YtablbagdnmbbfaaGreat.nodesB, Bool.and_eq_true, Bool.not_eq_true', List.any_eq_false, badNode, withinB, Bool.not_eq_true', decide_eq_false_iff_not, Decidable.not_not] at hn
  refine ⟨?_, fun x hx => by simpa using hn.2 x hx, fun x hx => ?_⟩
  · have h := hr.1
    simp only [routingB, withinB, Bool.or_eq_true, Bool.and_eq_true, beq_iff_eq, decide_eq_true_eq] at h
    omega
  · have := hl.1 x hx
    omega
theorem rt_ok {r : Rt} (h : rtRightB r = true) : RtOk r := by
  unfold rtRightB at h
  obtain ⟨k, c, l⟩ := r
  simp only at h
  by_cases h0 : k = 0
  · subst h0
    simp at h
    obtain ⟨rfl, h⟩ := h
    have := List.eq_nil_of_length_eq_zero (by simpa using h)
    subst this
    exact ⟨.inl rfl, fun _ => rfl, (fun h => by cases h), fun h => by cases h⟩
  · by_cases h1 : k = 1
    · subst h1
      simp at h
      obtain ⟨⟨h, h'⟩, h2⟩ := h
      have := List.eq_nil_of_length_eq_zero (by simpa using h2)
      subst this
      exact ⟨.inr (.inl rfl), (fun h => by simp at h), fun _ => ⟨h, h', rfl⟩, fun h => by simp at h⟩
    · by_cases h2 : k = 2
      · subst h2
        simp [listB] at h
        obtain ⟨rfl, h1, h2, h3⟩ := h
        refine ⟨.inr (.inr rfl), (fun h => by simp at h), (fun h => by simp at h), fun _ => ⟨rfl, h1, h3, fun x hx => ?_⟩⟩
        have := h2 x hx
        simp [badNum] at this
        omega
      · simp [h0, h1, h2] at h
theorem rt_ok_iff {r : Rt} : rtRightB r = true ↔ RtOk r := ⟨rt_ok, RtOk.right⟩
/-- What a node may hold, in words. -/
def Holds (p : Net) (a : Int) (r : Rt) : Prop := RtOk r ∧ (r.kind = 0 ∨ (p.proto = 2 ∧ r.kind = 2 ∧ (r.path.length : Int) ≤ p.cap ∧ a ∉ r.path) ∨ (p.proto ≠ 2 ∧ r.kind = 1))
theorem holds_iff {p : Net} {i : Int} {r : Rt} : holdsB p i r = true ↔ Holds p (asOf p i) r := by
  unfold holdsB Holds fitsB
  rw [Bool.and_eq_true, rt_ok_iff]
  refine and_congr_right fun _ => ?_
  by_cases h2 : p.proto = 2
  · simp [h2]
  · simp [h2]
theorem holds_false {p : Net} {i : Int} {r : Rt} : holdsB p i r = false ↔ ¬ Holds p (asOf p i) r := by rw [← holds_iff]; simp
theorem rtOk_none : RtOk rtNone := ⟨.inl rfl, fun _ => rfl, (fun h => by cases h), fun h => by cases h⟩
theorem holds_none (p : Net) (a : Int) : Holds p a rtNone := ⟨rtOk_none, .inl rfl⟩
theorem holds_own {p : Net} (g : NetG p) (a : Int) : Holds p a (rtOwn p) := by
  unfold rtOwn
  split
  · rename_i h
    refine ⟨⟨.inr (.inr rfl), (fun h => by simp at h), (fun h => by simp at h), fun _ => ⟨rfl, by simp, by simp, by simp⟩⟩, .inr (.inl ⟨h, rfl, ?_, by simp⟩)⟩
    have := g.proto
    simp; omega
  · rename_i h
    exact ⟨⟨.inr (.inl rfl), (fun h => by simp at h), fun _ => ⟨by simp, by simp, rfl⟩, fun h => by simp at h⟩, .inr (.inr ⟨h, rfl⟩)⟩
theorem holds_ownR {p : Net} (g : NetG p) (d n : Int) (a : Int) : Holds p a (ownR p d n) := by
  unfold ownR; split
  · exact holds_own g a
  · exact holds_none p a
/-- What comes over a link fits. -/
theorem holds_over (p : Net) (k n : Int) (r : Rt) : Holds p (asOf p n) (overR p k n r) := by
  unfold overR
  split
  · exact holds_none _ _
  · split
    · rename_i h; exact holds_iff.1 h
    · exact holds_none _ _
theorem over_none {p : Net} {k n : Int} {r : Rt} (h : othL p.links k n < 0 ∨ r.kind = 0 ∨ ¬ Holds p (asOf p (othL p.links k n)) r) : overR p k n r = rtNone := by
  unfold overR
  rw [if_pos]
  rw [holds_false]; exact h
/-- By distances. -/
theorem over_vec {p : Net} {k n : Int} {r : Rt} (h2 : p.proto ≠ 2) (hf : ¬ othL p.links k n < 0) (hk : r.kind ≠ 0) (hh : Holds p (asOf p (othL p.links k n)) r) (hc : 0 ≤ costOf p k) :
    overR p k n r = if r.cost + costOf p k ≤ 15 then ⟨1, r.cost + costOf p k, []⟩ else rtNone := by
  obtain ⟨hok, hx⟩ := hh
  have h1 : r.kind = 1 := by
    rcases hx with h | h | h
    · exact absurd h hk
    · exact absurd h.1 h2
    · exact h.2
  obtain ⟨c0, c1, hp⟩ := hok.k1 h1
  unfold overR
  rw [if_neg (by rw [holds_false]; exact fun h => h.elim hf fun h => h.elim hk fun h => h ⟨hok, hx⟩)]
  have hv : overV p (costOf p k) (asOf p (othL p.links k n)) r = ⟨1, r.cost + costOf p k, []⟩ := by unfold overV; rw [if_neg h2, h1, hp]
  rw [hv]
  by_cases hle : r.cost + costOf p k ≤ 15
  · rw [if_pos hle, if_pos]
    rw [holds_iff]
    exact ⟨⟨.inr (.inl rfl), (fun h => by simp at h), fun _ => ⟨by simp; omega, by simpa using hle, rfl⟩, fun h => by simp at h⟩, .inr (.inr ⟨h2, rfl⟩)⟩
  · rw [if_neg hle, if_neg]
    rw [holds_iff]
    rintro ⟨h, _⟩
    have := (h.k1 rfl).2.1
    simp at this; omega
/-- By lists of AS numbers. -/
theorem over_path {p : Net} {k n : Int} {r : Rt} (g : NetG p) (h2 : p.proto = 2) (hf : ¬ othL p.links k n < 0) (hk : r.kind ≠ 0) (hh : Holds p (asOf p (othL p.links k n)) r) (ha : 1 ≤ asOf p (othL p.links k n) ∧ asOf p (othL p.links k n) ≤ 65535) :
    overR p k n r = if (r.path.length : Int) < p.cap ∧ asOf p n ≠ asOf p (othL p.links k n) ∧ asOf p n ∉ r.path then ⟨2, 0, asOf p (othL p.links k n) :: r.path⟩ else rtNone := by
  obtain ⟨hok, hx⟩ := hh
  have h3 : r.kind = 2 ∧ (r.path.length : Int) ≤ p.cap ∧ asOf p (othL p.links k n) ∉ r.path := by
    rcases hx with h | h | h
    · exact absurd h hk
    · exact h.2
    · exact absurd h2 h.1
  obtain ⟨c0, hl, hnd, hnum⟩ := hok.k2 h3.1
  unfold overR
  rw [if_neg (by rw [holds_false]; exact fun h => h.elim hf fun h => h.elim hk fun h => h ⟨hok, hx⟩)]
  generalize hfr : asOf p (othL p.links k n) = a at *
  have hv : overV p (costOf p k) a r = ⟨2, 0, a :: r.path⟩ := by unfold overV; rw [if_pos h2, h3.1, c0]
  rw [hv]
  have hcap : p.cap ≤ 12 := by have := g.proto; omega
  by_cases hc : (r.path.length : Int) < p.cap ∧ asOf p n ≠ a ∧ asOf p n ∉ r.path
  · rw [if_pos hc, if_pos]
    rw [holds_iff]
    refine ⟨⟨.inr (.inr rfl), (fun h => by simp at h), (fun h => by simp at h), fun _ => ⟨rfl, by simp; omega, by simp [hnd, h3.2.2], ?_⟩⟩, .inr (.inl ⟨h2, rfl, by simp; omega, by simp; exact ⟨hc.2.1, hc.2.2⟩⟩)⟩
    intro x hx
    rcases List.mem_cons.1 hx with rfl | hx
    · exact ha
    · exact hnum x hx
  · rw [if_neg hc, if_neg]
    rw [holds_iff]
    rintro ⟨_, h | h | h⟩
    · simp at h
    · obtain ⟨_, _, h4, h5⟩ := h
      simp at h4 h5
      exact hc ⟨by omega, h5.1, h5.2⟩
    · exact h.1 h2

/-! ### A link and its ends -/
structure LinkAt (p : Net) (k : Nat) (x : Lk) : Prop where
  at_ : p.links[k]? = some x
  a : 0 ≤ x.a
  ab : x.a < x.b
  b : x.b < p.nodes.length
  c : 1 ≤ x.cost ∧ x.cost ≤ 15
theorem NetG.link {p : Net} (g : NetG p) {k : Nat} (hk : k < p.links.length) : ∃ x, LinkAt p k x := by
  obtain ⟨x, hx⟩ : ∃ x, p.links[k]? = some x := ⟨_, List.getElem?_eq_getElem hk⟩
  obtain ⟨h1, h2, h3, h4⟩ := g.links x (List.mem_of_getElem? hx)
  exact ⟨x, hx, h1, h2, h3, h4⟩
theorem LinkAt.cost {p : Net} {k : Nat} {x : Lk} (h : LinkAt p k x) : costOf p k = x.cost := by simp [costOf, h.at_]
theorem LinkAt.oth {p : Net} {k : Nat} {x : Lk} (h : LinkAt p k x) (n : Int) : othL p.links k n = othV x.a x.b n := by simp [othL, h.at_]
theorem LinkAt.othA {p : Net} {k : Nat} {x : Lk} (h : LinkAt p k x) : othL p.links k x.a = x.b := by rw [h.oth]; simp [othV]
theorem LinkAt.othB {p : Net} {k : Nat} {x : Lk} (h : LinkAt p k x) : othL p.links k x.b = x.a := by
  rw [h.oth]; unfold othV
  rw [if_neg (by have := h.ab; omega), if_pos rfl]
theorem othL_ends {p : Net} {k n : Int} (h : ¬ othL p.links k n < 0) : ∃ (i : Nat) (x : Lk), k = i ∧ p.links[i]? = some x ∧ ((n = x.a ∧ othL p.links k n = x.b) ∨ (n = x.b ∧ othL p.links k n = x.a)) := by
  unfold othL at h ⊢
  split at h
  · rename_i h0
    cases hx : p.links[k.toNat]? with
    | none => rw [hx] at h; simp at h
    | some x =>
      rw [hx] at h
      refine ⟨k.toNat, x, by omega, hx, ?_⟩
      rw [if_pos h0]
      simp only [hx, othV] at h ⊢
      split
      · left; rename_i e; exact ⟨e, rfl⟩
      · rename_i e
        rw [if_neg e] at h
        split
        · right; rename_i e'; exact ⟨e', rfl⟩
        · rename_i e'
          rw [if_neg e'] at h
          simp at h
  · simp at h
theorem NetG.asIn {p : Net} (g : NetG p) {i : Int} (h0 : 0 ≤ i) (h1 : i < p.nodes.length) : 1 ≤ asOf p i ∧ asOf p i ≤ 65535 := by
  unfold asOf
  rw [List.getElem?_eq_getElem (by omega)]
  exact g.as_ _ (List.getElem_mem _)
/-- The other end is there, if it is told; so is this one. -/
theorem NetG.ends {p : Net} (g : NetG p) {k n : Int} (h : ¬ othL p.links k n < 0) : (0 ≤ othL p.links k n ∧ othL p.links k n < p.nodes.length) ∧ (0 ≤ n ∧ n < p.nodes.length) ∧ (0 ≤ k ∧ k < p.links.length) ∧ (1 ≤ costOf p k ∧ costOf p k ≤ 15) := by
  obtain ⟨i, x, rfl, hx, he⟩ := othL_ends h
  have := g.links x (List.mem_of_getElem? hx)
  have hi := (List.getElem?_eq_some_iff.1 hx).1
  have hc : costOf p i = x.cost := by simp [costOf, hx]
  rw [hc]
  rcases he with ⟨h1, h2⟩ | ⟨h1, h2⟩ <;> rw [h2] <;> omega

/-! ### Lengths, and which one is better -/
theorem lt_path {a b : Rt} (ha : a.kind = 2) (hb : b.kind = 2) (h0 : a.cost = 0) (h1 : b.cost = 0) : betterB a b = true ↔ a.path.length < b.path.length ∨ (a.path.length = b.path.length ∧ lexI a.path b.path = -1) := by
  rw [betterB_iff]
  unfold ltR
  rw [ha, hb, h0, h1]
  simp
theorem lt_vec {a b : Rt} (ha : a.kind = 1) (hb : b.kind = 1) (h0 : a.path = []) (h1 : b.path = []) : betterB a b = true ↔ a.cost < b.cost := by
  rw [betterB_iff]
  unfold ltR
  rw [ha, hb, h0, h1]
  simp [lexI]
theorem lt_none {b : Rt} (hb : b.kind = 0) (hok : RtOk b) (a : Rt) (ha : RtOk a) : betterB b a = false ∧ (betterB a b = true ↔ a.kind ≠ 0) := by
  have e := hok.k0 hb
  subst e
  constructor
  · cases h : betterB rtNone a with
    | false => rfl
    | true =>
      rw [betterB_iff] at h
      unfold ltR at h
      rcases ha.kind with e | e | e
      · rw [ha.k0 e] at h; simp [rtNone, rankI, lexI] at h
      · simp [rtNone, rankI, e] at h
      · simp [rtNone, rankI, e] at h
  · rw [betterB_iff]
    unfold ltR
    rcases ha.kind with e | e | e
    · rw [ha.k0 e]; simp [rtNone, rankI, lexI]
    · simp [rtNone, rankI, e]
    · simp [rtNone, rankI, e]
theorem not_true {b : Bool} (h : ¬ b = true) : b = false := by simpa using h
theorem lexI_cons (x : Int) (l m : List Int) : lexI (x :: l) (x :: m) = lexI l m := by
  have h : cmpI x x = 0 := cmpI_zero.2 rfl
  rw [lexI, if_neg (by rw [h]; simp)]
/-- Of what is not none: which kind it is of. -/
theorem Holds.some {p : Net} {a : Int} {r : Rt} (h : Holds p a r) (hk : r.kind ≠ 0) : (p.proto = 2 ∧ r.kind = 2 ∧ r.cost = 0 ∧ PathOk r.path ∧ (r.path.length : Int) ≤ p.cap ∧ a ∉ r.path) ∨ (p.proto ≠ 2 ∧ r.kind = 1 ∧ 0 ≤ r.cost ∧ r.cost ≤ 15 ∧ r.path = []) := by
  obtain ⟨hok, h | ⟨h1, h2, h3⟩ | ⟨h1, h2⟩⟩ := h
  · exact absurd h hk
  · exact .inl ⟨h1, h2, (hok.k2 h2).1, (hok.k2 h2).2, h3⟩
  · exact .inr ⟨h1, h2, hok.k1 h2⟩

/-- What comes over a link, if anything comes. -/
theorem over_some {p : Net} (g : NetG p) {k n : Int} {r : Rt} (h : (overR p k n r).kind ≠ 0) :
    ¬ othL p.links k n < 0 ∧ r.kind ≠ 0 ∧ Holds p (asOf p (othL p.links k n)) r ∧
      ((p.proto = 2 ∧ overR p k n r = ⟨2, 0, asOf p (othL p.links k n) :: r.path⟩ ∧ (r.path.length : Int) < p.cap ∧ asOf p n ≠ asOf p (othL p.links k n) ∧ asOf p n ∉ r.path) ∨
       (p.proto ≠ 2 ∧ overR p k n r = ⟨1, r.cost + costOf p k, []⟩ ∧ r.cost + costOf p k ≤ 15)) := by
  by_cases h1 : othL p.links k n < 0
  · rw [over_none (.inl h1)] at h; exact absurd rfl h
  by_cases h2 : r.kind = 0
  · rw [over_none (.inr (.inl h2))] at h; exact absurd rfl h
  by_cases h3 : Holds p (asOf p (othL p.links k n)) r
  rotate_left
  · rw [over_none (.inr (.inr h3))] at h; exact absurd rfl h
  refine ⟨h1, h2, h3, ?_⟩
  obtain ⟨e1, e2, e3, e4⟩ := g.ends h1
  by_cases hp : p.proto = 2
  · have e := over_path g hp h1 h2 h3 (g.asIn e1.1 e1.2)
    rw [e] at h ⊢
    by_cases hc : (r.path.length : Int) < p.cap ∧ asOf p n ≠ asOf p (othL p.links k n) ∧ asOf p n ∉ r.path
    · rw [if_pos hc]; exact .inl ⟨hp, rfl, hc⟩
    · rw [if_neg hc] at h; exact absurd rfl h
  · have e := over_vec hp h1 h2 h3 (by omega)
    rw [e] at h ⊢
    by_cases hc : r.cost + costOf p k ≤ 15
    · rw [if_pos hc]; exact .inr ⟨hp, rfl, hc⟩
    · rw [if_neg hc] at h; exact absurd rfl h
/-- THE STAGE'S THEOREM, plainly: longer by the link's cost, or by one; so worse. -/
theorem over_longer {p : Net} (g : NetG p) {k n : Int} {r : Rt} (h : (overR p k n r).kind ≠ 0) :
    (overR p k n r).kind = r.kind ∧ rtLen (overR p k n r) = rtLen r + (if p.proto = 2 then 1 else costOf p k) ∧ betterB r (overR p k n r) = true := by
  obtain ⟨h1, h2, h3, h4⟩ := over_some g h
  obtain ⟨e1, e2, e3, e4⟩ := g.ends h1
  rcases h4 with ⟨hp, e, hc⟩ | ⟨hp, e, hc⟩
  · rcases h3.some h2 with ⟨_, a1, a2, a3, a4⟩ | ⟨q, _⟩
    · rw [e, if_pos hp]
      refine ⟨a1.symm, by simp [rtLen, a1], ?_⟩
      rw [lt_path a1 rfl a2 rfl]
      left; simp
    · exact absurd hp q
  · rcases h3.some h2 with ⟨q, _⟩ | ⟨_, a1, a2, a3, a4⟩
    · exact absurd q hp
    · rw [e, if_neg hp]
      refine ⟨a1.symm, by simp [rtLen, a1], ?_⟩
      rw [lt_vec a1 rfl a4 rfl]
      simp only; omega
/-- .. and the order stays. -/
theorem over_keeps {p : Net} (g : NetG p) {k n : Int} {a b : Rt} (ha : (overR p k n a).kind ≠ 0) (hb : (overR p k n b).kind ≠ 0) : betterB (overR p k n a) (overR p k n b) = betterB a b := by
  obtain ⟨h1, h2, h3, h4⟩ := over_some g ha
  obtain ⟨-, i2, i3, i4⟩ := over_some g hb
  rw [Bool.eq_iff_iff]
  rcases h4 with ⟨hp, e, hc⟩ | ⟨hp, e, hc⟩
  · rcases i4 with ⟨_, e', hc'⟩ | ⟨q, _⟩
    · rcases h3.some h2 with ⟨_, a1, a2, a3, a4⟩ | ⟨q, _⟩
      · rcases i3.some i2 with ⟨_, b1, b2, b3, b4⟩ | ⟨q, _⟩
        · rw [e, e', lt_path rfl rfl rfl rfl, lt_path a1 b1 a2 b2, lexI_cons]
          simp
        · exact absurd hp q
      · exact absurd hp q
    · exact absurd hp q
  · rcases i4 with ⟨q, _⟩ | ⟨_, e', hc'⟩
    · exact absurd q hp
    · rcases h3.some h2 with ⟨q, _⟩ | ⟨_, a1, a2, a3, a4⟩
      · exact absurd q hp
      · rcases i3.some i2 with ⟨q, _⟩ | ⟨_, b1, b2, b3, b4⟩
        · exact absurd q hp
        · rw [e, e', lt_vec rfl rfl rfl rfl, lt_vec a1 b1 a4 b4]
          simp only; omega
/-- By distances the better one comes, if the other one does. -/
theorem over_comes {p : Net} (g : NetG p) {k n : Int} {a b : Rt} (hp : p.proto ≠ 2) (hha : Holds p (asOf p (othL p.links k n)) a) (hb : (overR p k n b).kind ≠ 0) (h : betterB a b = true) : (overR p k n a).kind ≠ 0 := by
  obtain ⟨i1, i2, i3, i4⟩ := over_some g hb
  obtain ⟨e1, e2, e3, e4⟩ := g.ends i1
  rcases i4 with ⟨q, _⟩ | ⟨_, e', hc'⟩
  · exact absurd q hp
  · have ha0 : a.kind ≠ 0 := by
      intro e
      rw [(lt_none e hha.1 b i3.1).1] at h; cases h
    rw [over_vec hp i1 ha0 hha (by omega)]
    rcases hha.some ha0 with ⟨q, _⟩ | ⟨_, a1, a2, a3, a4⟩
    · exact absurd q hp
    · rcases i3.some i2 with ⟨q, _⟩ | ⟨_, b1, b2, b3, b4⟩
      · exact absurd q hp
      · rw [lt_vec a1 b1 a4 b4] at h
        rw [if_pos (by omega)]; simp

theorem Holds.len {p : Net} {x : Rt} {a : Int} (h : Holds p a x) (hk : x.kind ≠ 0) : 0 ≤ rtLen x ∧ rtLen x ≤ 15 := by
  rcases h.some hk with ⟨_, h1, _, h2, _⟩ | ⟨_, h1, h2, h3, _⟩
  · have := h2.1
    simp only [rtLen, h1]; simp; omega
  · simp only [rtLen, h1]; simp; omega
/-! ### Of raw numbers, what a node may hold -/
def stepH (cap a : Int) (acc : List Int) (x : Int) : List Int := if (acc.length : Int) < cap then (if 1 + pickV x 20 = a ∨ 1 + pickV x 20 ∈ acc then acc else acc ++ [1 + pickV x 20]) else acc
def heldR (p : Net) (i : Int) (raw : List Int) : Rt := if p.proto = 1 then ⟨1, (match raw with | [] => 0 | x :: _ => pickV x 16), []⟩ else ⟨2, 0, raw.foldl (stepH p.cap (asOf p i)) []⟩
structure HeldOk (cap a : Int) (l : List Int) : Prop where
  len : (l.length : Int) ≤ cap
  nd : l.Nodup
  num : ∀ x ∈ l, 1 ≤ x ∧ x ≤ 20
  own : a ∉ l
theorem HeldOk.step {cap a : Int} {l : List Int} (h : HeldOk cap a l) (x : Int) : HeldOk cap a (stepH cap a l x) := by
  unfold stepH
  split
  · split
    · exact h
    · rename_i h1 h2
      have hp : 1 ≤ 1 + pickV x 20 ∧ 1 + pickV x 20 ≤ 20 := by have := pickV_in (c := x) (n := 20) (by omega); omega
      generalize 1 + pickV x 20 = y at *
      have h3 : ¬ y = a := fun e => h2 (.inl e)
      have h4 : y ∉ l := fun e => h2 (.inr e)
      refine ⟨by rw [List.length_append]; simp; omega, ?_, ?_, ?_⟩
      · rw [List.nodup_append]
        refine ⟨h.nd, by simp, ?_⟩
        intro z hz u hu e
        simp at hu
        subst hu e
        exact h4 hz
      · intro z hz
        rcases List.mem_append.1 hz with hz | hz
        · exact h.num z hz
        · simp at hz; omega
      · intro hz
        rcases List.mem_append.1 hz with hz | hz
        · exact h.own hz
        · simp at hz; exact h3 hz.symm
  · exact h
theorem HeldOk.fold {cap a : Int} : ∀ (r l : List Int), HeldOk cap a l → HeldOk cap a (r.foldl (stepH cap a) l)
  | [], _, h => h
  | x :: r, _, h => HeldOk.fold r _ (h.step x)
theorem stopH_fold {cap a : Int} : ∀ (r l : List Int), ¬ (l.length : Int) < cap → r.foldl (stepH cap a) l = l
  | [], _, _ => rfl
  | x :: r, l, h => by
    have : stepH cap a l x = l := by unfold stepH; rw [if_neg h]
    show r.foldl (stepH cap a) (stepH cap a l x) = l
    rw [this]; exact stopH_fold r l h
theorem heldR_path {p : Net} (g : NetG p) (i : Int) (raw : List Int) (h : p.proto ≠ 1) : heldR p i raw = ⟨2, 0, (heldR p i raw).path⟩ ∧ HeldOk p.cap (asOf p i) (heldR p i raw).path := by
  unfold heldR
  rw [if_neg h]
  refine ⟨rfl, HeldOk.fold _ _ ⟨?_, by simp, by simp, by simp⟩⟩
  have := g.proto
  simp; omega
theorem heldR_vec {p : Net} (i : Int) (raw : List Int) (h : p.proto = 1) : heldR p i raw = ⟨1, (heldR p i raw).cost, []⟩ ∧ 0 ≤ (heldR p i raw).cost ∧ (heldR p i raw).cost ≤ 15 := by
  unfold heldR
  rw [if_pos h]
  refine ⟨rfl, ?_⟩
  simp only
  split
  · omega
  · rename_i x _
    have := pickV_in (c := x) (n := 16) (by omega)
    omega
theorem heldR_holds {p : Net} (g : NetG p) (i : Int) (raw : List Int) : Holds p (asOf p i) (heldR p i raw) ∧ (heldR p i raw).kind ≠ 0 := by
  by_cases h : p.proto = 1
  · obtain ⟨e, h0, h1⟩ := heldR_vec i raw h
    generalize (heldR p i raw).cost = c at *
    rw [e]
    exact ⟨⟨⟨.inr (.inl rfl), (fun h => by simp at h), fun _ => ⟨h0, h1, rfl⟩, fun h => by simp at h⟩, .inr (.inr ⟨by omega, rfl⟩)⟩, by simp⟩
  · obtain ⟨e, hh⟩ := heldR_path g i raw h
    generalize (heldR p i raw).path = l at *
    rw [e]
    have := g.proto
    have hl := hh.len
    refine ⟨⟨⟨.inr (.inr rfl), (fun h => by simp at h), (fun h => by simp at h), fun _ => ⟨rfl, by simp; omega, hh.nd, fun x hx => ?_⟩⟩, .inr (.inl ⟨by omega, rfl, hl, hh.own⟩)⟩, by simp⟩
    have := hh.num x hx
    omega
end Go.Proofs.YtablbagdnmbbfaaGreat

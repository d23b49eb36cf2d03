/- What a node may hold, its own route, and what becomes of a route over a link, plainly. No program is walked here. Rounds, plainly: what nodes hold behind a round, behind so many, and in the end. No program is walked here. More on rounds, plainly: whose route a node may hold, and where it came from. No program is walked here. In the end, plainly: so many rounds are enough as there are nodes. No program is walked here. When rounds stop, plainly; routes that nodes may hold, out of raw numbers. No program is walked here. What nodes hold in the end, by their neighbours, plainly. No program is walked here. -/
import Derived.Test.YtakolnmoieiicaaGreatAttrX
import Derived.Test.YtakolnmoieiicaaGreatApi
import Derived.Test.YtakolnmoieiicaaGreatAttrB
namespace Go.Proofs.YtakolnmoieiicaaGreat
set_option linter.unusedSimpArgs false
set_option linter.unusedVariables false
open Go.RowKit

section
def asOf (p : Net) (i : Int) : Int := match p.nodes[i.toNat]? with | some x => x.as_ | none => 0
def costOf (p : Net) (k : Int) : Int := match p.links[k.toNat]? with | some x => x.cost | none => 0
def fitsB (p : Net) (a : Int) (r : Rt) : Bool := if p.proto = 2 then decide (r.kind = 2) && (decide ((r.path.length : Int) ≤ p.cap) && !decide (a ∈ r.path)) else decide (r.kind = 1)
def holdsB (p : Net) (i : Int) (r : Rt) : Bool := rtRightB r && (decide (r.kind = 0) || fitsB p (asOf p i) r)
def rtOwn (p : Net) : Rt := if p.proto = 2 then ⟨2, 0, []⟩ else ⟨1, 0, []⟩
def orgOf (p : Net) (d : Int) : List Int := match p.dests[d.toNat]? with | some x => x.origins | none => []
def ownR (p : Net) (d n : Int) : Rt := if placeB d p.dests.length = true ∧ n ∈ orgOf p d then rtOwn p else rtNone
def overV (p : Net) (c a : Int) (r : Rt) : Rt := if p.proto = 2 then ⟨r.kind, r.cost, a :: r.path⟩ else ⟨r.kind, r.cost + c, r.path⟩
def overR (p : Net) (k n : Int) (r : Rt) : Rt :=
  if othL p.links k n < 0 ∨ r.kind = 0 ∨ holdsB p (othL p.links k n) r = false then rtNone
  else if holdsB p n (overV p (costOf p k) (asOf p (othL p.links k n)) r) = true then overV p (costOf p k) (asOf p (othL p.links k n)) r else rtNone

/-- What is known of a network that may be. -/
structure NetG (p : Net) : Prop where
  proto : (p.proto = 1 ∧ p.cap = 0) ∨ (p.proto = 2 ∧ 1 ≤ p.cap ∧ p.cap ≤ 12)
  as_ : ∀ x ∈ p.nodes, 1 ≤ x.as_ ∧ x.as_ ≤ 65535
  links : ∀ x ∈ p.links, 0 ≤ x.a ∧ x.a < x.b ∧ x.b < p.nodes.length ∧ 1 ≤ x.cost ∧ x.cost ≤ 15
theorem Good.netG {p : Net} (g : Good p) : NetG p := by
  have hr := g.right
  simp only [YtakolnmoieiicaaGreat.rightB, Bool.and_eq_true] at hr
  have hl := g.linksB
  have hn := g.nodesB
  simp only [YtakolnmoieiicaaGreat.linksB, Bool.and_eq_true, List.all_eq_true, lkB, placeB, withinB, decide_eq_true_eq] at hl
  simp only [YtakolnmoieiicaaGreat.nodesB, Bool.and_eq_true, Bool.not_eq_true', List.any_eq_false, badNode, withinB, Bool.not_eq_true', decide_eq_false_iff_not, Decidable.not_not] at hn
  refine ⟨?_, fun x hx => by simpa using hn.2 x hx, fun x hx => ?_⟩
  · have h := hr.1
    simp only [routingB, withinB, Bool.or_eq_true, Bool.and_eq_true, beq_iff_eq, decide_eq_true_eq] at h
    omega
  · have := hl.1 x hx
    omega
/-- What a node may hold, in words. -/
def Holds (p : Net) (a : Int) (r : Rt) : Prop := RtOk r ∧ (r.kind = 0 ∨ (p.proto = 2 ∧ r.kind = 2 ∧ (r.path.length : Int) ≤ p.cap ∧ a ∉ r.path) ∨ (p.proto ≠ 2 ∧ r.kind = 1))
theorem holds_iff {p : Net} {i : Int} {r : Rt} : holdsB p i r = true ↔ Holds p (asOf p i) r := by
  unfold holdsB Holds fitsB
  rw [Bool.and_eq_true, rt_ok_iff]
  refine and_congr_right fun _ => ?_
  by_cases h2 : p.proto = 2
  · simp [h2]
  · simp [h2]
theorem holds_false {p : Net} {i : Int} {r : Rt} : holdsB p i r = false ↔ ¬ Holds p (asOf p i) r := by rw [← holds_iff]; simp
theorem rtOk_none : RtOk rtNone := ⟨.inl rfl, fun _ => rfl, (fun h => by cases h), fun h => by cases h⟩
theorem holds_none (p : Net) (a : Int) : Holds p a rtNone := ⟨rtOk_none, .inl rfl⟩
theorem holds_own {p : Net} (g : NetG p) (a : Int) : Holds p a (rtOwn p) := by
  unfold rtOwn
  split
  · rename_i h
    refine ⟨⟨.inr (.inr rfl), (fun h => by simp at h), (fun h => by simp at h), fun _ => ⟨rfl, by simp, by simp, by simp⟩⟩, .inr (.inl ⟨h, rfl, ?_, by simp⟩)⟩
    have := g.proto
    simp; omega
  · rename_i h
    exact ⟨⟨.inr (.inl rfl), (fun h => by simp at h), fun _ => ⟨by simp, by simp, rfl⟩, fun h => by simp at h⟩, .inr (.inr ⟨h, rfl⟩)⟩
theorem holds_ownR {p : Net} (g : NetG p) (d n : Int) (a : Int) : Holds p a (ownR p d n) := by
  unfold ownR; split
  · exact holds_own g a
  · exact holds_none p a
/-- What comes over a link fits. -/
theorem holds_over (p : Net) (k n : Int) (r : Rt) : Holds p (asOf p n) (overR p k n r) := by
  unfold overR
  split
  · exact holds_none _ _
  · split
    · rename_i h; exact holds_iff.1 h
    · exact holds_none _ _
theorem over_none {p : Net} {k n : Int} {r : Rt} (h : othL p.links k n < 0 ∨ r.kind = 0 ∨ ¬ Holds p (asOf p (othL p.links k n)) r) : overR p k n r = rtNone := by
  unfold overR
  rw [if_pos]
  rw [holds_false]; exact h
/-- By distances. -/
theorem over_vec {p : Net} {k n : Int} {r : Rt} (h2 : p.proto ≠ 2) (hf : ¬ othL p.links k n < 0) (hk : r.kind ≠ 0) (hh : Holds p (asOf p (othL p.links k n)) r) (hc : 0 ≤ costOf p k) :
    overR p k n r = if r.cost + costOf p k ≤ 15 then ⟨1, r.cost + costOf p k, []⟩ else rtNone := by
  obtain ⟨hok, hx⟩ := hh
  have h1 : r.kind = 1 := by
    rcases hx with h | h | h
    · exact absurd h hk
    · exact absurd h.1 h2
    · exact h.2
  obtain ⟨c0, c1, hp⟩ := hok.k1 h1
  unfold overR
  rw [if_neg (by rw [holds_false]; exact fun h => h.elim hf fun h => h.elim hk fun h => h ⟨hok, hx⟩)]
  have hv : overV p (costOf p k) (asOf p (othL p.links k n)) r = ⟨1, r.cost + costOf p k, []⟩ := by unfold overV; rw [if_neg h2, h1, hp]
  rw [hv]
  by_cases hle : r.cost + costOf p k ≤ 15
  · rw [if_pos hle, if_pos]
    rw [holds_iff]
    exact ⟨⟨.inr (.inl rfl), (fun h => by simp at h), fun _ => ⟨by simp; omega, by simpa using hle, rfl⟩, fun h => by simp at h⟩, .inr (.inr ⟨h2, rfl⟩)⟩
  · rw [if_neg hle, if_neg]
    rw [holds_iff]
    rintro ⟨h, _⟩
    have := (h.k1 rfl).2.1
    simp at this; omega
/-- By lists of AS numbers. -/
theorem over_path {p : Net} {k n : Int} {r : Rt} (g : NetG p) (h2 : p.proto = 2) (hf : ¬ othL p.links k n < 0) (hk : r.kind ≠ 0) (hh : Holds p (asOf p (othL p.links k n)) r) (ha : 1 ≤ asOf p (othL p.links k n) ∧ asOf p (othL p.links k n) ≤ 65535) :
    overR p k n r = if (r.path.length : Int) < p.cap ∧ asOf p n ≠ asOf p (othL p.links k n) ∧ asOf p n ∉ r.path then ⟨2, 0, asOf p (othL p.links k n) :: r.path⟩ else rtNone := by
  obtain ⟨hok, hx⟩ := hh
  have h3 : r.kind = 2 ∧ (r.path.length : Int) ≤ p.cap ∧ asOf p (othL p.links k n) ∉ r.path := by
    rcases hx with h | h | h
    · exact absurd h hk
    · exact h.2
    · exact absurd h2 h.1
  obtain ⟨c0, hl, hnd, hnum⟩ := hok.k2 h3.1
  unfold overR
  rw [if_neg (by rw [holds_false]; exact fun h => h.elim hf fun h => h.elim hk fun h => h ⟨hok, hx⟩)]
  generalize hfr : asOf p (othL p.links k n) = a at *
  have hv : overV p (costOf p k) a r = ⟨2, 0, a :: r.path⟩ := by unfold overV; rw [if_pos h2, h3.1, c0]
  rw [hv]
  have hcap : p.cap ≤ 12 := by have := g.proto; omega
  by_cases hc : (r.path.length : Int) < p.cap ∧ asOf p n ≠ a ∧ asOf p n ∉ r.path
  · rw [if_pos hc, if_pos]
    rw [holds_iff]
    refine ⟨⟨.inr (.inr rfl), (fun h => by simp at h), (fun h => by simp at h), fun _ => ⟨rfl, by simp; omega, by simp [hnd, h3.2.2], ?_⟩⟩, .inr (.inl ⟨h2, rfl, by simp; omega, by simp; exact ⟨hc.2.1, hc.2.2⟩⟩)⟩
    intro x hx
    rcases List.mem_cons.1 hx with rfl | hx
    · exact ha
    · exact hnum x hx
  · rw [if_neg hc, if_neg]
    rw [holds_iff]
    rintro ⟨_, h | h | h⟩
    · simp at h
    · obtain ⟨_, _, h4, h5⟩ := h
      simp at h4 h5
      exact hc ⟨by omega, h5.1, h5.2⟩
    · exact h.1 h2

/-! ### A link and its ends -/
structure LinkAt (p : Net) (k : Nat) (x : Lk) : Prop where
  at_ : p.links[k]? = some x
  a : 0 ≤ x.a
  ab : x.a < x.b
  b : x.b < p.nodes.length
  c : 1 ≤ x.cost ∧ x.cost ≤ 15
theorem NetG.link {p : Net} (g : NetG p) {k : Nat} (hk : k < p.links.length) : ∃ x, LinkAt p k x := by
  obtain ⟨x, hx⟩ : ∃ x, p.links[k]? = some x := ⟨_, List.getElem?_eq_getElem hk⟩
  obtain ⟨h1, h2, h3, h4⟩ := g.links x (List.mem_of_getElem? hx)
  exact ⟨x, hx, h1, h2, h3, h4⟩
theorem LinkAt.cost {p : Net} {k : Nat} {x : Lk} (h : LinkAt p k x) : costOf p k = x.cost := by simp [costOf, h.at_]
theorem LinkAt.oth {p : Net} {k : Nat} {x : Lk} (h : LinkAt p k x) (n : Int) : othL p.links k n = othV x.a x.b n := by simp [othL, h.at_]
theorem LinkAt.othA {p : Net} {k : Nat} {x : Lk} (h : LinkAt p k x) : othL p.links k x.a = x.b := by rw [h.oth]; simp [othV]
theorem LinkAt.othB {p : Net} {k : Nat} {x : Lk} (h : LinkAt p k x) : othL p.links k x.b = x.a := by
  rw [h.oth]; unfold othV
  rw [if_neg (by have := h.ab; omega), if_pos rfl]
theorem othL_ends {p : Net} {k n : Int} (h : ¬ othL p.links k n < 0) : ∃ (i : Nat) (x : Lk), k = i ∧ p.links[i]? = some x ∧ ((n = x.a ∧ othL p.links k n = x.b) ∨ (n = x.b ∧ othL p.links k n = x.a)) := by
  unfold othL at h ⊢
  split at h
  · rename_i h0
    cases hx : p.links[k.toNat]? with
    | none => rw [hx] at h; simp at h
    | some x =>
      rw [hx] at h
      refine ⟨k.toNat, x, by omega, hx, ?_⟩
      rw [if_pos h0]
      simp only [hx, othV] at h ⊢
      split
      · left; rename_i e; exact ⟨e, rfl⟩
      · rename_i e
        rw [if_neg e] at h
        split
        · right; rename_i e'; exact ⟨e', rfl⟩
        · rename_i e'
          rw [if_neg e'] at h
          simp at h
  · simp at h
theorem NetG.asIn {p : Net} (g : NetG p) {i : Int} (h0 : 0 ≤ i) (h1 : i < p.nodes.length) : 1 ≤ asOf p i ∧ asOf p i ≤ 65535 := by
  unfold asOf
  rw [List.getElem?_eq_getElem (by omega)]
  exact g.as_ _ (List.getElem_mem _)
/-- The other end is there, if it is told; so is this one. -/
theorem NetG.ends {p : Net} (g : NetG p) {k n : Int} (h : ¬ othL p.links k n < 0) : (0 ≤ othL p.links k n ∧ othL p.links k n < p.nodes.length) ∧ (0 ≤ n ∧ n < p.nodes.length) ∧ (0 ≤ k ∧ k < p.links.length) ∧ (1 ≤ costOf p k ∧ costOf p k ≤ 15) := by
  obtain ⟨i, x, rfl, hx, he⟩ := othL_ends h
  have := g.links x (List.mem_of_getElem? hx)
  have hi := (List.getElem?_eq_some_iff.1 hx).1
  have hc : costOf p i = x.cost := by simp [costOf, hx]
  rw [hc]
  rcases he with ⟨h1, h2⟩ | ⟨h1, h2⟩ <;> rw [h2] <;> omega

/-! ### Lengths, and which one is better -/
theorem lt_path {a b : Rt} (ha : a.kind = 2) (hb : b.kind = 2) (h0 : a.cost = 0) (h1 : b.cost = 0) : betterB a b = true ↔ a.path.length < b.path.length ∨ (a.path.length = b.path.length ∧ lexI a.path b.path = -1) := by
  rw [betterB_iff]
  unfold ltR
  rw [ha, hb, h0, h1]
  simp
theorem lt_vec {a b : Rt} (ha : a.kind = 1) (hb : b.kind = 1) (h0 : a.path = []) (h1 : b.path = []) : betterB a b = true ↔ a.cost < b.cost := by
  rw [betterB_iff]
  unfold ltR
  rw [ha, hb, h0, h1]
  simp [lexI]
theorem lt_none {b : Rt} (hb : b.kind = 0) (hok : RtOk b) (a : Rt) (ha : RtOk a) : betterB b a = false ∧ (betterB a b = true ↔ a.kind ≠ 0) := by
  have e := hok.k0 hb
  subst e
  constructor
  · cases h : betterB rtNone a with
    | false => rfl
    | true =>
      rw [betterB_iff] at h
      unfold ltR at h
      rcases ha.kind with e | e | e
      · rw [ha.k0 e] at h; simp [rtNone, rankI, lexI] at h
      · simp [rtNone, rankI, e] at h
      · simp [rtNone, rankI, e] at h
  · rw [betterB_iff]
    unfold ltR
    rcases ha.kind with e | e | e
    · rw [ha.k0 e]; simp [rtNone, rankI, lexI]
    · simp [rtNone, rankI, e]
    · simp [rtNone, rankI, e]
theorem not_true {b : Bool} (h : ¬ b = true) : b = false := by simpa using h
theorem lexI_cons (x : Int) (l m : List Int) : lexI (x :: l) (x :: m) = lexI l m := by
  have h : cmpI x x = 0 := cmpI_zero.2 rfl
  rw [lexI, if_neg (by rw [h]; simp)]
/-- Of what is not none: which kind it is of. -/
theorem Holds.some {p : Net} {a : Int} {r : Rt} (h : Holds p a r) (hk : r.kind ≠ 0) : (p.proto = 2 ∧ r.kind = 2 ∧ r.cost = 0 ∧ PathOk r.path ∧ (r.path.length : Int) ≤ p.cap ∧ a ∉ r.path) ∨ (p.proto ≠ 2 ∧ r.kind = 1 ∧ 0 ≤ r.cost ∧ r.cost ≤ 15 ∧ r.path = []) := by
  obtain ⟨hok, h | ⟨h1, h2, h3⟩ | ⟨h1, h2⟩⟩ := h
  · exact absurd h hk
  · exact .inl ⟨h1, h2, (hok.k2 h2).1, (hok.k2 h2).2, h3⟩
  · exact .inr ⟨h1, h2, hok.k1 h2⟩

/-- What comes over a link, if anything comes. -/
theorem over_some {p : Net} (g : NetG p) {k n : Int} {r : Rt} (h : (overR p k n r).kind ≠ 0) :
    ¬ othL p.links k n < 0 ∧ r.kind ≠ 0 ∧ Holds p (asOf p (othL p.links k n)) r ∧
      ((p.proto = 2 ∧ overR p k n r = ⟨2, 0, asOf p (othL p.links k n) :: r.path⟩ ∧ (r.path.length : Int) < p.cap ∧ asOf p n ≠ asOf p (othL p.links k n) ∧ asOf p n ∉ r.path) ∨
       (p.proto ≠ 2 ∧ overR p k n r = ⟨1, r.cost + costOf p k, []⟩ ∧ r.cost + costOf p k ≤ 15)) := by
  by_cases h1 : othL p.links k n < 0
  · rw [over_none (.inl h1)] at h; exact absurd rfl h
  by_cases h2 : r.kind = 0
  · rw [over_none (.inr (.inl h2))] at h; exact absurd rfl h
  by_cases h3 : Holds p (asOf p (othL p.links k n)) r
  rotate_left
  · rw [over_none (.inr (.inr h3))] at h; exact absurd rfl h
  refine ⟨h1, h2, h3, ?_⟩
  obtain ⟨e1, e2, e3, e4⟩ := g.ends h1
  by_cases hp : p.proto = 2
  · have e := over_path g hp h1 h2 h3 (g.asIn e1.1 e1.2)
    rw [e] at h ⊢
    by_cases hc : (r.path.length : Int) < p.cap ∧ asOf p n ≠ asOf p (othL p.links k n) ∧ asOf p n ∉ r.path
    · rw [if_pos hc]; exact .inl ⟨hp, rfl, hc⟩
    · rw [if_neg hc] at h; exact absurd rfl h
  · have e := over_vec hp h1 h2 h3 (by omega)
    rw [e] at h ⊢
    by_cases hc : r.cost + costOf p k ≤ 15
    · rw [if_pos hc]; exact .inr ⟨hp, rfl, hc⟩
    · rw [if_neg hc] at h; exact absurd rfl h
/-- THE STAGE'S THEOREM, plainly: longer by the link's cost, or by one; so worse. -/
theorem over_longer {p : Net} (g : NetG p) {k n : Int} {r : Rt} (h : (overR p k n r).kind ≠ 0) :
    (overR p k n r).kind = r.kind ∧ rtLen (overR p k n r) = rtLen r + (if p.proto = 2 then 1 else costOf p k) ∧ betterB r (overR p k n r) = true := by
  obtain ⟨h1, h2, h3, h4⟩ := over_some g h
  obtain ⟨e1, e2, e3, e4⟩ := g.ends h1
  rcases h4 with ⟨hp, e, hc⟩ | ⟨hp, e, hc⟩
  · rcases h3.some h2 with ⟨_, a1, a2, a3, a4⟩ | ⟨q, _⟩
    · rw [e, if_pos hp]
      refine ⟨a1.symm, by simp [rtLen, a1], ?_⟩
      rw [lt_path a1 rfl a2 rfl]
      left; simp
    · exact absurd hp q
  · rcases h3.some h2 with ⟨q, _⟩ | ⟨_, a1, a2, a3, a4⟩
    · exact absurd q hp
    · rw [e, if_neg hp]
      refine ⟨a1.symm, by simp [rtLen, a1], ?_⟩
      rw [lt_vec a1 rfl a4 rfl]
      simp only; omega
/-- .. and the order stays. -/
theorem over_keeps {p : Net} (g : NetG p) {k n : Int} {a b : Rt} (ha : (overR p k n a).kind ≠ 0) (hb : (overR p k n b).kind ≠ 0) : betterB (overR p k n a) (overR p k n b) = betterB a b := by
  obtain ⟨h1, h2, h3, h4⟩ := over_some g ha
  obtain ⟨-, i2, i3, i4⟩ := over_some g hb
  rw [Bool.eq_iff_iff]
  rcases h4 with ⟨hp, e, hc⟩ | ⟨hp, e, hc⟩
  · rcases i4 with ⟨_, e', hc'⟩ | ⟨q, _⟩
    · rcases h3.some h2 with ⟨_, a1, a2, a3, a4⟩ | ⟨q, _⟩
      · rcases i3.some i2 with ⟨_, b1, b2, b3, b4⟩ | ⟨q, _⟩
        · rw [e, e', lt_path rfl rfl rfl rfl, lt_path a1 b1 a2 b2, lexI_cons]
          simp
        · exact absurd hp q
      · exact absurd hp q
    · exact absurd hp q
  · rcases i4 with ⟨q, _⟩ | ⟨_, e', hc'⟩
    · exact absurd q hp
    · rcases h3.some h2 with ⟨q, _⟩ | ⟨_, a1, a2, a3, a4⟩
      · exact absurd q hp
      · rcases i3.some i2 with ⟨q, _⟩ | ⟨_, b1, b2, b3, b4⟩
        · exact absurd q hp
        · rw [e, e', lt_vec rfl rfl rfl rfl, lt_vec a1 b1 a4 b4]
          simp only; omega
/-- By distances the better one comes, if the other one does. -/
theorem over_comes {p : Net} (g : NetG p) {k n : Int} {a b : Rt} (hp : p.proto ≠ 2) (hha : Holds p (asOf p (othL p.links k n)) a) (hb : (overR p k n b).kind ≠ 0) (h : betterB a b = true) : (overR p k n a).kind ≠ 0 := by
  obtain ⟨i1, i2, i3, i4⟩ := over_some g hb
  obtain ⟨e1, e2, e3, e4⟩ := g.ends i1
  rcases i4 with ⟨q, _⟩ | ⟨_, e', hc'⟩
  · exact absurd q hp
  · have ha0 : a.kind ≠ 0 := by
      intro e
      rw [(lt_none e hha.1 b i3.1).1] at h; cases h
    rw [over_vec hp i1 ha0 hha (by omega)]
    rcases hha.some ha0 with ⟨q, _⟩ | ⟨_, a1, a2, a3, a4⟩
    · exact absurd q hp
    · rcases i3.some i2 with ⟨q, _⟩ | ⟨_, b1, b2, b3, b4⟩
      · exact absurd q hp
      · rw [lt_vec a1 b1 a4 b4] at h
        rw [if_pos (by omega)]; simp

theorem Holds.len {p : Net} {x : Rt} {a : Int} (h : Holds p a x) (hk : x.kind ≠ 0) : 0 ≤ rtLen x ∧ rtLen x ≤ 15 := by
  rcases h.some hk with ⟨_, h1, _, h2, _⟩ | ⟨_, h1, h2, h3, _⟩
  · have := h2.1
    simp only [rtLen, h1]; simp; omega
  · simp only [rtLen, h1]; simp; omega
/-! ### Of raw numbers, what a node may hold -/
def stepH (cap a : Int) (acc : List Int) (x : Int) : List Int := if (acc.length : Int) < cap then (if 1 + pickV x 20 = a ∨ 1 + pickV x 20 ∈ acc then acc else acc ++ [1 + pickV x 20]) else acc
def heldR (p : Net) (i : Int) (raw : List Int) : Rt := if p.proto = 1 then ⟨1, (match raw with | [] => 0 | x :: _ => pickV x 16), []⟩ else ⟨2, 0, raw.foldl (stepH p.cap (asOf p i)) []⟩
structure HeldOk (cap a : Int) (l : List Int) : Prop where
  len : (l.length : Int) ≤ cap
  nd : l.Nodup
  num : ∀ x ∈ l, 1 ≤ x ∧ x ≤ 20
  own : a ∉ l
theorem HeldOk.step {cap a : Int} {l : List Int} (h : HeldOk cap a l) (x : Int) : HeldOk cap a (stepH cap a l x) := by
  unfold stepH
  split
  · split
    · exact h
    · rename_i h1 h2
      have hp : 1 ≤ 1 + pickV x 20 ∧ 1 + pickV x 20 ≤ 20 := by have := pickV_in (c := x) (n := 20) (by omega); omega
      generalize 1 + pickV x 20 = y at *
      have h3 : ¬ y = a := fun e => h2 (.inl e)
      have h4 : y ∉ l := fun e => h2 (.inr e)
      refine ⟨by rw [List.length_append]; simp; omega, ?_, ?_, ?_⟩
      · rw [List.nodup_append]
        refine ⟨h.nd, by simp, ?_⟩
        intro z hz u hu e
        simp at hu
        subst hu e
        exact h4 hz
      · intro z hz
        rcases List.mem_append.1 hz with hz | hz
        · exact h.num z hz
        · simp at hz; omega
      · intro hz
        rcases List.mem_append.1 hz with hz | hz
        · exact h.own hz
        · simp at hz; exact h3 hz.symm
  · exact h
theorem HeldOk.fold {cap a : Int} : ∀ (r l : List Int), HeldOk cap a l → HeldOk cap a (r.foldl (stepH cap a) l)
  | [], _, h => h
  | x :: r, _, h => HeldOk.fold r _ (h.step x)
theorem stopH_fold {cap a : Int} : ∀ (r l : List Int), ¬ (l.length : Int) < cap → r.foldl (stepH cap a) l = l
  | [], _, _ => rfl
  | x :: r, l, h => by
    have : stepH cap a l x = l := by unfold stepH; rw [if_neg h]
    show r.foldl (stepH cap a) (stepH cap a l x) = l
    rw [this]; exact stopH_fold r l h
theorem heldR_path {p : Net} (g : NetG p) (i : Int) (raw : List Int) (h : p.proto ≠ 1) : heldR p i raw = ⟨2, 0, (heldR p i raw).path⟩ ∧ HeldOk p.cap (asOf p i) (heldR p i raw).path := by
  unfold heldR
  rw [if_neg h]
  refine ⟨rfl, HeldOk.fold _ _ ⟨?_, by simp, by simp, by simp⟩⟩
  have := g.proto
  simp; omega
theorem heldR_vec {p : Net} (i : Int) (raw : List Int) (h : p.proto = 1) : heldR p i raw = ⟨1, (heldR p i raw).cost, []⟩ ∧ 0 ≤ (heldR p i raw).cost ∧ (heldR p i raw).cost ≤ 15 := by
  unfold heldR
  rw [if_pos h]
  refine ⟨rfl, ?_⟩
  simp only
  split
  · omega
  · rename_i x _
    have := pickV_in (c := x) (n := 16) (by omega)
    omega
theorem heldR_holds {p : Net} (g : NetG p) (i : Int) (raw : List Int) : Holds p (asOf p i) (heldR p i raw) ∧ (heldR p i raw).kind ≠ 0 := by
  by_cases h : p.proto = 1
  · obtain ⟨e, h0, h1⟩ := heldR_vec i raw h
    generalize (heldR p i raw).cost = c at *
    rw [e]
    exact ⟨⟨⟨.inr (.inl rfl), (fun h => by simp at h), fun _ => ⟨h0, h1, rfl⟩, fun h => by simp at h⟩, .inr (.inr ⟨by omega, rfl⟩)⟩, by simp⟩
  · obtain ⟨e, hh⟩ := heldR_path g i raw h
    generalize (heldR p i raw).path = l at *
    rw [e]
    have := g.proto
    have hl := hh.len
    refine ⟨⟨⟨.inr (.inr rfl), (fun h => by simp at h), (fun h => by simp at h), fun _ => ⟨rfl, by simp; omega, hh.nd, fun x hx => ?_⟩⟩, .inr (.inl ⟨by omega, rfl, hl, hh.own⟩)⟩, by simp⟩
    have := hh.num x hx
    omega
end

section
abbrev St := Nat → Rt
/-- What a node may choose of. -/
def candF (p : Net) (f d : Int) (l : St) (i : Nat) : List Rt := ownR p d i :: (arL p.links f i p.links.length).map fun (k : Nat) => overR p k i (l (othL p.links k i).toNat)
def stepF (p : Net) (f d : Int) (l : St) : St := fun i => bestR (candF p f d l i)
def startF (p : Net) (d : Int) : St := fun i => ownR p d i
def iterF (p : Net) (f d : Int) (l : St) : Nat → St
  | 0 => l
  | r + 1 => stepF p f d (iterF p f d l r)
def runF (p : Net) (f d : Int) (r : Nat) : St := iterF p f d (startF p d) r
/-- Every node may hold what it holds. -/
def FitsF (p : Net) (l : St) : Prop := ∀ i : Nat, Holds p (asOf p i) (l i)

section
variable {p : Net} {f g d : Int} {l m : St} {i : Nat} {x y : Rt}
theorem mem_cand : x ∈ candF p f d l i ↔ x = ownR p d i ∨ ∃ k ∈ arL p.links f i p.links.length, x = overR p k i (l (othL p.links k i).toNat) := by
  unfold candF
  rw [List.mem_cons, List.mem_map]
  refine or_congr_right ⟨?_, ?_⟩
  · rintro ⟨k, hk, e⟩; exact ⟨k, hk, e.symm⟩
  · rintro ⟨k, hk, e⟩; exact ⟨k, hk, e.symm⟩
theorem cand_holds (G : NetG p) (h : x ∈ candF p f d l i) : Holds p (asOf p i) x := by
  rcases mem_cand.1 h with e | ⟨k, _, e⟩ <;> rw [e]
  · exact holds_ownR G d i _
  · exact holds_over p k i _
theorem cand_ok (G : NetG p) : ∀ x ∈ candF p f d l i, RtOk x := fun _ h => (cand_holds G h).1
theorem cand_ne : candF p f d l i ≠ [] := by simp [candF]
theorem step_mem (G : NetG p) : stepF p f d l i ∈ candF p f d l i := best_mem (cand_ok G) cand_ne
theorem step_min (G : NetG p) : ∀ x ∈ candF p f d l i, betterB x (stepF p f d l i) = false := best_min (cand_ok G)
theorem step_uniq (G : NetG p) (h : x ∈ candF p f d l i) (h' : ∀ y ∈ candF p f d l i, betterB y x = false) : stepF p f d l i = x := (best_uniq (cand_ok G) h h').symm
theorem step_fits (G : NetG p) : FitsF p (stepF p f d l) := fun _ => cand_holds G (step_mem G)
theorem start_fits (G : NetG p) : FitsF p (startF p d) := fun _ => holds_ownR G d _ _
theorem iter_fits (G : NetG p) (h : FitsF p l) : ∀ r, FitsF p (iterF p f d l r)
  | 0 => h
  | _ + 1 => step_fits G
theorem run_fits (G : NetG p) (r : Nat) : FitsF p (runF p f d r) := iter_fits G (start_fits G) r

/-! ### Lengths -/
theorem own_len (h : (ownR p d i).kind ≠ 0) : rtLen (ownR p d i) = 0 := by
  unfold ownR at h ⊢
  split at h
  · rename_i hc
    rw [if_pos hc]; unfold rtOwn; split <;> simp [rtLen]
  · exact absurd rfl h
/-- Of two that may be held the shorter one is better. -/
theorem shorter {a b : Int} (hx : Holds p a x) (hy : Holds p b y) (kx : x.kind ≠ 0) (ky : y.kind ≠ 0) : (rtLen x < rtLen y → betterB x y = true) ∧ (betterB x y = true → rtLen x ≤ rtLen y) := by
  rcases hx.some kx with ⟨q, h1, h2, h3, _⟩ | ⟨q, h1, h2, h3, h4⟩
  · rcases hy.some ky with ⟨_, g1, g2, g3, _⟩ | ⟨q', _⟩
    · rw [lt_path h1 g1 h2 g2]
      simp only [rtLen, h1, g1]; simp; omega
    · exact absurd q q'
  · rcases hy.some ky with ⟨q', _⟩ | ⟨_, g1, g2, g3, g4⟩
    · exact absurd q' q
    · rw [lt_vec h1 g1 h4 g4]
      simp only [rtLen, h1, g1]; simp; omega
theorem better_some {a b : Int} (hx : Holds p a x) (hy : Holds p b y) (h : betterB x y = true) : x.kind ≠ 0 := fun e => by
  rw [(lt_none e hx.1 y hy.1).1] at h; cases h
/-- What comes over a link is longer by at least one. -/
theorem over_more (G : NetG p) {k : Nat} (h : (overR p k i x).kind ≠ 0) : x.kind ≠ 0 ∧ rtLen x + 1 ≤ rtLen (overR p k i x) := by
  obtain ⟨h1, h2, _⟩ := over_some G h
  have := (over_longer G h).2.1
  obtain ⟨_, _, _, e4⟩ := G.ends h1
  refine ⟨h2, ?_⟩
  split at this <;> omega

/-! ### What agrees up to a length -/
def Agree (k : Int) (l m : St) : Prop := ∀ (i : Nat) (x : Rt), x.kind ≠ 0 → rtLen x ≤ k → (l i = x ↔ m i = x)
theorem Agree.refl (k : Int) (l : St) : Agree k l l := fun _ _ _ _ => Iff.rfl
theorem Agree.symm {k : Int} (h : Agree k l m) : Agree k m l := fun i x h1 h2 => (h i x h1 h2).symm
theorem Agree.trans {k : Int} {o : St} (h : Agree k l m) (h' : Agree k m o) : Agree k l o := fun i x h1 h2 => (h i x h1 h2).trans (h' i x h1 h2)
theorem Agree.less {k j : Int} (h : Agree k l m) (hj : j ≤ k) : Agree j l m := fun i x h1 h2 => h i x h1 (by omega)
theorem agree_none (hl : FitsF p l) (hm : FitsF p m) : Agree (-1) l m := by
  intro i x hk hx
  constructor
  · intro e; have := (hl i).len (by rw [e]; exact hk); rw [e] at this; omega
  · intro e; have := (hm i).len (by rw [e]; exact hk); rw [e] at this; omega
theorem agree_cand (G : NetG p) {k : Int} (h : Agree k l m) (hk : x.kind ≠ 0) (hx : rtLen x ≤ k + 1) (hm : x ∈ candF p f d l i) : x ∈ candF p f d m i := by
  rcases mem_cand.1 hm with e | ⟨j, hj, e⟩
  · exact mem_cand.2 (.inl e)
  · have h0 : (overR p j i (l (othL p.links j i).toNat)).kind ≠ 0 := by rw [← e]; exact hk
    obtain ⟨h1, h2⟩ := over_more G h0
    rw [← e] at h2
    have := (h _ _ h1 (by omega)).1 rfl
    exact mem_cand.2 (.inr ⟨j, hj, by rw [this]; exact e⟩)
theorem agree_half (G : NetG p) {k : Int} (h : Agree k l m) (hk : x.kind ≠ 0) (hx : rtLen x ≤ k + 1) (he : stepF p f d l i = x) : stepF p f d m i = x := by
  have hm := step_mem (f := f) (d := d) (l := l) (i := i) G
  have hmin := step_min (f := f) (d := d) (l := l) (i := i) G
  rw [he] at hm hmin
  refine step_uniq G (agree_cand G h hk hx hm) (fun y hy => ?_)
  cases hb : betterB y x with
  | false => rfl
  | true =>
    have hxh := cand_holds G hm
    have hyh := cand_holds G hy
    have hyk := better_some hyh hxh hb
    have := (shorter hyh hxh hyk hk).2 hb
    rw [← hb, hmin y (agree_cand G h.symm hyk (by omega) hy)]
/-- A round more, a length more. -/
theorem Agree.step (G : NetG p) {k : Int} (h : Agree k l m) : Agree (k + 1) (stepF p f d l) (stepF p f d m) :=
  fun _ _ hk hx => ⟨agree_half G h hk hx, agree_half G h.symm hk hx⟩
theorem Agree.iter (G : NetG p) {k : Int} (h : Agree k l m) : ∀ r : Nat, Agree (k + r) (iterF p f d l r) (iterF p f d m r)
  | 0 => by
    have e : k + ((0 : Nat) : Int) = k := by omega
    rw [e]; exact h
  | r + 1 => by
    have := (Agree.iter G h r).step (f := f) (d := d) G
    have e : k + (r : Int) + 1 = k + ((r + 1 : Nat) : Int) := by omega
    rw [e] at this
    exact this
theorem agree_start (G : NetG p) (l : St) : Agree 0 (startF p d) (stepF p f d l) := by
  intro i x hk hx
  constructor
  · intro e
    have e : ownR p d i = x := e
    refine step_uniq G (mem_cand.2 (.inl e.symm)) (fun y hy => ?_)
    cases hb : betterB y x with
    | false => rfl
    | true =>
      have hxh : Holds p (asOf p i) x := by rw [← e]; exact holds_ownR G d i _
      have hyh := cand_holds G hy
      have hyk := better_some hyh hxh hb
      have h1 := (shorter hyh hxh hyk hk).2 hb
      rcases mem_cand.1 hy with e' | ⟨j, _, e'⟩
      · rw [e', e, betterB_self] at hb; cases hb
      · rw [e'] at hyk h1
        obtain ⟨h2, h3⟩ := over_more G hyk
        have : 0 ≤ rtLen (l (othL p.links j i).toNat) := by
          obtain ⟨q1, q2, q3, _⟩ := over_some G hyk
          exact (q3.len q2).1
        omega
  · intro e
    have hm := step_mem (f := f) (d := d) (l := l) (i := i) G
    rw [e] at hm
    rcases mem_cand.1 hm with e' | ⟨j, _, e'⟩
    · exact e'.symm
    · rw [e'] at hk hx
      obtain ⟨h2, h3⟩ := over_more G hk
      have : 0 ≤ rtLen (l (othL p.links j i).toNat) := by
        obtain ⟨q1, q2, q3, _⟩ := over_some G hk
        exact (q3.len q2).1
      omega
theorem iter_succ (r : Nat) : iterF p f d (stepF p f d l) r = iterF p f d l (r + 1) := by
  induction r with
  | zero => rfl
  | succ r ih => show stepF p f d (iterF p f d (stepF p f d l) r) = _; rw [ih]; rfl
theorem iter_add (a : Nat) : ∀ b, iterF p f d l (a + b) = iterF p f d (iterF p f d l a) b
  | 0 => rfl
  | b + 1 => by show stepF p f d (iterF p f d l (a + b)) = _; rw [iter_add a b]; rfl
/-- What has come behind r rounds and is no longer than r stays. -/
theorem run_agree (G : NetG p) (r : Nat) : ∀ s : Nat, Agree r (runF p f d r) (runF p f d (r + s))
  | 0 => Agree.refl _ _
  | s + 1 => by
    have h1 := run_agree G r s
    have h2 := (agree_start (f := f) (d := d) G (startF p d)).iter (f := f) (d := d) G (r + s)
    rw [iter_succ] at h2
    exact h1.trans (h2.less (by omega))
/-- All that may be held is at most fifteen long. -/
theorem agree_all (hl : FitsF p l) (hm : FitsF p m) {k : Int} (hk : 15 ≤ k) (h : Agree k l m) : l = m := by
  funext i
  by_cases h1 : (l i).kind = 0
  · by_cases h2 : (m i).kind = 0
    · rw [(hl i).1.k0 h1, (hm i).1.k0 h2]
    · have := (hm i).len h2
      exact (h i (m i) h2 (by omega)).2 rfl
  · have := (hl i).len h1
    exact ((h i (l i) h1 (by omega)).1 rfl).symm
/-- THE STAGE'S THEOREM of layer 10, plainly: whatever nodes hold at first. -/
theorem iter_any (G : NetG p) (hl : FitsF p l) (hm : FitsF p m) {r : Nat} (hr : 16 ≤ r) : iterF p f d l r = iterF p f d m r :=
  agree_all (iter_fits G hl r) (iter_fits G hm r) (by omega) ((agree_none hl hm).iter G r)
def endF (p : Net) (f d : Int) : St := runF p f d 16
theorem end_step (G : NetG p) : stepF p f d (endF p f d) = endF p f d := by
  have h := iter_any (f := f) (d := d) G (step_fits (f := f) (d := d) (l := startF p d) G) (start_fits (d := d) G) (r := 16) (by omega)
  rw [iter_succ] at h
  exact h
theorem iter_end (G : NetG p) (hl : FitsF p l) : ∀ {r : Nat}, 16 ≤ r → iterF p f d l r = endF p f d := by
  intro r hr
  induction r with
  | zero => omega
  | succ r ih =>
    by_cases h : 16 ≤ r
    · show stepF p f d (iterF p f d l r) = _
      rw [ih h, end_step G]
    · have : r + 1 = 16 := by omega
      rw [this]
      exact iter_any G hl (start_fits G) (by omega)
/-- What a round does not change is what is held in the end. -/
theorem fixed_end (G : NetG p) (hl : FitsF p l) (h : stepF p f d l = l) : l = endF p f d := by
  have : ∀ r, iterF p f d l r = l := by
    intro r
    induction r with
    | zero => rfl
    | succ r ih => show stepF p f d (iterF p f d l r) = l; rw [ih, h]
  rw [← this 16]
  exact iter_end G hl (by omega)

/-! ### Not worse -/
def NBt (a b : Rt) : Prop := betterB a b = false
theorem NBt.refl (a : Rt) : NBt a a := betterB_self a
theorem nb_eq {a b : Rt} (ha : RtOk a) (hb : RtOk b) (h : NBt a b) : b = a ∨ betterB b a = true := by
  by_cases e : b = a
  · exact .inl e
  · rcases betterB_total hb ha e with h' | h'
    · exact .inr h'
    · rw [h] at h'; cases h'
theorem NBt.trans {a b c : Rt} (ha : RtOk a) (hb : RtOk b) (hc : RtOk c) (h : NBt a b) (h' : NBt b c) : NBt a c := by
  rcases nb_eq ha hb h with rfl | h1
  · exact h'
  · rcases nb_eq hb hc h' with rfl | h2
    · exact betterB_asymm h1
    · exact betterB_asymm (betterB_trans h2 h1)
/-- By distances a round keeps 'no worse'. -/
theorem step_mono (G : NetG p) (hp : p.proto ≠ 2) (hl : FitsF p l) (hm : FitsF p m) (h : ∀ i, NBt (m i) (l i)) (i : Nat) : NBt (stepF p f d m i) (stepF p f d l i) := by
  cases hb : betterB (stepF p f d m i) (stepF p f d l i) with
  | false => exact hb
  | true =>
    have hy := step_mem (f := f) (d := d) (l := m) (i := i) G
    have hmin := step_min (f := f) (d := d) (l := l) (i := i) G
    have hz := step_fits (f := f) (d := d) (l := l) G i
    have hyh := cand_holds G hy
    generalize stepF p f d m i = y at *
    generalize stepF p f d l i = z at *
    have hyk := better_some hyh hz hb
    rcases mem_cand.1 hy with e | ⟨k, hk, e⟩
    · rw [hmin y (mem_cand.2 (.inl e))] at hb; cases hb
    · have hjh := hl (othL p.links k i).toNat
      have hjm := hm (othL p.links k i).toNat
      rw [e] at hyk
      obtain ⟨q1, q2, q3, _⟩ := over_some G hyk
      have hcast : (((othL p.links k i).toNat : Nat) : Int) = othL p.links k i := by omega
      rw [hcast] at hjh hjm
      rcases nb_eq hjm.1 hjh.1 (h _) with e' | h'
      · rw [hmin y (mem_cand.2 (.inr ⟨k, hk, by rw [e']; exact e⟩))] at hb; cases hb
      · have h1 := over_comes G hp hjh hyk h'
        have h2 := over_keeps G h1 hyk
        rw [h', ← e] at h2
        have := hmin _ (mem_cand.2 (.inr ⟨k, hk, rfl⟩))
        rw [betterB_trans h2 hb] at this; cases this
theorem isAr_more (hfg : ∀ i : Nat, hasB f i = true → hasB g i = true) {L : List Lk} {n : Int} {k : Nat} (h : isAr L g n k = true) : isAr L f n k = true := by
  unfold isAr at h ⊢
  split
  · rename_i x hx
    rw [hx] at h
    simp only [Bool.and_eq_true, Bool.not_eq_true'] at h ⊢
    refine ⟨?_, h.2⟩
    cases hf : hasB f k with
    | false => rfl
    | true => rw [hfg k hf] at h; cases h.1
  · rename_i hx
    rw [hx] at h; cases h
theorem cand_more (hfg : ∀ i : Nat, hasB f i = true → hasB g i = true) (h : x ∈ candF p g d l i) : x ∈ candF p f d l i := by
  rcases mem_cand.1 h with e | ⟨k, hk, e⟩
  · exact mem_cand.2 (.inl e)
  · obtain ⟨h1, h2⟩ := mem_arL.1 hk
    exact mem_cand.2 (.inr ⟨k, mem_arL.2 ⟨h1, isAr_more hfg h2⟩, e⟩)
/-- With more links failed nothing better. -/
theorem step_less (G : NetG p) (hfg : ∀ i : Nat, hasB f i = true → hasB g i = true) (l : St) (i : Nat) : NBt (stepF p g d l i) (stepF p f d l i) :=
  step_min G _ (cand_more hfg (step_mem G))
theorem run_less (G : NetG p) (hp : p.proto ≠ 2) (hfg : ∀ i : Nat, hasB f i = true → hasB g i = true) : ∀ (r : Nat) (i : Nat), NBt (runF p g d r i) (runF p f d r i)
  | 0, _ => NBt.refl _
  | r + 1, i => NBt.trans (step_fits G i).1 (step_fits (f := g) (d := d) (l := runF p f d r) G i).1 (step_fits G i).1 (step_mono G hp (run_fits G r) (run_fits G r) (run_less G hp hfg r) i) (step_less G hfg _ i)
theorem run_up (G : NetG p) (hp : p.proto ≠ 2) : ∀ (r : Nat) (i : Nat), NBt (runF p f d r i) (runF p f d (r + 1) i)
  | 0, _ => step_min G _ (mem_cand.2 (.inl rfl))
  | r + 1, i => step_mono G hp (run_fits G (r + 1)) (run_fits G r) (run_up G hp r) i
/-- By lists what a node holds behind r rounds is at most r long. -/
theorem run_len (G : NetG p) (hp : p.proto = 2) : ∀ (r : Nat) (i : Nat), (runF p f d r i).kind ≠ 0 → rtLen (runF p f d r i) ≤ r
  | 0, i, h => by have := own_len h; show rtLen (ownR p d i) ≤ _; omega
  | r + 1, i, h => by
    rcases mem_cand.1 (step_mem (f := f) (d := d) (l := runF p f d r) (i := i) G) with e | ⟨k, hk, e⟩
    · have e : runF p f d (r + 1) i = ownR p d i := e
      rw [e] at h ⊢
      have := own_len h; omega
    · have e : runF p f d (r + 1) i = overR p k i (runF p f d r (othL p.links k i).toNat) := e
      rw [e] at h ⊢
      have h1 := (over_longer G h).2.1
      rw [if_pos hp] at h1
      have := run_len G hp r _ (over_more G h).1
      omega
/-- .. and has come for good. -/
theorem run_stays (G : NetG p) (hp : p.proto = 2) {r : Nat} (s : Nat) (h : (runF p f d r i).kind ≠ 0) : runF p f d (r + s) i = runF p f d r i :=
  (run_agree G r s i _ h (run_len G hp r i h)).1 rfl
/-- What a node holds no round makes worse. -/
theorem run_better (G : NetG p) (r : Nat) (i : Nat) : betterB (runF p f d r i) (runF p f d (r + 1) i) = false := by
  by_cases hp : p.proto = 2
  · by_cases h : (runF p f d r i).kind = 0
    · exact (lt_none h (run_fits G r i).1 _ (run_fits G (r + 1) i).1).1
    · rw [run_stays G hp 1 h]; exact betterB_self _
  · exact run_up G hp r i
end

section
variable {p : Net} {f d : Int} {l m : St} {i : Nat}
/-- What a node holds behind a round hangs on its neighbours alone. -/
theorem step_near (h : ∀ k ∈ arL p.links f i p.links.length, l (othL p.links k i).toNat = m (othL p.links k i).toNat) : stepF p f d l i = stepF p f d m i := by
  unfold stepF candF
  congr 2
  exact List.map_congr_left fun k hk => by rw [h k hk]
/-- Without links that stand each node holds its own. -/
theorem step_alone (G : NetG p) (h : arL p.links f i p.links.length = []) (l : St) : stepF p f d l i = ownR p d i := by
  refine step_uniq G (mem_cand.2 (.inl rfl)) (fun y hy => ?_)
  rcases mem_cand.1 hy with e | ⟨k, hk, _⟩
  · rw [e]; exact betterB_self _
  · rw [h] at hk; cases hk
/-- Nothing that may be held is better than a node's own. -/
theorem own_first (G : NetG p) {a : Int} {r : Rt} (h : Holds p a r) : betterB r (rtOwn p) = false := by
  cases hb : betterB r (rtOwn p) with
  | false => rfl
  | true =>
    by_cases hk : r.kind = 0
    · rw [(lt_none hk h.1 _ (holds_own G 0).1).1] at hb; cases hb
    · rcases h.some hk with ⟨hp, a1, a2, _⟩ | ⟨hp, a1, a2, a3, a4⟩
      · have e : rtOwn p = ⟨2, 0, []⟩ := by unfold rtOwn; rw [if_pos hp]
        rw [e, lt_path a1 rfl a2 rfl] at hb
        rcases hb with hb | ⟨hb, hl⟩
        · simp at hb
        · have : r.path = [] := List.eq_nil_of_length_eq_zero (by simpa using hb)
          rw [this] at hl; simp [lexI] at hl
      · have e : rtOwn p = ⟨1, 0, []⟩ := by unfold rtOwn; rw [if_neg hp]
        rw [e, lt_vec a1 rfl a4 rfl] at hb
        simp at hb; omega
/-- An origin holds its own behind any round. -/
theorem step_own (G : NetG p) (h : (ownR p d i).kind ≠ 0) (l : St) : stepF p f d l i = ownR p d i := by
  have e : ownR p d i = rtOwn p := by
    unfold ownR at h ⊢
    split at h
    · rename_i hc; rw [if_pos hc]
    · exact absurd rfl h
  refine step_uniq G (mem_cand.2 (.inl rfl)) (fun y hy => ?_)
  rw [e]
  exact own_first G (cand_holds G hy)
/-- What a node holds came from an origin, over so many links at most. -/
theorem run_near (hok : LksOk p.links p.nodes.length) (G : NetG p) : ∀ (r i : Nat), (runF p f d r i).kind ≠ 0 → ∃ o : Nat, (ownR p d o).kind ≠ 0 ∧ ∃ k, k ≤ r ∧ Gr.Ball (Adj p.links f) k o i
  | 0, i, h => ⟨i, h, 0, Nat.le_refl _, rfl⟩
  | r + 1, i, h => by
    rcases mem_cand.1 (step_mem (f := f) (d := d) (l := runF p f d r) (i := i) G) with e | ⟨k, hk, e⟩
    · have e : runF p f d (r + 1) i = ownR p d i := e
      rw [e] at h
      exact ⟨i, h, 0, Nat.zero_le _, rfl⟩
    · have e : runF p f d (r + 1) i = overR p k i (runF p f d r (othL p.links k i).toNat) := e
      rw [e] at h
      obtain ⟨h1, _⟩ := over_more G h
      obtain ⟨o, ho, q, hq, hb⟩ := run_near hok G r _ h1
      obtain ⟨hk1, hk2⟩ := mem_arL.1 hk
      obtain ⟨y, hy⟩ : ∃ y, p.links[k]? = some y := ⟨_, List.getElem?_eq_getElem hk1⟩
      obtain ⟨m, hm, -, hadj⟩ := ar_oth hok hy hk2
      have hoth : othL p.links k i = m := by simp [othL, hy, hm]
      rw [hoth] at hb
      exact ⟨o, ho, q + 1, by omega, .inr ⟨m, hb, Adj.symm _ _ hadj⟩⟩
/-- Rounds behind rounds are rounds; behind what does not change nothing changes. -/
theorem run_add (a b : Nat) : runF p f d (a + b) = iterF p f d (runF p f d a) b := iter_add a b
theorem iter_fixed (h : stepF p f d l = l) : ∀ r, iterF p f d l r = l
  | 0 => rfl
  | r + 1 => by show stepF p f d (iterF p f d l r) = l; rw [iter_fixed h r, h]
/-- The list of what nodes hold. -/
def stL (p : Net) (l : St) : List Rt := (List.range p.nodes.length).map l
theorem stL_at {l : St} {i : Nat} (h : i < p.nodes.length) : (stL p l)[i]? = some (l i) := by simp [stL, h]
theorem stL_len (p : Net) (l : St) : (stL p l).length = p.nodes.length := by simp [stL]
theorem stL_eq {l m : St} : stL p l = stL p m ↔ ∀ i, i < p.nodes.length → l i = m i := by
  constructor
  · intro h i hi
    have h1 := stL_at (p := p) (l := l) hi
    rw [h, stL_at hi] at h1
    injection h1 with h1
    exact h1.symm
  · intro h
    unfold stL
    exact List.map_congr_left fun i hi => h i (List.mem_range.1 hi)
/-- Only what nodes hold counts. -/
theorem step_congr (hok : LksOk p.links p.nodes.length) (h : ∀ i, i < p.nodes.length → l i = m i) (i : Nat) : stepF p f d l i = stepF p f d m i :=
  step_near fun k hk => by
    obtain ⟨hk1, hk2⟩ := mem_arL.1 hk
    obtain ⟨y, hy⟩ : ∃ y, p.links[k]? = some y := ⟨_, List.getElem?_eq_getElem hk1⟩
    obtain ⟨q, hq, hqN, -⟩ := ar_oth hok hy hk2
    have ho : othL p.links k i = q := by simp [othL, hy, hq]
    rw [ho]; exact h q hqN
theorem iter_congr (hok : LksOk p.links p.nodes.length) (h : ∀ i, i < p.nodes.length → l i = m i) : ∀ (r i : Nat), i < p.nodes.length → iterF p f d l r i = iterF p f d m r i
  | 0, i, hi => h i hi
  | r + 1, i, _ => step_congr hok (iter_congr hok h r) i
/-- A list of routes as what nodes hold. -/
def ofL (L : List Rt) : St := fun i => (L[i]?).getD rtNone
theorem ofL_stL {l : St} {i : Nat} (h : i < p.nodes.length) : ofL (stL p l) i = l i := by unfold ofL; rw [stL_at h]; rfl
theorem stL_ofL {L : List Rt} (h : L.length = p.nodes.length) : stL p (ofL L) = L := by
  apply List.ext_getElem?
  intro i
  by_cases hi : i < p.nodes.length
  · rw [stL_at hi]; unfold ofL; rw [List.getElem?_eq_getElem (by omega)]; rfl
  · rw [List.getElem?_eq_none (by rw [stL_len]; omega), List.getElem?_eq_none (by omega)]
/-- Where a round changes nothing no more rounds do. -/
theorem stop_stays (hok : LksOk p.links p.nodes.length) {r : Nat} (h : stL p (runF p f d r) = stL p (runF p f d (r + 1))) : ∀ s : Nat, stL p (runF p f d (r + s)) = stL p (runF p f d r)
  | 0 => rfl
  | s + 1 => by
    have ih := stL_eq.1 (stop_stays hok h s)
    rw [h]
    refine stL_eq.2 fun i _ => ?_
    show stepF p f d (runF p f d (r + s)) i = stepF p f d (runF p f d r) i
    exact step_congr hok ih i
end

theorem filter_more {p q : Nat → Bool} (h : ∀ i, p i = true → q i = true) : ∀ (l : List Nat), (l.filter p).length ≤ (l.filter q).length
  | [] => Nat.le_refl _
  | x :: l => by
    have ih := filter_more h l
    simp only [List.filter_cons]
    by_cases hp : p x = true
    · rw [if_pos hp, if_pos (h x hp)]; simp; exact ih
    · rw [if_neg hp]
      split
      · simp; omega
      · exact ih
theorem filter_lt {p q : Nat → Bool} (h : ∀ i, p i = true → q i = true) {v : Nat} (hq : q v = true) (hp : p v = false) : ∀ (l : List Nat), v ∈ l → (l.filter p).length < (l.filter q).length
  | [], hv => by cases hv
  | x :: l, hv => by
    simp only [List.filter_cons]
    by_cases e : x = v
    · subst e
      rw [hp, hq]
      have := filter_more h l
      simp; omega
    · have ih := filter_lt h hq hp l ((List.mem_cons.1 hv).resolve_left (fun e' => e e'.symm))
      by_cases hpx : p x = true
      · rw [if_pos hpx, if_pos (h x hpx)]; simp; exact ih
      · rw [if_neg hpx]
        split
        · simp; omega
        · exact ih
theorem least_ex {P : Nat → Prop} (m : Nat → Int) (h0 : ∀ i, P i → 0 ≤ m i) (h : ∃ i, P i) : ∃ i, P i ∧ ∀ j, P j → m i ≤ m j := by
  obtain ⟨i, hi⟩ := h
  have key : ∀ (n : Nat) (i : Nat), P i → m i ≤ n → ∃ i, P i ∧ ∀ j, P j → m i ≤ m j := by
    intro n
    induction n with
    | zero => exact fun i hi hm => ⟨i, hi, fun j hj => by have := h0 j hj; omega⟩
    | succ n ih =>
      intro i hi hm
      by_cases hx : ∃ j, P j ∧ m j ≤ n
      · obtain ⟨j, hj, hjn⟩ := hx; exact ih j hj hjn
      · exact ⟨i, hi, fun j hj => by
          have : ¬ m j ≤ n := fun e => hx ⟨j, hj, e⟩
          omega⟩
  exact key (m i).toNat i hi (by have := h0 i hi; omega)

section
variable {p : Net} {f d : Int} {i : Nat}
theorem run_nb (G : NetG p) (r : Nat) (i : Nat) : ∀ s : Nat, NBt (runF p f d r i) (runF p f d (r + s) i)
  | 0 => NBt.refl _
  | s + 1 => NBt.trans (run_fits G r i).1 (run_fits G (r + s) i).1 (run_fits G (r + s + 1) i).1 (run_nb G r i s) (run_better G (r + s) i)
theorem run_end (G : NetG p) {r : Nat} (h : 16 ≤ r) : runF p f d r = endF p f d := iter_end G (start_fits G) h
theorem end_fits (G : NetG p) : FitsF p (endF p f d) := run_fits G 16
theorem nb_end (G : NetG p) (r : Nat) (i : Nat) : NBt (runF p f d r i) (endF p f d i) := by
  have e : runF p f d (r + 16) = endF p f d := run_end G (by omega)
  rw [← e]
  exact run_nb G r i 16
theorem nb_anti {a b : Rt} (ha : RtOk a) (hb : RtOk b) (h : NBt a b) (h' : NBt b a) : a = b := by
  rcases nb_eq ha hb h with e | e
  · exact e.symm
  · rw [h'] at e; cases e
/-- What has come to what it is in the end stays. -/
theorem end_stays (G : NetG p) {r : Nat} (h : runF p f d r i = endF p f d i) : runF p f d (r + 1) i = endF p f d i := by
  have h1 := run_better (f := f) (d := d) G r i
  have h2 := nb_end (f := f) (d := d) G (r + 1) i
  rw [h] at h1
  exact nb_anti (run_fits G _ i).1 (end_fits G i).1 h2 h1
/-- A round more, a node more. -/
theorem end_grows (G : NetG p) {r : Nat} (h : ∃ v, v < p.nodes.length ∧ runF p f d r v ≠ endF p f d v) : ∃ v, v < p.nodes.length ∧ runF p f d r v ≠ endF p f d v ∧ runF p f d (r + 1) v = endF p f d v := by
  have hk : ∀ v, runF p f d r v ≠ endF p f d v → (endF p f d v).kind ≠ 0 := fun v hv e => by
    apply hv
    have h1 := nb_end (f := f) (d := d) G r v
    by_cases e2 : (runF p f d r v).kind = 0
    · rw [(run_fits G r v).1.k0 e2, (end_fits G v).1.k0 e]
    · have := (lt_none e (end_fits G v).1 _ (run_fits (f := f) (d := d) G r v).1).2.2 e2
      rw [h1] at this; cases this
  obtain ⟨v, ⟨hv, hne⟩, hmin⟩ := least_ex (P := fun v => v < p.nodes.length ∧ runF p f d r v ≠ endF p f d v) (fun v => rtLen (endF p f d v)) (fun v hv => ((end_fits G v).len (hk v hv.2)).1) h
  refine ⟨v, hv, hne, ?_⟩
  have hkv := hk v hne
  have hm := step_mem (f := f) (d := d) (l := endF p f d) (i := v) G
  rw [end_step G] at hm
  rcases mem_cand.1 hm with e | ⟨k, hkm, e⟩
  · exfalso
    apply hne
    have h0 : runF p f d 0 v = endF p f d v := e.symm
    have : ∀ s, runF p f d s v = endF p f d v := by
      intro s
      induction s with
      | zero => exact h0
      | succ s ih => exact end_stays G ih
    exact this r
  · have hko : (overR p k v (endF p f d (othL p.links k v).toNat)).kind ≠ 0 := by rw [← e]; exact hkv
    obtain ⟨q1, q2⟩ := over_more G hko
    rw [← e] at q2
    obtain ⟨t1, -, -, -⟩ := over_some G hko
    obtain ⟨t2, -, -, -⟩ := G.ends t1
    have hu : runF p f d r (othL p.links k v).toNat = endF p f d (othL p.links k v).toNat := by
      by_cases hu : runF p f d r (othL p.links k v).toNat = endF p f d (othL p.links k v).toNat
      · exact hu
      · have := hmin _ ⟨by omega, hu⟩
        omega
    have hc : endF p f d v ∈ candF p f d (runF p f d r) v := mem_cand.2 (.inr ⟨k, hkm, by rw [hu]; exact e⟩)
    exact nb_anti (run_fits G _ v).1 (end_fits G v).1 (nb_end G (r + 1) v) (step_min (f := f) (d := d) (l := runF p f d r) (i := v) G _ hc)
open Classical in
noncomputable def heldN (p : Net) (f d : Int) (r : Nat) : Nat := ((List.range p.nodes.length).filter fun v => decide (runF p f d r v = endF p f d v)).length
theorem heldN_grows (G : NetG p) (r : Nat) : heldN p f d r = p.nodes.length ∨ heldN p f d r < heldN p f d (r + 1) := by
  by_cases h : ∃ v, v < p.nodes.length ∧ runF p f d r v ≠ endF p f d v
  · obtain ⟨v, hv, h1, h2⟩ := end_grows G h
    right
    exact filter_lt (fun i hi => by simp at hi ⊢; exact end_stays G hi) (v := v) (by simp [h2]) (by simp [h1]) _ (List.mem_range.2 hv)
  · left
    unfold heldN
    rw [List.filter_eq_self.2 (fun v hv => by
      have := List.mem_range.1 hv
      simp only [decide_eq_true_eq]
      by_cases e : runF p f d r v = endF p f d v
      · exact e
      · exact absurd ⟨v, this, e⟩ h)]
    simp
theorem heldN_le (r : Nat) : heldN p f d r ≤ p.nodes.length := by
  unfold heldN
  have := List.length_filter_le (fun v => (open Classical in decide (runF p f d r v = endF p f d v))) (List.range p.nodes.length)
  simpa using this
theorem heldN_all (G : NetG p) : ∀ r : Nat, r ≤ heldN p f d r ∨ heldN p f d r = p.nodes.length
  | 0 => .inl (Nat.zero_le _)
  | r + 1 => by
    have hm : heldN p f d r ≤ heldN p f d (r + 1) := filter_more (fun i hi => by simp at hi ⊢; exact end_stays G hi) _
    have hl := heldN_le (p := p) (f := f) (d := d) (r + 1)
    rcases heldN_all G r with h | h
    · rcases heldN_grows (f := f) (d := d) G r with h' | h'
      · right; omega
      · left; omega
    · right; omega
/-- THE STAGE'S THEOREM of layer 10: behind so many rounds as there are nodes each node holds what it holds in the end. -/
theorem enough_nodes (G : NetG p) : ∀ v, v < p.nodes.length → runF p f d p.nodes.length v = endF p f d v := by
  have h : heldN p f d p.nodes.length = p.nodes.length := by
    have hl := heldN_le (p := p) (f := f) (d := d) p.nodes.length
    rcases heldN_all (f := f) (d := d) G p.nodes.length with h | h <;> omega
  intro v hv
  unfold heldN at h
  have h2 : ((List.range p.nodes.length).filter fun v => (open Classical in decide (runF p f d p.nodes.length v = endF p f d v))).length = (List.range p.nodes.length).length := by simpa using h
  have := List.length_filter_eq_length_iff.1 h2 v (List.mem_range.2 hv)
  simpa using this
end

/-! ### Links that fail elsewhere -/
section
variable {p : Net} {f g d : Int}
theorem ar_elsewhere {L : List Lk} {i : Nat} (hi : i < 16) {x : Lk} (hx : L[i]? = some x) {v : Nat} (ha : x.a ≠ v) (hb : x.b ≠ v) (K : Nat) : arL L (withB f i) v K = arL L f v K := by
  unfold arL
  refine List.filter_congr fun k _ => ?_
  unfold isAr
  by_cases e : k = i
  · subst e
    rw [hx]
    have h1 : (x.a == (v : Int)) = false := by simp [ha]
    have h2 : (x.b == (v : Int)) = false := by simp [hb]
    simp [h1, h2]
  · split
    · rw [hasB_with f hi]; simp [e]
    · rfl
theorem parts_run (hok : LksOk p.links p.nodes.length) {i : Nat} (hi : i < 16) {x : Lk} (hx : p.links[i]? = some x) {n : Nat} (ha : ¬ ∃ k, Gr.Ball (Adj p.links f) k n x.a.toNat) (hb : ¬ ∃ k, Gr.Ball (Adj p.links f) k n x.b.toNat) :
    ∀ (r v : Nat), (∃ k, Gr.Ball (Adj p.links f) k n v) → runF p (withB f i) d r v = runF p f d r v
  | 0, _, _ => rfl
  | r + 1, v, hv => by
    have hxo := hok x (List.mem_of_getElem? hx)
    have e := ar_elsewhere (f := f) hi hx (v := v) (fun e => ha (by rw [e]; simpa using hv)) (fun e => hb (by rw [e]; simpa using hv)) p.links.length
    show stepF p (withB f i) d (runF p (withB f i) d r) v = stepF p f d (runF p f d r) v
    unfold stepF candF
    rw [e]
    congr 2
    refine List.map_congr_left fun k hk => ?_
    obtain ⟨hk1, hk2⟩ := mem_arL.1 hk
    obtain ⟨y, hy⟩ : ∃ y, p.links[k]? = some y := ⟨_, List.getElem?_eq_getElem hk1⟩
    obtain ⟨m, hm, -, hadj⟩ := ar_oth hok hy hk2
    have ho : othL p.links k v = m := by simp [othL, hy, hm]
    rw [ho]
    obtain ⟨q, hq⟩ := hv
    have := parts_run hok hi hx ha hb r m ⟨q + 1, .inr ⟨v, hq, hadj⟩⟩
    rw [show ((m : Int)).toNat = m from rfl, this]
theorem parts_end (hok : LksOk p.links p.nodes.length) {i : Nat} (hi : i < 16) {x : Lk} (hx : p.links[i]? = some x) {n : Nat} (ha : ¬ ∃ k, Gr.Ball (Adj p.links f) k n x.a.toNat) (hb : ¬ ∃ k, Gr.Ball (Adj p.links f) k n x.b.toNat) :
    endF p (withB f i) d n = endF p f d n := parts_run hok hi hx ha hb 16 n ⟨0, rfl⟩

/-! ### With more links failed, all AS unlike -/
def Unlike (p : Net) : Prop := ∀ i j : Nat, i < p.nodes.length → j < p.nodes.length → asOf p i = asOf p j → i = j
/-- What a node holds in the end: its own, or what came over a link. -/
theorem end_cases (G : NetG p) {i : Nat} (h : (endF p f d i).kind ≠ 0) : endF p f d i = ownR p d i ∨ ∃ k u, k ∈ arL p.links f i p.links.length ∧ othL p.links k i = (u : Nat) ∧ u < p.nodes.length ∧ i < p.nodes.length ∧ endF p f d i = overR p k i (endF p f d u) := by
  have hm := step_mem (f := f) (d := d) (l := endF p f d) (i := i) G
  rw [end_step G] at hm
  rcases mem_cand.1 hm with e | ⟨k, hk, e⟩
  · exact .inl e
  · right
    have hko : (overR p k i (endF p f d (othL p.links k i).toNat)).kind ≠ 0 := by rw [← e]; exact h
    obtain ⟨t1, -, -, -⟩ := over_some G hko
    obtain ⟨t2, t3, -, -⟩ := G.ends t1
    exact ⟨k, (othL p.links k i).toNat, hk, by omega, by omega, by omega, e⟩
theorem end_min (G : NetG p) {i : Nat} {x : Rt} (h : x ∈ candF p f d (endF p f d) i) : betterB x (endF p f d i) = false := by
  have := step_min (f := f) (d := d) (l := endF p f d) (i := i) G x h
  rwa [end_step G] at this
theorem in_path (G : NetG p) (hU : Unlike p) (hp : p.proto = 2) {i : Nat} (hi : i < p.nodes.length) : ∀ (n j : Nat), (endF p f d j).path.length ≤ n → asOf p i ∈ (endF p f d j).path → (endF p f d j).kind ≠ 0 → (endF p f d i).kind ≠ 0 ∧ (endF p f d i).path.length < (endF p f d j).path.length
  | n, j, hn, hm, hk => by
    rcases end_cases G hk with e | ⟨k, u, hka, hou, hu, hj, e⟩
    · exfalso
      rw [e] at hm
      have : (ownR p d j).path = [] := by
        unfold ownR; split
        · unfold rtOwn; split <;> rfl
        · rfl
      rw [this] at hm; cases hm
    · have hko : (overR p k j (endF p f d u)).kind ≠ 0 := by rw [← e]; exact hk
      obtain ⟨t1, t2, t3, t4⟩ := over_some G hko
      rcases t4 with ⟨_, t5, _⟩ | ⟨t, _⟩
      · rw [e, t5, hou] at hm ⊢
        have hlen : (endF p f d j).path.length = (endF p f d u).path.length + 1 := by rw [e, t5]; simp
        simp only [List.mem_cons] at hm
        rcases hm with hm | hm
        · have := hU i u hi hu hm
          subst this
          exact ⟨t2, by simp⟩
        · cases n with
          | zero => omega
          | succ n =>
            obtain ⟨h1, h2⟩ := in_path G hU hp hi n u (by omega) hm t2
            exact ⟨h1, by simp; omega⟩
      · exact absurd hp t
theorem fewer_end (G : NetG p) (hU : Unlike p) (hp : p.proto = 2) (hfg : ∀ i : Nat, hasB f i = true → hasB g i = true) : ∀ (n i : Nat), (endF p g d i).path.length ≤ n → NBt (endF p g d i) (endF p f d i)
  | n, i, hn => by
    by_cases hk : (endF p g d i).kind = 0
    · exact (lt_none hk (end_fits G i).1 _ (end_fits (f := f) (d := d) G i).1).1
    rcases end_cases G hk with e | ⟨k, u, hka, hou, hu, hi, e⟩
    · rw [e]; exact end_min G (mem_cand.2 (.inl rfl))
    · have hko : (overR p k i (endF p g d u)).kind ≠ 0 := by rw [← e]; exact hk
      obtain ⟨t1, t2, t3, t4⟩ := over_some G hko
      rcases t4 with ⟨_, t5, t6, t7, t8⟩ | ⟨t, _⟩
      rotate_left
      · exact absurd hp t
      have hlen : (endF p g d i).path.length = (endF p g d u).path.length + 1 := by rw [e, t5]; simp
      have ihu : NBt (endF p g d u) (endF p f d u) := by
        cases n with
        | zero => omega
        | succ n => exact fewer_end G hU hp hfg n u (by omega)
      have hkaf : k ∈ arL p.links f i p.links.length := by
        obtain ⟨h1, h2⟩ := mem_arL.1 hka
        exact mem_arL.2 ⟨h1, isAr_more hfg h2⟩
      have hcf : overR p k i (endF p f d u) ∈ candF p f d (endF p f d) i := mem_cand.2 (.inr ⟨k, hkaf, by rw [hou]; rfl⟩)
      have hmin := end_min G hcf
      have hug := end_fits (f := g) (d := d) G u
      have huf := end_fits (f := f) (d := d) G u
      have hig := end_fits (f := g) (d := d) G i
      have hif := end_fits (f := f) (d := d) G i
      rcases nb_eq hug.1 huf.1 ihu with e2 | e2
      · rw [e2, ← e] at hmin; exact hmin
      · have hfk : (endF p f d u).kind ≠ 0 := better_some huf hug e2
        have hle := (shorter huf hug hfk t2).2 e2
        have hl : ∀ {q : Net} {a : Int} {x : Rt}, q.proto = 2 → Holds q a x → x.kind ≠ 0 → rtLen x = x.path.length := by
          intro q a x hq hx hxk
          rcases hx.some hxk with ⟨_, a1, _⟩ | ⟨a0, _⟩
          · simp [rtLen, a1]
          · exact absurd hq a0
        rw [hl hp huf hfk, hl hp hug t2] at hle
        by_cases hin : asOf p i ∈ (endF p f d u).path
        · obtain ⟨h1, h2⟩ := in_path G hU hp hi _ u (Nat.le_refl _) hin hfk
          refine betterB_asymm ((shorter hif hig h1 hk).1 ?_)
          rw [hl hp hif h1, hl hp hig hk]
          omega
        · have hov : (overR p k i (endF p f d u)).kind ≠ 0 := by
            have := over_path (k := (k : Int)) (n := (i : Int)) (r := endF p f d u) G hp t1 hfk (by rw [hou]; exact huf) (G.asIn (by rw [hou]; omega) (by rw [hou]; omega))
            rw [this, if_pos ⟨by omega, t7, hin⟩]; simp
          have hkeep := over_keeps G hov hko
          rw [e2, ← e] at hkeep
          cases hb : betterB (endF p g d i) (endF p f d i) with
          | false => exact hb
          | true => rw [betterB_trans hkeep hb] at hmin; cases hmin
/-- THE STAGE'S LAW of layer 10, plainly: with more links failed nodes hold nothing better in the end. -/
theorem end_fewer (G : NetG p) (hU : Unlike p) (hfg : ∀ i : Nat, hasB f i = true → hasB g i = true) (i : Nat) : NBt (endF p g d i) (endF p f d i) := by
  by_cases hp : p.proto = 2
  · exact fewer_end G hU hp hfg _ i (Nat.le_refl _)
  · exact run_less G hp hfg 16 i
end
section
variable {p : Net} {f d : Int}
/-- Rounds stop: behind so many as there are nodes at the latest. -/
theorem stop_nodes (G : NetG p) : stL p (runF p f d p.nodes.length) = stL p (runF p f d (p.nodes.length + 1)) :=
  stL_eq.2 fun v hv => by rw [enough_nodes G v hv, end_stays G (enough_nodes G v hv)]
/-- What stopped is the end. -/
theorem stop_end (G : NetG p) (hok : LksOk p.links p.nodes.length) {r : Nat} (h : stL p (runF p f d r) = stL p (runF p f d (r + 1))) : stL p (runF p f d r) = stL p (endF p f d) := by
  have h1 := stop_stays hok h 16
  have e : runF p f d (r + 16) = endF p f d := run_end G (by omega)
  rw [e] at h1; exact h1.symm
end

section
variable {p : Net} {f d : Int}
/-- Behind R rounds a round changes nothing; behind fewer it does. -/
structure Stop (p : Net) (f d : Int) (R : Nat) : Prop where
  stop : stL p (runF p f d R) = stL p (runF p f d (R + 1))
  least : ∀ j, j < R → stL p (runF p f d j) ≠ stL p (runF p f d (j + 1))
theorem least_nat {P : Nat → Prop} (n : Nat) (h : P n) : ∃ R, R ≤ n ∧ P R ∧ ∀ j, j < R → ¬ P j := by
  induction n using Nat.strongRecOn with
  | _ n ih =>
    by_cases hx : ∃ j, j < n ∧ P j
    · obtain ⟨j, hj, hp⟩ := hx
      obtain ⟨R, h1, h2⟩ := ih j hj hp
      exact ⟨R, by omega, h2⟩
    · exact ⟨n, Nat.le_refl _, h, fun j hj hp => hx ⟨j, hj, hp⟩⟩
theorem stop_ex (G : NetG p) : ∃ R, R ≤ p.nodes.length ∧ Stop p f d R := by
  obtain ⟨R, h1, h2, h3⟩ := least_nat (P := fun r => stL p (runF p f d r) = stL p (runF p f d (r + 1))) p.nodes.length (stop_nodes G)
  exact ⟨R, h1, h2, h3⟩
theorem Stop.end_ {R : Nat} (h : Stop p f d R) (G : NetG p) (hok : LksOk p.links p.nodes.length) : stL p (runF p f d R) = stL p (endF p f d) := stop_end G hok h.stop
theorem end_fixed (G : NetG p) : stL p (stepF p f d (endF p f d)) = stL p (endF p f d) := by rw [end_step G]
/-- What a round makes hangs on what the nodes hold alone. -/
theorem stL_step {l m : St} (hok : LksOk p.links p.nodes.length) (h : stL p l = stL p m) : stL p (stepF p f d l) = stL p (stepF p f d m) :=
  stL_eq.2 fun i _ => step_congr hok (stL_eq.1 h) i
theorem stL_iter {l m : St} (hok : LksOk p.links p.nodes.length) (h : stL p l = stL p m) (r : Nat) : stL p (iterF p f d l r) = stL p (iterF p f d m r) :=
  stL_eq.2 fun i hi => iter_congr hok (stL_eq.1 h) r i hi
theorem stL_mem {l : St} {x : Rt} (h : x ∈ stL p l) : ∃ i, i < p.nodes.length ∧ x = l i := by
  obtain ⟨i, hi, e⟩ := List.mem_map.1 h
  exact ⟨i, List.mem_range.1 hi, e.symm⟩
theorem stL_short {l : St} (h : FitsF p l) : ∀ x ∈ stL p l, x.path.length ≤ 12 := fun x hx => by
  obtain ⟨i, _, e⟩ := stL_mem hx
  rw [e]
  exact (h i).1.short
theorem stL_take (l : St) : ∀ k, k ≤ p.nodes.length → (stL p l).take k = (List.range k).map l := by
  intro k hk
  unfold stL
  rw [← List.map_take, List.take_range, Nat.min_eq_left hk]
theorem range_snoc (l : St) (k : Nat) : (List.range (k + 1)).map l = (List.range k).map l ++ [l k] := by
  rw [List.range_succ, List.map_append]; rfl
end
/-- What raw numbers say that node i holds. -/
def heldOne (p : Net) (i : Nat) : List Int → Rt
  | [] => rtNone
  | x :: l => if (x :: l).length % 3 = 0 then rtNone else heldR p i (x :: l)
def heldS (p : Net) (raw : List (List Int)) : St := fun i => match raw[i]? with | some x => heldOne p i x | none => rtNone
theorem heldOne_some {p : Net} {i : Nat} {x : List Int} (h : ¬ x.length % 3 = 0) : heldOne p i x = heldR p i x := by
  cases x with
  | nil => exact absurd rfl h
  | cons a l => exact if_neg h
theorem heldOne_none {p : Net} {i : Nat} {x : List Int} (h : x.length % 3 = 0) : heldOne p i x = rtNone := by
  cases x with
  | nil => rfl
  | cons a l => exact if_pos h
theorem held_fits {p : Net} (G : NetG p) (raw : List (List Int)) : FitsF p (heldS p raw) := by
  intro i
  unfold heldS
  split
  · rename_i x _
    by_cases h : x.length % 3 = 0
    · rw [heldOne_none h]; exact holds_none p _
    · rw [heldOne_some h]; exact (heldR_holds G i x).1
  · exact holds_none p _
end

section
section
variable {p : Net} {f d : Int} {i : Nat}
/-- A node holds a route of no length just if it is an origin. -/
theorem end_zero (G : NetG p) (hd : placeB d p.dests.length = true) : rtLen (endF p f d i) = 0 ↔ (i : Int) ∈ orgOf p d := by
  constructor
  · intro h
    have hk : (endF p f d i).kind ≠ 0 := fun e => by
      have := (end_fits (f := f) (d := d) G i).1.k0 e
      rw [this] at h; simp [rtLen, rtNone] at h
    rcases end_cases G hk with e | ⟨k, u, -, -, -, -, e⟩
    · rw [e] at hk
      unfold ownR at hk
      split at hk
      · rename_i hc; exact hc.2
      · exact absurd rfl hk
    · exfalso
      rw [e] at hk h
      obtain ⟨h1, h2⟩ := over_more G hk
      have := ((end_fits (f := f) (d := d) G u).len h1).1
      omega
  · intro h
    have e : ownR p d i = rtOwn p := by unfold ownR; rw [if_pos ⟨hd, h⟩]
    have hk : (ownR p d i).kind ≠ 0 := by rw [e]; unfold rtOwn; split <;> simp
    have : endF p f d i = ownR p d i := by rw [← end_step (f := f) (d := d) G]; exact step_own G hk _
    rw [this]; exact own_len hk
/-- A vector is at most as dear as a neighbour's and the link. -/
theorem end_near (G : NetG p) (hp : p.proto ≠ 2) {k : Nat} (hk : k ∈ arL p.links f i p.links.length) {u : Nat} (hu : othL p.links k i = (u : Nat)) (hm : (endF p f d u).kind ≠ 0) (hc : (endF p f d u).cost + costOf p k ≤ 15) :
    (endF p f d i).kind ≠ 0 ∧ (endF p f d i).cost ≤ (endF p f d u).cost + costOf p k := by
  have hn : ¬ othL p.links k i < 0 := by omega
  have hcost := (G.ends hn).2.2.2
  have hh : Holds p (asOf p (othL p.links k i)) (endF p f d u) := by rw [hu]; exact end_fits G u
  have ho : overR p k i (endF p f d u) = ⟨1, (endF p f d u).cost + costOf p k, []⟩ := by
    rw [over_vec hp hn hm hh (by omega), if_pos hc]
  have hmem : overR p k i (endF p f d u) ∈ candF p f d (endF p f d) i := mem_cand.2 (.inr ⟨k, hk, by rw [hu]; rfl⟩)
  have hmin := end_min G hmem
  rw [ho] at hmin
  have hki : (endF p f d i).kind ≠ 0 := fun e => by
    have hx := (lt_none e (end_fits (f := f) (d := d) G i).1 ⟨1, (endF p f d u).cost + costOf p k, []⟩ (by rw [← ho]; exact (holds_over p k i _).1)).2
    rw [hx.2 (by simp)] at hmin; cases hmin
  refine ⟨hki, ?_⟩
  rcases (end_fits (f := f) (d := d) G i).some hki with ⟨e, -⟩ | ⟨-, a1, -, -, a4⟩
  · exact absurd e hp
  · have hx := lt_vec (a := ⟨1, (endF p f d u).cost + costOf p k, []⟩) (b := endF p f d i) rfl a1 rfl a4
    by_cases h : (endF p f d u).cost + costOf p k < (endF p f d i).cost
    · rw [hx.2 h] at hmin; cases hmin
    · omega
end
end
end Go.Proofs.YtakolnmoieiicaaGreat

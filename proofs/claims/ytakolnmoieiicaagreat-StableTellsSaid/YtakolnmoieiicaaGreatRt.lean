/- Routes as plain data, and which one is better. No program is walked here. A list of numbers of the call's own, or none; a route with such a list. No program is walked here. -/
import Derived.Test.YtakolnmoieiicaaGreatBase
namespace Go.Proofs.YtakolnmoieiicaaGreat
set_option linter.unusedSimpArgs false
set_option linter.unusedVariables false
open Go.RowKit

section
structure Rt where
  kind : Int
  cost : Int
  path : List Int
def rtV (r : Rt) (A : Option Addr) (c : Nat) : Value := .agg #[.int .i64 r.kind, .int .i64 r.cost, .slice A r.path.length c]
/-- The route's list reads out of memory below block B. -/
def RtR (w : World) (B : Nat) (r : Rt) (A : Option Addr) (c : Nat) : Prop := Rd w B 1 A r.path.length (ints r.path) ∧ r.path.length ≤ c ∧ c ≤ maxLen
theorem RtR.below {w w' : World} {B C c : Nat} {r : Rt} {A : Option Addr} (h : RtR w B r A c) (hb : Below C w w') (hC : B ≤ C) : RtR w' B r A c := ⟨h.1.below hb hC, h.2⟩
theorem RtR.more {w : World} {B B' c : Nat} {r : Rt} {A : Option Addr} (h : RtR w B r A c) (hB : B ≤ B') : RtR w B' r A c := ⟨h.1.more hB, h.2⟩
theorem RtR.call {w w' : World} {c : Nat} {r : Rt} {A : Option Addr} (h : RtR w w.heap.size r A c) (hb : Below w.heap.size w w') : RtR w' w'.heap.size r A c := (h.below hb (Nat.le_refl _)).more hb.size
theorem RtR.alloc {w : World} {B c : Nat} {r : Rt} {A : Option Addr} (h : RtR w B r A c) (hB : B ≤ w.heap.size) (o : Obj) : RtR (w.alloc o) B r A c := ⟨h.1.alloc hB o, h.2⟩

/-! ### The order -/
def cmpI (x y : Int) : Int := if x < y then -1 else if y < x then 1 else 0
def rankI (k : Int) : Int := if k = 1 then 2 else if k = 2 then 1 else 0
def lexI : List Int → List Int → Int
  | [], [] => 0
  | [], _ :: _ => -1
  | _ :: _, [] => 1
  | x :: l, y :: m => if cmpI x y ≠ 0 then cmpI x y else lexI l m
def orI : List Int → Int
  | [] => 0
  | x :: l => if x ≠ 0 then x else orI l
def cmpR (a b : Rt) : Int := orI [cmpI (rankI b.kind) (rankI a.kind), cmpI a.cost b.cost, cmpI a.path.length b.path.length, lexI a.path b.path]
theorem cmpI_in (x y : Int) : cmpI x y = -1 ∨ cmpI x y = 0 ∨ cmpI x y = 1 := by unfold cmpI; split <;> (try split) <;> simp
theorem cmpI_zero {x y : Int} : cmpI x y = 0 ↔ x = y := by unfold cmpI; split <;> (try split) <;> omega
theorem cmpI_neg {x y : Int} : cmpI x y = -1 ↔ x < y := by unfold cmpI; split <;> (try split) <;> omega
theorem cmpI_pos {x y : Int} : cmpI x y = 1 ↔ y < x := by unfold cmpI; split <;> (try split) <;> omega
theorem cmpI_swap (x y : Int) : cmpI y x = - cmpI x y := by unfold cmpI; split <;> (try split) <;> (try split) <;> (try split) <;> omega
theorem lexI_in : ∀ l m, lexI l m = -1 ∨ lexI l m = 0 ∨ lexI l m = 1
  | [], [] => by simp [lexI]
  | [], _ :: _ => by simp [lexI]
  | _ :: _, [] => by simp [lexI]
  | x :: l, y :: m => by
    simp only [lexI]
    split
    · exact cmpI_in x y
    · exact lexI_in l m
theorem lexI_zero : ∀ {l m : List Int}, lexI l m = 0 ↔ l = m
  | [], [] => by simp [lexI]
  | [], _ :: _ => by simp [lexI]
  | _ :: _, [] => by simp [lexI]
  | x :: l, y :: m => by
    simp only [lexI]
    split
    · rename_i h
      constructor
      · intro e; exact absurd e h
      · intro e
        injection e with e1 e2
        exact absurd (cmpI_zero.2 e1) h
    · rename_i h
      have e : x = y := cmpI_zero.1 (by simpa using h)
      rw [lexI_zero]; simp [e]
theorem lexI_swap : ∀ l m, lexI m l = - lexI l m
  | [], [] => by simp [lexI]
  | [], _ :: _ => by simp [lexI]
  | _ :: _, [] => by simp [lexI]
  | x :: l, y :: m => by
    simp only [lexI]
    have h := cmpI_swap x y
    by_cases h0 : cmpI x y = 0
    · rw [if_neg (by omega), if_neg (by omega)]
      exact lexI_swap l m
    · rw [if_pos (by omega), if_pos h0]
      exact h
theorem lexI_trans : ∀ {l m n : List Int}, lexI l m = -1 → lexI m n = -1 → lexI l n = -1
  | [], [], _, h, _ => by simp [lexI] at h
  | [], _ :: _, [], _, h => by simp [lexI] at h
  | [], _ :: _, _ :: _, _, _ => by simp [lexI]
  | _ :: _, [], _, h, _ => by simp [lexI] at h
  | _ :: _, _ :: _, [], _, h => by simp [lexI] at h
  | x :: l, y :: m, z :: n, h1, h2 => by
    simp only [lexI] at h1 h2 ⊢
    by_cases a : cmpI x y = 0 <;> by_cases b : cmpI y z = 0
    · rw [if_neg (by simpa using a)] at h1
      rw [if_neg (by simpa using b)] at h2
      have e1 := cmpI_zero.1 a
      have e2 := cmpI_zero.1 b
      rw [if_neg (by rw [e1, e2]; simp [cmpI])]
      exact lexI_trans h1 h2
    · rw [if_pos b] at h2
      have e1 := cmpI_zero.1 a
      rw [e1, if_pos b]; exact h2
    · rw [if_pos a] at h1
      have e2 := cmpI_zero.1 b
      rw [← e2, if_pos a]; exact h1
    · rw [if_pos a] at h1
      rw [if_pos b] at h2
      have h3 : cmpI x z = -1 := cmpI_neg.2 (by have := cmpI_neg.1 h1; have := cmpI_neg.1 h2; omega)
      rw [if_pos (by omega)]; exact h3
theorem orI_cons (x : Int) (l : List Int) : orI (x :: l) = if x ≠ 0 then x else orI l := rfl
/-- a is better than b. -/
def ltR (a b : Rt) : Prop := rankI b.kind < rankI a.kind ∨ (rankI b.kind = rankI a.kind ∧ (a.cost < b.cost ∨ (a.cost = b.cost ∧ (a.path.length < b.path.length ∨ (a.path.length = b.path.length ∧ lexI a.path b.path = -1)))))
theorem cmpR_in (a b : Rt) : cmpR a b = -1 ∨ cmpR a b = 0 ∨ cmpR a b = 1 := by
  simp only [cmpR, orI]
  have h1 := cmpI_in (rankI b.kind) (rankI a.kind)
  have h2 := cmpI_in a.cost b.cost
  have h3 := cmpI_in a.path.length b.path.length
  have h4 := lexI_in a.path b.path
  split
  · exact h1
  split
  · exact h2
  split
  · exact h3
  split
  · exact h4
  · simp
theorem cmpR_neg (a b : Rt) : cmpR a b = -1 ↔ ltR a b := by
  simp only [cmpR, orI, ltR]
  by_cases h1 : cmpI (rankI b.kind) (rankI a.kind) = 0
  · have e1 := cmpI_zero.1 h1
    rw [if_neg (by simpa using h1)]
    by_cases h2 : cmpI a.cost b.cost = 0
    · have e2 := cmpI_zero.1 h2
      rw [if_neg (by simpa using h2)]
      by_cases h3 : cmpI (a.path.length : Int) b.path.length = 0
      · have e3 := cmpI_zero.1 h3
        rw [if_neg (by simpa using h3)]
        have e3' : a.path.length = b.path.length := by omega
        have h4 := lexI_in a.path b.path
        constructor
        · intro h
          refine .inr ⟨e1, .inr ⟨e2, .inr ⟨e3', ?_⟩⟩⟩
          split at h
          · exact h
          · omega
        · intro h
          have hl : lexI a.path b.path = -1 := by
            rcases h with h | ⟨_, h | ⟨_, h | ⟨_, h⟩⟩⟩
            · omega
            · omega
            · omega
            · exact h
          rw [if_pos (by omega)]; exact hl
      · rw [if_pos h3, cmpI_neg]
        have : ¬ a.path.length = b.path.length := fun e => h3 (cmpI_zero.2 (by omega))
        constructor
        · intro h; exact .inr ⟨e1, .inr ⟨e2, .inl (by omega)⟩⟩
        · rintro (h | ⟨_, h | ⟨_, h | ⟨h, _⟩⟩⟩)
          · omega
          · omega
          · omega
          · exact absurd h this
    · rw [if_pos h2, cmpI_neg]
      have : ¬ a.cost = b.cost := fun e => h2 (cmpI_zero.2 e)
      constructor
      · intro h; exact .inr ⟨e1, .inl h⟩
      · rintro (h | ⟨_, h | ⟨h, _⟩⟩)
        · omega
        · exact h
        · exact absurd h this
  · rw [if_pos h1, cmpI_neg]
    have : ¬ rankI b.kind = rankI a.kind := fun e => h1 (cmpI_zero.2 e)
    constructor
    · exact .inl
    · rintro (h | ⟨h, _⟩)
      · exact h
      · exact absurd h this
theorem ltR_trans {a b c : Rt} (h : ltR a b) (h' : ltR b c) : ltR a c := by
  unfold ltR at *
  rcases h with h | ⟨h0, h⟩ <;> rcases h' with h' | ⟨h0', h'⟩
  · left; omega
  · left; omega
  · left; omega
  · right
    refine ⟨by omega, ?_⟩
    rcases h with h | ⟨h1, h⟩ <;> rcases h' with h' | ⟨h1', h'⟩
    · left; omega
    · left; omega
    · left; omega
    · right
      refine ⟨by omega, ?_⟩
      rcases h with h | ⟨h2, h⟩ <;> rcases h' with h' | ⟨h2', h'⟩
      · left; omega
      · left; omega
      · left; omega
      · right
        exact ⟨by omega, lexI_trans h h'⟩
theorem ltR_irrefl (a : Rt) : ¬ ltR a a := by
  unfold ltR
  have : lexI a.path a.path = 0 := lexI_zero.2 rfl
  omega
theorem ltR_asymm {a b : Rt} (h : ltR a b) (h' : ltR b a) : False := ltR_irrefl a (ltR_trans h h')
theorem rankI_in (k : Int) : rankI k = 0 ∨ rankI k = 1 ∨ rankI k = 2 := by unfold rankI; split <;> (try split) <;> simp
/-- Of two unlike routes of known kinds one is better. -/
theorem ltR_total {a b : Rt} (ha : 0 ≤ a.kind ∧ a.kind ≤ 2) (hb : 0 ≤ b.kind ∧ b.kind ≤ 2) (h : a ≠ b) : ltR a b ∨ ltR b a := by
  unfold ltR
  by_cases e1 : rankI b.kind = rankI a.kind
  · have ek : a.kind = b.kind := by
      unfold rankI at e1
      split at e1 <;> split at e1 <;> (try split at e1) <;> (try split at e1) <;> omega
    by_cases e2 : a.cost = b.cost
    · by_cases e3 : a.path.length = b.path.length
      · have hne : lexI a.path b.path ≠ 0 := by
          intro e
          have e := lexI_zero.1 e
          apply h
          cases a; cases b
          simp at ek e2 e
          simp [ek, e2, e]
        have := lexI_in a.path b.path
        have hs := lexI_swap a.path b.path
        rcases this with h4 | h4 | h4
        · exact .inl (.inr ⟨e1, .inr ⟨e2, .inr ⟨e3, h4⟩⟩⟩)
        · exact absurd h4 hne
        · exact .inr (.inr ⟨e1.symm, .inr ⟨e2.symm, .inr ⟨e3.symm, by omega⟩⟩⟩)
      · rcases Nat.lt_or_gt_of_ne e3 with h3 | h3
        · exact .inl (.inr ⟨e1, .inr ⟨e2, .inl h3⟩⟩)
        · exact .inr (.inr ⟨e1.symm, .inr ⟨e2.symm, .inl h3⟩⟩)
    · rcases Int.lt_or_gt_of_ne e2 with h3 | h3
      · exact .inl (.inr ⟨e1, .inl h3⟩)
      · exact .inr (.inr ⟨e1.symm, .inl h3⟩)
  · rcases Int.lt_or_gt_of_ne e1 with h3 | h3
    · exact .inl (.inl h3)
    · exact .inr (.inl h3)

/-! ### Routes that may be -/
def badNum (n : Int) : Bool := decide (n < 1) || decide (65535 < n)
def listB (l : List Int) : Bool := decide (l.length ≤ 12) && (!l.any badNum && decide l.Nodup)
def rtRightB (r : Rt) : Bool :=
  if r.kind = 0 then decide (r.cost = 0) && decide (r.path.length = 0)
  else if r.kind = 1 then decide (0 ≤ r.cost) && decide (r.cost ≤ 15) && decide (r.path.length = 0)
  else if r.kind = 2 then decide (r.cost = 0) && listB r.path
  else false
def rtLen (r : Rt) : Int := if r.kind = 1 then r.cost else if r.kind = 2 then r.path.length else -1
def rtNone : Rt := ⟨0, 0, []⟩
instance : DecidableEq Rt := fun a b => by
  cases a; cases b
  rw [Rt.mk.injEq]
  infer_instance
end

section
/-- A list of the call's own from block B on, or none. -/
def OwnOr (w : World) (B : Nat) (A : Option Addr) (c : Nat) (l : List Int) : Prop := Own w B 3 1 A l.length c (ints l) ∨ (l = [] ∧ c ≤ maxLen)
section
variable {w w' : World} {B : Nat} {A : Option Addr} {c : Nat} {l : List Int}
theorem OwnOr.rt (h : OwnOr w B A c l) (k co : Int) : RtR w w.heap.size ⟨k, co, l⟩ A c := by
  rcases h with h | ⟨rfl, h⟩
  · exact ⟨h.rd, h.2.1, h.2.2.1⟩
  · exact ⟨Rd.nil _, Nat.zero_le _, h⟩
theorem OwnOr.call (h : OwnOr w B A c l) (hb : Below w.heap.size w w') : OwnOr w' B A c l := h.imp (fun h => h.call hb) id
theorem OwnOr.alloc (h : OwnOr w B A c l) (o : Obj) : OwnOr (w.alloc o) B A c l := h.imp (fun h => h.alloc o) id
theorem OwnOr.more {B' : Nat} (h : OwnOr w B A c l) (hB : B' ≤ B) : OwnOr w B' A c l := h.imp (fun h => h.more hB) id
theorem OwnOr.far (h : OwnOr w B A c l) {q : Addr} (hq : q.block < B) (u : Value) : OwnOr (w.setCell q u) B A c l :=
  h.imp (fun h => h.setCell_far (fun g hg => by have := h.from_ g hg; omega) u) id
theorem OwnOr.nil : OwnOr w B none 0 [] := .inl (Own.nil _ _ _ _)
end
/-- A route is handed back, its list in memory of the call's own. -/
def OrPost (r : Rt) (w : World) (e : Ending) (w' : World) : Prop := ∃ A c, e = .returned (rtV r A c) ∧ OwnOr w' w.heap.size A c r.path ∧ Below w.heap.size w w'
end
end Go.Proofs.YtakolnmoieiicaaGreat

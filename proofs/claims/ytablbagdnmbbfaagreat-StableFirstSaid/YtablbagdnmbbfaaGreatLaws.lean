/- Plain laws of what is joined with what, and how far. No program is walked here. -/
import Derived.Test.YtablbagdnmbbfaaGreatCuts
namespace Go.Proofs.YtablbagdnmbbfaaGreat
set_option linter.unusedSimpArgs false
set_option linter.unusedVariables false
open Go.RowKit
namespace Gr
section
variable {R R' : Nat → Nat → Prop} {a b c N : Nat} {h h' : Int}
theorem IsHops.uniq (x : IsHops R a b h) (y : IsHops R a b h') : h = h' := by
  rcases x with ⟨rfl, x⟩ | ⟨n, rfl, x, x'⟩ <;> rcases y with ⟨rfl, y⟩ | ⟨m, rfl, y, y'⟩
  · rfl
  · exact absurd y (x _)
  · exact absurd x (y _)
  · have := x' _ y; have := y' _ x; omega
theorem IsHops.symm (hs : ∀ u v, R u v → R v u) (x : IsHops R a b h) : IsHops R b a h := by
  rcases x with ⟨rfl, x⟩ | ⟨n, rfl, x, x'⟩
  · exact .inl ⟨rfl, fun k hk => x k (hk.symm hs)⟩
  · exact .inr ⟨n, rfl, x.symm hs, fun k hk => x' k (hk.symm hs)⟩
theorem IsHops.zero (x : IsHops R a b h) : h = 0 ↔ a = b := by
  rcases x with ⟨rfl, x⟩ | ⟨n, rfl, x, x'⟩
  · refine ⟨fun e => by omega, ?_⟩
    rintro rfl
    exact absurd (show Ball R 0 a a from rfl) (x 0)
  · constructor
    · intro e
      have : n = 0 := by omega
      subst this
      exact x
    · rintro rfl
      have := x' 0 rfl
      omega
theorem IsHops.joined (x : IsHops R a b h) : 0 ≤ h ↔ ∃ k, Ball R k a b := by
  rcases x with ⟨rfl, x⟩ | ⟨n, rfl, x, x'⟩
  · exact ⟨fun e => by omega, fun ⟨k, hk⟩ => absurd hk (x k)⟩
  · exact ⟨fun _ => ⟨n, x⟩, fun _ => by omega⟩
theorem IsHops.low (x : IsHops R a b h) : -1 ≤ h := by
  rcases x with ⟨rfl, _⟩ | ⟨n, rfl, _, _⟩ <;> omega
theorem IsHops.tri {ab bc ac : Int} (x : IsHops R a b ab) (y : IsHops R b c bc) (z : IsHops R a c ac) : ab < 0 ∨ bc < 0 ∨ (0 ≤ ac ∧ ac ≤ ab + bc) := by
  rcases x with ⟨rfl, x⟩ | ⟨n, rfl, x, x'⟩
  · left; omega
  rcases y with ⟨rfl, y⟩ | ⟨m, rfl, y, y'⟩
  · right; left; omega
  right; right
  rcases z with ⟨rfl, z⟩ | ⟨k, rfl, z, z'⟩
  · exact absurd (x.trans y) (z _)
  · have := z' _ (x.trans y); omega
theorem IsHops.sub {near far : Int} (hR : ∀ u v, R u v → R' u v) (x : IsHops R a b far) (y : IsHops R' a b near) : far < 0 ∨ (0 ≤ near ∧ near ≤ far) := by
  rcases x with ⟨rfl, x⟩ | ⟨n, rfl, x, x'⟩
  · left; omega
  right
  rcases y with ⟨rfl, y⟩ | ⟨m, rfl, y, y'⟩
  · exact absurd (x.sub hR) (y _)
  · have := y' _ (x.sub hR); omega

/-- The nearest of some neighbours, and one more; -1: none of them is joined. -/
def bestStep (best k : Int) : Int := if 0 ≤ k ∧ (best < 0 ∨ k + 1 < best) then k + 1 else best
theorem best_spec (l : List Int) : ((l.foldl bestStep (-1) = -1) ∧ ∀ k ∈ l, k < 0) ∨ (∃ k ∈ l, 0 ≤ k ∧ l.foldl bestStep (-1) = k + 1 ∧ ∀ k' ∈ l, 0 ≤ k' → k ≤ k') := by
  have key : ∀ (l : List Int) (best : Int), -1 ≤ best →
      (l.foldl bestStep best = best ∧ ∀ k ∈ l, 0 ≤ k → 0 ≤ best ∧ best ≤ k + 1) ∨ (∃ k ∈ l, 0 ≤ k ∧ (best < 0 ∨ k + 1 < best) ∧ l.foldl bestStep best = k + 1 ∧ ∀ k' ∈ l, 0 ≤ k' → k ≤ k') := by
    intro l
    induction l with
    | nil => intro best _; exact .inl ⟨rfl, by simp⟩
    | cons x l ih =>
      intro best hb
      simp only [List.foldl_cons]
      by_cases hx : 0 ≤ x ∧ (best < 0 ∨ x + 1 < best)
      · have e : bestStep best x = x + 1 := by unfold bestStep; rw [if_pos hx]
        rw [e]
        right
        rcases ih (x + 1) (by omega) with ⟨h1, h2⟩ | ⟨k, hk, h0, h1, h2, h3⟩
        · refine ⟨x, by simp, hx.1, hx.2, h1, ?_⟩
          intro k' hk' h0
          rcases List.mem_cons.1 hk' with rfl | hk'
          · omega
          · have := h2 k' hk' h0; omega
        · refine ⟨k, by simp [hk], h0, ?_, h2, ?_⟩
          · rcases hx.2 with h | h
            · exact .inl h
            · right; rcases h1 with h1 | h1 <;> omega
          · intro k' hk' h0'
            rcases List.mem_cons.1 hk' with rfl | hk'
            · rcases h1 with h1 | h1 <;> omega
            · exact h3 k' hk' h0'
      · have e : bestStep best x = best := by unfold bestStep; rw [if_neg hx]
        rw [e]
        rcases ih best hb with ⟨h1, h2⟩ | ⟨k, hk, h0, h1, h2, h3⟩
        · left
          refine ⟨h1, ?_⟩
          intro k hk h0
          rcases List.mem_cons.1 hk with rfl | hk
          · omega
          · exact h2 k hk h0
        · right
          refine ⟨k, by simp [hk], h0, h1, h2, ?_⟩
          intro k' hk' h0'
          rcases List.mem_cons.1 hk' with rfl | hk'
          · omega
          · exact h3 k' hk' h0'
  rcases key l (-1) (by omega) with ⟨h1, h2⟩ | ⟨k, hk, h0, h1, h2, h3⟩
  · left
    refine ⟨h1, fun k hk => ?_⟩
    by_cases h0 : 0 ≤ k
    · have := h2 k hk h0; omega
    · omega
  · exact .inr ⟨k, hk, h0, h2, h3⟩
/-- A node is one further than the nearest of its neighbours. -/
theorem IsHops.steps {near : List Int} {nb : List Nat} {d : Nat → Int} (hab : a ≠ b) (hd : ∀ u, IsHops R a u (d u)) (hn : near = nb.map d) (hnb : ∀ u, u ∈ nb ↔ R u b) : IsHops R a b (near.foldl bestStep (-1)) := by
  subst hn
  have hk : ∀ k, Ball R k a b → ∃ u j, u ∈ nb ∧ Ball R j a u ∧ j + 1 ≤ k := by
    intro k
    induction k with
    | zero => intro h; exact absurd h hab
    | succ k ih =>
      intro h
      rcases h with h | ⟨u, h, hr⟩
      · obtain ⟨u, j, h1, h2, h3⟩ := ih h
        exact ⟨u, j, h1, h2, by omega⟩
      · exact ⟨u, k, (hnb u).2 hr, h, Nat.le_refl _⟩
  rcases best_spec (nb.map d) with ⟨h1, h2⟩ | ⟨k, hkm, h0, h1, h2⟩
  · rw [h1]
    refine .inl ⟨rfl, fun k hb => ?_⟩
    obtain ⟨u, j, hu, hj, _⟩ := hk k hb
    have := h2 (d u) (List.mem_map.2 ⟨u, hu, rfl⟩)
    have := (hd u).joined.2 ⟨j, hj⟩
    omega
  · rw [h1]
    obtain ⟨u, hu, rfl⟩ := List.mem_map.1 hkm
    have hr := (hnb u).1 hu
    rcases hd u with ⟨e, _⟩ | ⟨n, e, hb, _⟩
    · omega
    rw [e]
    refine .inr ⟨n + 1, by omega, hb.step hr, fun k hb' => ?_⟩
    obtain ⟨u', j, hu', hj, hjk⟩ := hk k hb'
    have h3 := h2 (d u') (List.mem_map.2 ⟨u', hu', rfl⟩) ((hd u').joined.2 ⟨j, hj⟩)
    rcases hd u' with ⟨e', h'⟩ | ⟨n', e', _, hm⟩
    · exact absurd hj (h' j)
    · have := hm j hj; omega
end
theorem sorted_ext : ∀ {l m : List Nat}, l.Pairwise (· < ·) → m.Pairwise (· < ·) → (∀ v, v ∈ l ↔ v ∈ m) → l = m
  | [], [], _, _, _ => rfl
  | [], y :: m, _, _, h => absurd ((h y).2 (by simp)) (by simp)
  | x :: l, [], _, _, h => absurd ((h x).1 (by simp)) (by simp)
  | x :: l, y :: m, hl, hm, h => by
    obtain ⟨hx, hl1⟩ := List.pairwise_cons.1 hl
    obtain ⟨hy, hm1⟩ := List.pairwise_cons.1 hm
    have e : x = y := by
      have h1 := (h x).1 (by simp)
      have h2 := (h y).2 (by simp)
      rcases List.mem_cons.1 h1 with e | h1
      · exact e
      rcases List.mem_cons.1 h2 with e | h2
      · exact e.symm
      have := hy x h1; have := hx y h2; omega
    subst e
    refine congrArg (x :: ·) (sorted_ext hl1 hm1 fun v => ⟨fun hv => ?_, fun hv => ?_⟩)
    · rcases List.mem_cons.1 ((h v).1 (List.mem_cons_of_mem _ hv)) with e | h'
      · subst e; have := hx v hv; omega
      · exact h'
    · rcases List.mem_cons.1 ((h v).2 (List.mem_cons_of_mem _ hv)) with e | h'
      · subst e; have := hy v hv; omega
      · exact h'
end Gr

section
variable {R R' : Nat → Nat → Prop} {N a b : Nat} {l m : List Nat}
theorem IsReach.ext (hl : IsReach R N a l) (hm : IsReach R' N b m) (h : ∀ v, (∃ k, Gr.Ball R k a v) ↔ ∃ k, Gr.Ball R' k b v) : l = m :=
  Gr.sorted_ext hl.1 hm.1 fun v => (hl.2.1 v).trans ((h v).trans (hm.2.1 v).symm)
theorem IsReach.filter (hl : IsReach R N a l) : l = (List.range N).filter fun v => decide (v ∈ l) :=
  Gr.sorted_ext hl.1 (List.Pairwise.filter _ List.pairwise_lt_range) fun v => by
    rw [List.mem_filter]
    constructor
    · intro h; exact ⟨List.mem_range.2 (hl.2.2 v h), by simpa using h⟩
    · rintro ⟨_, h⟩; simpa using h
theorem IsReach.fewer (hl : IsReach R N a l) (hm : IsReach R' N b m) (h : ∀ v, v ∈ l → v ∈ m) : l.length ≤ m.length := by
  rw [hl.filter, hm.filter, ← List.countP_eq_length_filter, ← List.countP_eq_length_filter]
  exact List.countP_mono_left fun v _ hv => by simp at hv ⊢; exact h v hv
theorem IsReach.self (hl : IsReach R N a l) : a ∈ l := (hl.2.1 a).2 ⟨0, rfl⟩
theorem IsReach.len (hl : IsReach R N a l) : 1 ≤ l.length := List.length_pos_of_mem hl.self
end

theorem Adj.symm {L : List Lk} {f : Int} : ∀ u v, Adj L f u v → Adj L f v u := by
  rintro u v ⟨i, x, hx, hf, h⟩
  exact ⟨i, x, hx, hf, h.symm.imp (fun h => ⟨h.2, h.1⟩) (fun h => ⟨h.2, h.1⟩)⟩
theorem Adj.sub {L : List Lk} {f g : Int} (hfg : ∀ i : Nat, hasB f i = true → hasB g i = true) : ∀ u v, Adj L g u v → Adj L f u v := by
  rintro u v ⟨i, x, hx, hg, h⟩
  refine ⟨i, x, hx, ?_, h⟩
  cases hf : hasB f i with
  | false => rfl
  | true => rw [hfg i hf] at hg; cases hg
theorem arL_fewer {L : List Lk} {f g n : Int} {k : Nat} (hfg : ∀ i : Nat, hasB f i = true → hasB g i = true) : (arL L g n k).length ≤ (arL L f n k).length := by
  unfold arL
  rw [← List.countP_eq_length_filter, ← List.countP_eq_length_filter]
  refine List.countP_mono_left fun i _ hi => ?_
  unfold isAr at hi ⊢
  split
  · rename_i x hx
    rw [hx] at hi
    simp only [Bool.and_eq_true, Bool.not_eq_true'] at hi ⊢
    refine ⟨?_, hi.2⟩
    cases hf : hasB f i with
    | false => rfl
    | true => rw [hfg i hf] at hi; cases hi.1
  · rename_i hx
    rw [hx] at hi
    exact hi
theorem IsReach.joins {R : Nat → Nat → Prop} (hs : ∀ u v, R u v → R v u) {N a b v : Nat} {l m : List Nat} (hl : IsReach R N a l) (hm : IsReach R N b m) (h1 : v ∈ l) (h2 : v ∈ m) : l = m := by
  obtain ⟨i, hi⟩ := (hl.2.1 v).1 h1
  obtain ⟨j, hj⟩ := (hm.2.1 v).1 h2
  refine hl.ext hm fun u => ⟨?_, ?_⟩
  · rintro ⟨k, hk⟩
    exact ⟨_, (hj.trans (hi.symm hs)).trans hk⟩
  · rintro ⟨k, hk⟩
    exact ⟨_, (hi.trans (hj.symm hs)).trans hk⟩

/-! ### Sets of links -/
theorem hasB_bit (f : Int) {k : Nat} (hk : k < 16) : hasB f k = (BitVec.ofInt 64 f).getLsbD k := by
  rw [← BitVec.testBit_toNat, Nat.testBit_eq_decide_div_mod_eq, BitVec.toNat_ofInt]
  unfold hasB
  have h1 : decide ((0 : Int) ≤ (k : Int) ∧ (k : Int) < 16) = true := by simp; omega
  rw [h1, Bool.true_and]
  have h : k = 0 ∨ k = 1 ∨ k = 2 ∨ k = 3 ∨ k = 4 ∨ k = 5 ∨ k = 6 ∨ k = 7 ∨ k = 8 ∨ k = 9 ∨ k = 10 ∨ k = 11 ∨ k = 12 ∨ k = 13 ∨ k = 14 ∨ k = 15 := by omega
  rcases h with rfl | rfl | rfl | rfl | rfl | rfl | rfl | rfl | rfl | rfl | rfl | rfl | rfl | rfl | rfl | rfl <;>
    (rw [decide_eq_decide]; simp; omega)
theorem hasB_out (f : Int) {k : Nat} (hk : 16 ≤ k) : hasB f k = false := by
  unfold hasB
  have h1 : decide ((0 : Int) ≤ (k : Int) ∧ (k : Int) < 16) = false := by simp; omega
  rw [h1, Bool.false_and]
theorem hasB_or (f g : Int) (k : Nat) : hasB (bits BinOp.or IntKind.i64 f g) k = (hasB f k || hasB g k) := by
  by_cases hk : k < 16
  · have e : BitVec.ofInt 64 (bits BinOp.or IntKind.i64 f g) = BitVec.ofInt 64 f ||| BitVec.ofInt 64 g := by
      show BitVec.ofInt 64 (IntKind.i64.wrap ((BitVec.ofInt 64 f ||| BitVec.ofInt 64 g).toNat : Int)) = _
      apply BitVec.eq_of_toNat_eq
      rw [BitVec.toNat_ofInt, IntKind.wrap_i64]
      have := (BitVec.ofInt 64 f ||| BitVec.ofInt 64 g).isLt
      omega
    rw [hasB_bit _ hk, hasB_bit _ hk, hasB_bit _ hk, e, BitVec.getLsbD_or]
  · rw [hasB_out _ (by omega), hasB_out _ (by omega), hasB_out _ (by omega)]; rfl
theorem hasB_two {i k : Nat} (hi : i < 16) : hasB (2 ^ i : Int) k = decide (k = i) := by
  by_cases hk : k < 16
  · have h : ∀ i k : Fin 16, (BitVec.ofInt 64 (2 ^ i.val : Int)).getLsbD k.val = decide (k.val = i.val) := by decide
    rw [hasB_bit _ hk]
    exact h ⟨i, hi⟩ ⟨k, hk⟩
  · rw [hasB_out _ (by omega)]; simp; omega
theorem hasB_with (f : Int) {i k : Nat} (hi : i < 16) : hasB (withB f i) k = (hasB f k || decide (k = i)) := by
  unfold withB
  have e : IntKind.i64.wrap (2 ^ ((i : Int)).toNat) = 2 ^ i := by
    have h : ∀ i : Fin 16, IntKind.i64.wrap (2 ^ ((i.val : Int)).toNat) = 2 ^ i.val := by decide
    exact h ⟨i, hi⟩
  rw [e, hasB_or, hasB_two hi]
end Go.Proofs.YtablbagdnmbbfaaGreat

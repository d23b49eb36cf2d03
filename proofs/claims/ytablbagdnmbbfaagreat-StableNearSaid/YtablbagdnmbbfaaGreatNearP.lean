/- What nodes hold in the end, by their neighbours, plainly. No program is walked here. -/
import Derived.Test.YtablbagdnmbbfaaGreatRoundP
namespace Go.Proofs.YtablbagdnmbbfaaGreat
set_option linter.unusedSimpArgs false
set_option linter.unusedVariables false
open Go.RowKit

section
variable {p : Net} {f d : Int} {i : Nat}
/-- A node holds a route of no length just if it is an origin. -/
theorem end_zero (G : NetG p) (hd : placeB d p.dests.length = true) : rtLen (endF p f d i) = 0 ↔ (i : Int) ∈ orgOf p d := by
  constructor
  · intro h
    have hk : (endF p f d i).kind ≠ 0 := fun e => by
      have := (end_fits (f := f) (d := d) G i).1.k0 e
      rw [this] at h; simp [rtLen, rtNone] at h
    rcases end_cases G hk with e | ⟨k, u, -, -, -, -, e⟩
    · rw [e] at hk
      unfold ownR at hk
      split at hk
      · rename_i hc; exact hc.2
      · exact absurd rfl hk
    · exfalso
      rw [e] at hk h
      obtain ⟨h1, h2⟩ := over_more G hk
      have := ((end_fits (f := f) (d := d) G u).len h1).1
      omega
  · intro h
    have e : ownR p d i = rtOwn p := by unfold ownR; rw [if_pos ⟨hd, h⟩]
    have hk : (ownR p d i).kind ≠ 0 := by rw [e]; unfold rtOwn; split <;> simp
    have : endF p f d i = ownR p d i := by rw [← end_step (f := f) (d := d) G]; exact step_own G hk _
    rw [this]; exact own_len hk
/-- A vector is at most as dear as a neighbour's and the link. -/
theorem end_near (G : NetG p) (hp : p.proto ≠ 2) {k : Nat} (hk : k ∈ arL p.links f i p.links.length) {u : Nat} (hu : othL p.links k i = (u : Nat)) (hm : (endF p f d u).kind ≠ 0) (hc : (endF p f d u).cost + costOf p k ≤ 15) :
    (endF p f d i).kind ≠ 0 ∧ (endF p f d i).cost ≤ (endF p f d u).cost + costOf p k := by
  have hn : ¬ othL p.links k i < 0 := by omega
  have hcost := (G.ends hn).2.2.2
  have hh : Holds p (asOf p (othL p.links k i)) (endF p f d u) := by rw [hu]; exact end_fits G u
  have ho : overR p k i (endF p f d u) = ⟨1, (endF p f d u).cost + costOf p k, []⟩ := by
    rw [over_vec hp hn hm hh (by omega), if_pos hc]
  have hmem : overR p k i (endF p f d u) ∈ candF p f d (endF p f d) i := mem_cand.2 (.inr ⟨k, hk, by rw [hu]; rfl⟩)
  have hmin := end_min G hmem
  rw [ho] at hmin
  have hki : (endF p f d i).kind ≠ 0 := fun e => by
    have hx := (lt_none e (end_fits (f := f) (d := d) G i).1 ⟨1, (endF p f d u).cost + costOf p k, []⟩ (by rw [← ho]; exact (holds_over p k i _).1)).2
    rw [hx.2 (by simp)] at hmin; cases hmin
  refine ⟨hki, ?_⟩
  rcases (end_fits (f := f) (d := d) G i).some hki with ⟨e, -⟩ | ⟨-, a1, -, -, a4⟩
  · exact absurd e hp
  · have hx := lt_vec (a := ⟨1, (endF p f d u).cost + costOf p k, []⟩) (b := endF p f d i) rfl a1 rfl a4
    by_cases h : (endF p f d u).cost + costOf p k < (endF p f d i).cost
    · rw [hx.2 h] at hmin; cases hmin
    · omega
end
end Go.Proofs.YtablbagdnmbbfaaGreat

/- When a link is a cut. No program is walked here. -/
import Derived.Test.YtidmpfenkgihjaaDoorForestP
import Derived.Test.YtidmpfenkgihjaaDoorBitP
namespace Go.Proofs.YtidmpfenkgihjaaDoor
set_option linter.unusedSimpArgs false
set_option linter.unusedVariables false
open Go.RowKit

theorem setN_with {x : Nat} (hx : x < 512) (i : Nat) : setN (posL x ++ [i]) = withB (x : Int) (i : Int) := by
  rw [setN_snoc, setN_pos x hx]
  unfold withB
  rw [Int.toNat_natCast]
/-! ### The cuts -/
theorem cut_law {L : List Lk} {x : Nat} {i N : Nat} (hok : LksOk L N) (h16 : L.length ≤ 16) (hi : i < L.length) :
    (i ∈ cutL L (x : Int) L.length ↔ cutB L (x : Int) i = true) := by
  unfold cutL
  rw [List.mem_filter, List.mem_range]
  exact ⟨fun h => h.2, fun h => ⟨hi, h⟩⟩
/-- A link is a cut just if fewer are joined with its end without it. -/
theorem cut_fewer {L : List Lk} {f : Int} {i N : Nat} {y : Lk} (hok : LksOk L N) (h16 : L.length ≤ 16) (hx : L[i]? = some y) :
    cutB L f i = decide ((reachL L (withB f i) N y.a.toNat).length < (reachL L f N y.a.toNat).length) ∧ (cutB L f i = true → hasB f i = false) := by
  have hi := (List.getElem?_eq_some_iff.1 hx).1
  have ho := hok y (List.mem_of_getElem? hx)
  have haN : y.a.toNat < N := by omega
  have hbN : y.b.toNat < N := by omega
  have hsub : ∀ k : Nat, hasB f k = true → hasB (withB f i) k = true := fun k hk => by rw [hasB_with f (by omega), hk]; rfl
  have hA : ∀ u v, Adj L (withB f i) u v → Adj L f u v := Adj.sub hsub
  have hr1 := reachL_is (f := withB f i) haN hok
  have hr2 := reachL_is (f := f) haN hok
  have hle : ∀ v ∈ List.range N, @decide (∃ k, Gr.Ball (Adj L (withB f i)) k y.a.toNat v) (Classical.propDecidable _) = true → @decide (∃ k, Gr.Ball (Adj L f) k y.a.toNat v) (Classical.propDecidable _) = true := by
    intro v _ h
    simp only [decide_eq_true_eq] at h ⊢
    obtain ⟨k, hk⟩ := h
    exact ⟨k, hk.sub hA⟩
  have hlen : (reachL L (withB f i) N y.a.toNat).length ≤ (reachL L f N y.a.toNat).length := reachL_fewer haN hok hsub
  have heq := filter_len (List.range N) hle
  have hci := cut_iff (f := f) hi
  rw [enOf_at hx] at hci
  refine ⟨?_, fun h => (hci.1 h).1⟩
  rw [Bool.eq_iff_iff, decide_eq_true_eq]
  constructor
  · intro hc
    obtain ⟨hf, hn⟩ := hci.1 hc
    apply Nat.lt_of_le_of_ne hlen
    intro e
    have hall := heq.1 e y.b.toNat (List.mem_range.2 hbN) (by
      simp only [decide_eq_true_eq]
      exact ⟨1, .inr ⟨_, rfl, i, y, hx, hf, .inl (by omega)⟩⟩)
    simp only [decide_eq_true_eq] at hall
    exact hn hall
  · intro hlt
    apply Classical.byContradiction
    intro hc
    have hcf : ¬ (hasB f i = false ∧ ¬ Gr.Conn (Adj L (withB f i)) y.a.toNat y.b.toNat) := fun h => hc (hci.2 h)
    have hAB : ∀ u v, Adj L f u v → Gr.Conn (Adj L (withB f i)) u v := by
      rintro u v ⟨j, z, hz, hf, hj⟩
      by_cases e : j = i
      · subst e
        rw [hx] at hz
        injection hz with hz
        subst hz
        have hcon : Gr.Conn (Adj L (withB f j)) y.a.toNat y.b.toNat := Classical.byContradiction fun h => hcf ⟨hf, h⟩
        rcases hj with ⟨e1, e2⟩ | ⟨e1, e2⟩
        · rw [show u = y.a.toNat by omega, show v = y.b.toNat by omega]; exact hcon
        · rw [show u = y.b.toNat by omega, show v = y.a.toNat by omega]; exact hcon.symm Adj.symm
      · exact Gr.Conn.one ⟨j, z, hz, by rw [hasB_with f (by omega), hf]; simp [e], hj⟩
    have hall : ∀ v, Gr.Conn (Adj L f) y.a.toNat v → Gr.Conn (Adj L (withB f i)) y.a.toNat v := by
      rintro v ⟨k, hk⟩
      induction k generalizing v with
      | zero => cases hk; exact Gr.Conn.refl _ _
      | succ k ih =>
        rcases hk with hk | ⟨u, hk, hr⟩
        · exact ih v hk
        · exact (ih u hk).trans (hAB u v hr)
    have : (reachL L (withB f i) N y.a.toNat).length = (reachL L f N y.a.toNat).length := heq.2 (fun v _ h => by
      simp only [decide_eq_true_eq] at h ⊢
      exact hall v h)
    omega
end Go.Proofs.YtidmpfenkgihjaaDoor

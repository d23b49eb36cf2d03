/- Package graph's exported functions at any small network, which may be wrong. -/
import Derived.Test.YtakolnmoieiicaaGreatHopsP
import Derived.Test.YtakolnmoieiicaaGreatLaw5
import Derived.Test.YtakolnmoieiicaaGreatRef5p
namespace Go.Proofs.YtakolnmoieiicaaGreat
set_option linter.unusedSimpArgs false
set_option linter.unusedVariables false
open Go.RowKit

/-- What a name says is in what makes a network right. -/
theorem good_of2 {p : Net} (hs : Small p) (h : rightB p = true) : Good p := by
  refine ⟨hs, ?_, h⟩
  simp only [rightB, namedB, Bool.and_eq_true, Bool.not_eq_true'] at h
  exact h.2.2.2.2.2.2.1.1
theorem roth_is (p : Net) (k n : Int) : rothB p k n = if rightB p = true then othL p.links k n else -1 := by unfold rothB othL; rfl
section
variable {p : Net}
/-- What around tells of any network. -/
def arG (p : Net) (f a : Int) : List Nat := if rightB p = true then arL p.links f a p.links.length else []
open Classical in
noncomputable def hopsV (L : List Lk) (f : Int) (a b : Nat) : Int := if h : ∃ d : Int, Gr.IsHops (Adj L f) a b d then h.choose else -1
theorem hopsV_is {L : List Lk} {f : Int} {a b : Nat} {d : Int} (h : Gr.IsHops (Adj L f) a b d) : hopsV L f a b = d := by
  unfold hopsV
  rw [dif_pos ⟨d, h⟩]
  exact (Exists.choose_spec (⟨d, h⟩ : ∃ d : Int, Gr.IsHops (Adj L f) a b d)).uniq h
noncomputable def hopsG (p : Net) (f a b : Int) : Int := if rightB p = true ∧ placeB a p.nodes.length = true ∧ placeB b p.nodes.length = true then hopsV p.links f a.toNat b.toNat else -1
noncomputable def reachG (p : Net) (f a : Int) : List Nat := if rightB p = true ∧ placeB a p.nodes.length = true then reachL p.links f p.nodes.length a.toNat else []
noncomputable def cutG (p : Net) (f : Int) : List Nat := if rightB p = true then cutL p.links f p.links.length else []
/-- A list of the call's own is handed back. -/
def NatsPost (l : List Nat) (w : World) (e : Ending) (w' : World) : Prop := ∃ A c, e = .returned (.slice A l.length c) ∧ Own w' w.heap.size 3 1 A l.length c (nats l) ∧ Below w.heap.size w w'
theorem nats_none {w w' : World} (hb : Below w.heap.size w w') : NatsPost [] w (.returned (.slice none 0 0)) w' := ⟨none, 0, rfl, Own.nil _ _ _ _, hb⟩
theorem arG_len (p : Net) (f a : Int) : (arG p f a).length ≤ p.links.length := by unfold arG; split; exact arL_le _ _ _ _; simp
theorem cutG_len (p : Net) (f : Int) : (cutG p f).length ≤ p.links.length := by unfold cutG; split; exact cutL_le _ _ _; simp
theorem reachL_len (L : List Lk) (f : Int) (N a : Nat) : (reachL L f N a).length ≤ N := by
  have := List.length_filter_le (fun v => @decide (∃ k, Gr.Ball (Adj L f) k a v) (Classical.propDecidable _)) (List.range N)
  simpa [reachL] using this
theorem reachG_len (p : Net) (f a : Int) : (reachG p f a).length ≤ p.nodes.length := by unfold reachG; split; exact reachL_len _ _ _ _; simp
section
variable (p : Net) (h : Hd) (f a b : Int) (w : World) (hp : NetR w w.heap.size p h) (hs : Small p)
include hp hs
theorem around_gen : Calls Tryz.prog 73 #[netV p h, .int .i64 f, .int .i64 a] w (NatsPost (arG p f a) w) := by
  cases hr : rightB p with
  | true =>
    refine (aroundX_any p h f a w hp (good_of2 hs hr)).mono ?_
    rintro e w' ⟨A, c, h1, h2, h3⟩
    have : arG p f a = arL p.links f a p.links.length := by unfold arG; rw [if_pos hr]
    rw [this]
    exact ⟨A, c, h1, h2, h3⟩
  | false =>
    have HA := Lib.hid (AtRight.begin hp)
    have HS := Lib.hid hs
    have HB := Lib.hid hr
    have HF : Hid (∀ w', Below w.heap.size w w' → NatsPost (arG p f a) w (.returned (.slice none 0 0)) w') := Lib.hid (fun w' hb => by
      have : arG p f a = [] := by unfold arG; rw [hr]; rfl
      rw [this]; exact nats_none hb)
    clear hp hs hr
    unfold netV netVal
    go_enter Tryz.func73, Tryz.ntmps73
    go_wp2_with fail
    refine (right_gen p h _ HA.out.net HS.out).mono ?_
    rintro e w1 ⟨rfl, hb1⟩
    rw [HB.out]
    have HA1 := Lib.hid (HA.out.call hb1)
    clear hb1
    go_wp2
    go_ret
    exact HF.out _ HA1.out.below
theorem other_gen (i : Int) : Calls Tryz.prog 75 #[netV p h, .int .i64 i, .int .i64 a] w fun e w' => e = .returned (.int .i64 (rothB p i a)) ∧ Below w.heap.size w w' := by
  cases hr : rightB p with
  | true =>
    refine (otherX_any p h i a w hp (good_of2 hs hr)).mono ?_
    rintro e w' ⟨h1, h2⟩
    rw [roth_is, if_pos hr]
    exact ⟨h1, h2⟩
  | false =>
    have HA := Lib.hid (AtRight.begin hp)
    have HS := Lib.hid hs
    have HB := Lib.hid hr
    have HF : Hid (-1 = rothB p i a) := Lib.hid (by rw [roth_is, hr]; rfl)
    clear hp hs hr
    unfold netV netVal
    go_enter Tryz.func75, Tryz.ntmps75
    go_wp2_with fail
    refine (right_gen p h _ HA.out.net HS.out).mono ?_
    rintro e w1 ⟨rfl, hb1⟩
    rw [HB.out]
    have HA1 := Lib.hid (HA.out.call hb1)
    clear hb1
    go_wp2
    go_ret
    exact ⟨ret_int HF.out, HA1.out.below⟩
end
end
end Go.Proofs.YtakolnmoieiicaaGreat

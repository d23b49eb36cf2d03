/- What package graph's exported functions answer at a network that may be. The walk of graph.Cuts. Plain laws of what is joined with what, and how far. No program is walked here. -/
import Derived.Test.YtakolnmoieiicaaGreatRight
import Derived.Test.YtakolnmoieiicaaGreatFrom
namespace Go.Proofs.YtakolnmoieiicaaGreat
set_option linter.unusedSimpArgs false
set_option linter.unusedVariables false
open Go.RowKit

section
/-- A network that may be. -/
structure Good (p : Net) : Prop where
  small : Small p
  names : (namesOf p).any badName = false
  right : rightB p = true
section
variable {p : Net}
theorem Good.nodesB (g : Good p) : nodesB p = true := by have := g.right; simp only [rightB, Bool.and_eq_true] at this; exact this.2.2.1
theorem Good.linksB (g : Good p) : linksB p = true := by have := g.right; simp only [rightB, Bool.and_eq_true] at this; exact this.2.2.2.1
theorem Good.n12 (g : Good p) : 1 ≤ p.nodes.length ∧ p.nodes.length ≤ 12 := by
  have := g.nodesB
  simp only [YtakolnmoieiicaaGreat.nodesB, withinB, Bool.and_eq_true, decide_eq_true_eq] at this
  omega
theorem Good.l16 (g : Good p) : p.links.length ≤ 16 := by
  have := g.linksB
  simp only [YtakolnmoieiicaaGreat.linksB, Bool.and_eq_true, decide_eq_true_eq] at this
  exact this.2.1
theorem Good.lksOk (g : Good p) : LksOk p.links p.nodes.length := by
  have := g.linksB
  simp only [YtakolnmoieiicaaGreat.linksB, Bool.and_eq_true, List.all_eq_true, lkB, placeB, decide_eq_true_eq] at this
  intro x hx
  have := this.1 x hx
  omega
end

/-- How many steps b is from a: -1 where none lead there, or either is no node. -/
def HopsPost (L : List Lk) (f : Int) (N : Nat) (a b : Int) (w : World) (e : Ending) (w' : World) : Prop :=
  ∃ d : Int, e = .returned (.int .i64 d) ∧ (if placeB a N && placeB b N then Gr.IsHops (Adj L f) a.toNat b.toNat d ∧ d < N else d = -1) ∧ Below w.heap.size w w'
/-- The nodes below k that are joined. -/
def inL (d : Nat → Int) (k : Nat) : List Nat := (List.range k).filter fun v => decide (0 ≤ d v)
theorem inL_le (d : Nat → Int) (k : Nat) : (inL d k).length ≤ k := by
  have := List.length_filter_le (fun v => decide (0 ≤ d v)) (List.range k)
  simpa [inL] using this
theorem inL_hit {d : Nat → Int} {k : Nat} (h : 0 ≤ d k) : inL d (k + 1) = inL d k ++ [k] := by
  simp [inL, List.range_succ, List.filter_append, h]
theorem inL_miss {d : Nat → Int} {k : Nat} (h : ¬ 0 ≤ d k) : inL d (k + 1) = inL d k := by
  simp [inL, List.range_succ, List.filter_append, h]
theorem in_hit_step {w w1 w2 : World} {d : Nat → Int} {k m : Nat} {A2 A1 : Option Addr} {c2 B : Nat} (hB : B = w.heap.size) (h : 0 ≤ d k) (hm : m = (inL d k).length + 1)
    (hown2 : Own w2 B 3 1 A2 m c2 (nats (inL d k) ++ [Value.int .i64 (k : Int)])) (hb : Below B w w1) (hg : w1.grownBy w2 (blk A1)) (hA : ∀ g, blk A1 = some g → B ≤ g) :
    m = (inL d (k + 1)).length ∧ Own w2 B 3 1 A2 (inL d (k + 1)).length c2 (nats (inL d (k + 1))) ∧ Below B w w2 := by
  have e : m = (inL d (k + 1)).length := by rw [inL_hit h, hm]; simp
  subst e
  refine ⟨rfl, ?_, hb.grown hg (by rw [hB]; exact hb.size) hA⟩
  rw [← nats_snoc, ← inL_hit h] at hown2
  exact hown2

/-- The nodes that are joined with a, in order. -/
def IsReach (R : Nat → Nat → Prop) (N a : Nat) (l : List Nat) : Prop :=
  l.Pairwise (· < ·) ∧ (∀ v, v ∈ l ↔ ∃ k, Gr.Ball R k a v) ∧ ∀ v ∈ l, v < N
theorem inL_reach {L : List Lk} {f : Int} {N a : Nat} (hN : N ≤ 12) (ha : a < N) (hok : LksOk L N) {d : Nat → Int} (hd : ∀ b, Gr.IsHops (Adj L f) a b (d b)) : IsReach (Adj L f) N a (inL d 12) := by
  have hlt : ∀ k v, Gr.Ball (Adj L f) k a v → v < N := fun k v h => h.lt (by
    rintro u v ⟨i, x, hx, _, h⟩
    have := hok x (List.mem_of_getElem? hx)
    omega) ha
  have hm : ∀ v, v ∈ inL d 12 ↔ ∃ k, Gr.Ball (Adj L f) k a v := by
    intro v
    unfold inL
    rw [List.mem_filter]
    constructor
    · rintro ⟨_, h⟩
      rcases hd v with ⟨e, _⟩ | ⟨n, e, h', _⟩
      · simp [e] at h
      · exact ⟨n, h'⟩
    · rintro ⟨k, h⟩
      have := hlt k v h
      refine ⟨List.mem_range.2 (by omega), ?_⟩
      rcases hd v with ⟨_, h'⟩ | ⟨n, e, _, _⟩
      · exact absurd h (h' k)
      · simp [e]
  exact ⟨List.Pairwise.filter _ List.pairwise_lt_range, hm, fun v hv => by obtain ⟨k, h⟩ := (hm v).1 hv; exact hlt k v h⟩

def ReachPost (L : List Lk) (f : Int) (N : Nat) (a : Int) (w : World) (e : Ending) (w' : World) : Prop :=
  ∃ (l : List Nat) (A : Option Addr) (c : Nat), e = .returned (.slice A l.length c) ∧ Own w' w.heap.size 3 1 A l.length c (nats l) ∧ (if placeB a N then IsReach (Adj L f) N a.toNat l else l = []) ∧ Below w.heap.size w w'
theorem aroundX_any (p : Net) (h : Hd) (f a : Int) (w : World) (hp : NetR w w.heap.size p h) (hg : Good p) : Calls Tryz.prog 73 #[netV p h, .int .i64 f, .int .i64 a] w (AroundPost p.links f a w) := by
  have HA := Lib.hid (AtRight.begin hp)
  have HG := Lib.hid hg
  clear hp hg
  unfold netV netVal
  go_enter Tryz.func73, Tryz.ntmps73
  go_wp2_with fail
  refine (right_any p h _ HA.out.net HG.out.small HG.out.names).mono ?_
  rintro e w1 ⟨rfl, hb1⟩
  rw [HG.out.right]
  have HA1 := Lib.hid (HA.out.call hb1)
  obtain ⟨c0, c1, c2, c3, c4, c5, c6⟩ := HA1.out.all
  clear hb1
  go_wp2_with fail
  refine (around_any p.links f a _ _ _ _ _ _ _ _ _ HA1.out.net.links HG.out.small.links).mono ?_
  rintro e w3 ⟨A, c, rfl, hown, hb3⟩
  have HF : Hid (AroundPost p.links f a w (.returned (.slice A (arL p.links f a p.links.length).length c)) w3) := Lib.hid ⟨A, c, rfl, hown.more (by have := HA1.out.size; omega), (HA1.out.call hb3).below⟩
  clear hown hb3
  go_wp2
  go_ret
  exact HF.out

def othL (L : List Lk) (i n : Int) : Int := if 0 ≤ i then (match L[i.toNat]? with | some x => othV x.a x.b n | none => -1) else -1
theorem otherX_any (p : Net) (h : Hd) (i a : Int) (w : World) (hp : NetR w w.heap.size p h) (hg : Good p) : Calls Tryz.prog 75 #[netV p h, .int .i64 i, .int .i64 a] w fun e w' => e = .returned (.int .i64 (othL p.links i a)) ∧ Below w.heap.size w w' := by
  have HA := Lib.hid (AtRight.begin hp)
  have HG := Lib.hid hg
  clear hp hg
  unfold netV netVal
  by_cases h0 : 0 ≤ i
  · by_cases h1 : i < p.links.length
    · obtain ⟨i, rfl⟩ : ∃ k : Nat, i = k := ⟨i.toNat, by omega⟩
      obtain ⟨x, hx⟩ : ∃ x, p.links[i]? = some x := ⟨_, List.getElem?_eq_getElem (by omega)⟩
      have HN := Lib.hid (show othL p.links i a = othV x.a x.b a from by simp [othL, hx])
      have HX := Lib.hid hx
      clear hx
      go_enter Tryz.func75, Tryz.ntmps75
      go_wp2_with fail
      refine (right_any p h _ HA.out.net HG.out.small HG.out.names).mono ?_
      rintro e w1 ⟨rfl, hb1⟩
      rw [HG.out.right]
      have HA1 := Lib.hid (HA.out.call hb1)
      obtain ⟨c0, c1, c2, c3, c4, c5, c6⟩ := HA1.out.all
      clear hb1
      obtain ⟨b, o, e, hb, k0, k1, k2⟩ := HA1.out.net.links.link HX.out
      have HE := Lib.hid e
      rw [e] at c4
      clear e
      go_wp2_with fail
      refine (other_any x.a x.b x.cost a _).mono ?_
      rintro e w3 ⟨rfl, hb3⟩
      have HA2 := Lib.hid (HA1.out.call hb3)
      clear hb3
      go_wp2
      go_ret
      exact ⟨ret_int (by rw [HN.out]), HA2.out.below⟩
    · have HN := Lib.hid (show othL p.links i a = -1 from by unfold othL; rw [if_pos h0, List.getElem?_eq_none (by omega)])
      go_enter Tryz.func75, Tryz.ntmps75
      go_wp2_with fail
      refine (right_any p h _ HA.out.net HG.out.small HG.out.names).mono ?_
      rintro e w1 ⟨rfl, hb1⟩
      rw [HG.out.right]
      have HA1 := Lib.hid (HA.out.call hb1)
      obtain ⟨c0, c1, c2, c3, c4, c5, c6⟩ := HA1.out.all
      clear hb1
      go_wp2
      go_ret
      exact ⟨ret_int (by rw [HN.out]), HA1.out.below⟩
  · have HN := Lib.hid (show othL p.links i a = -1 from by unfold othL; rw [if_neg h0])
    go_enter Tryz.func75, Tryz.ntmps75
    go_wp2_with fail
    refine (right_any p h _ HA.out.net HG.out.small HG.out.names).mono ?_
    rintro e w1 ⟨rfl, hb1⟩
    rw [HG.out.right]
    have HA1 := Lib.hid (HA.out.call hb1)
    obtain ⟨c0, c1, c2, c3, c4, c5, c6⟩ := HA1.out.all
    clear hb1
    go_wp2
    go_ret
    exact ⟨ret_int (by rw [HN.out]), HA1.out.below⟩
end

section
theorem below_drewN {B : Nat} {a w : World} (h : Below B a w) (n : Nat) : Below B a (w.drewN n) := h.trans ⟨rfl, rfl, rfl, Nat.le_refl _, fun _ _ => rfl⟩
/-- With link i failed too. -/
def withB (f i : Int) : Int := bits BinOp.or IntKind.i64 f (IntKind.i64.wrap (2 ^ i.toNat))

/-- Behind an append to a row of the call's own. -/
theorem AtRight.grown {w : World} {p : Net} {h : Hd} {wx w' : World} {row : Option Nat} (a : AtRight w p h wx) (hp : NetR w w.heap.size p h) (hg : wx.grownBy w' row) (hr : ∀ g, row = some g → w.heap.size + 1 ≤ g) : AtRight w p h w' := by
  have hs := a.size
  have hgs := hg.size
  have hb : Below w.heap.size w w' := a.below.grown hg (by omega) (fun g hg => by have := hr g hg; omega)
  refine ⟨hb, by omega, fun i u hu => ?_, (hp.below hb (Nat.le_refl _)).more hb.size⟩
  rw [World.cell?_of_block (hg.block w.heap.size hs (fun e => by have := hr _ e.symm; omega))]
  exact a.cells i u hu
open Classical in
/-- Is link i a cut? -/
noncomputable def cutB (L : List Lk) (f : Int) (i : Nat) : Bool :=
  match L[i]? with
  | some x => decide (hasB f i = false ∧ ∀ k, ¬ Gr.Ball (Adj L (withB f i)) k x.a.toNat x.b.toNat)
  | none => false
noncomputable def cutL (L : List Lk) (f : Int) (k : Nat) : List Nat := (List.range k).filter (cutB L f)
theorem cutL_le (L : List Lk) (f : Int) (k : Nat) : (cutL L f k).length ≤ k := by
  have := List.length_filter_le (cutB L f) (List.range k)
  simpa [cutL] using this
theorem cutL_hit {L : List Lk} {f : Int} {k : Nat} (h : cutB L f k = true) : cutL L f (k + 1) = cutL L f k ++ [k] := by
  simp [cutL, List.range_succ, List.filter_append, h]
theorem cutL_miss {L : List Lk} {f : Int} {k : Nat} (h : cutB L f k = false) : cutL L f (k + 1) = cutL L f k := by
  simp [cutL, List.range_succ, List.filter_append, h]
theorem cut_hit_step {w2 : World} {L : List Lk} {f : Int} {k m : Nat} {A2 : Option Addr} {c2 B : Nat} (h : cutB L f k = true) (hm : m = (cutL L f k).length + 1)
    (hown2 : Own w2 B 3 1 A2 m c2 (nats (cutL L f k) ++ [Value.int .i64 (k : Int)])) :
    m = (cutL L f (k + 1)).length ∧ Own w2 B 3 1 A2 (cutL L f (k + 1)).length c2 (nats (cutL L f (k + 1))) := by
  have e : m = (cutL L f (k + 1)).length := by rw [cutL_hit h, hm]; simp
  subst e
  refine ⟨rfl, ?_⟩
  rw [← nats_snoc, ← cutL_hit h] at hown2
  exact hown2
theorem cutB_of {L : List Lk} {f : Int} {i : Nat} {x : Lk} {d : Int} (hx : L[i]? = some x) (hf : hasB f i = false) (hd : Gr.IsHops (Adj L (withB f i)) x.a.toNat x.b.toNat d) : cutB L f i = decide (d < 0) := by
  unfold cutB
  rw [hx]
  rcases hd with ⟨e, h⟩ | ⟨n, e, h, _⟩
  · have : d < 0 := by omega
    simp [hf, this, h]
  · have : ¬ d < 0 := by omega
    simp [this, hf]
    exact ⟨n, h⟩
theorem cutB_has {L : List Lk} {f : Int} {i : Nat} (hf : hasB f i = true) : cutB L f i = false := by
  unfold cutB
  split <;> simp [hf]

def CutsPost (L : List Lk) (f : Int) (w : World) (e : Ending) (w' : World) : Prop :=
  ∃ A c, e = .returned (.slice A (cutL L f L.length).length c) ∧ Own w' w.heap.size 3 1 A (cutL L f L.length).length c (nats (cutL L f L.length)) ∧ Below w.heap.size w w'

end

section
namespace Gr
section
variable {R R' : Nat → Nat → Prop} {a b c N : Nat} {h h' : Int}
theorem IsHops.uniq (x : IsHops R a b h) (y : IsHops R a b h') : h = h' := by
  rcases x with ⟨rfl, x⟩ | ⟨n, rfl, x, x'⟩ <;> rcases y with ⟨rfl, y⟩ | ⟨m, rfl, y, y'⟩
  · rfl
  · exact absurd y (x _)
  · exact absurd x (y _)
  · have := x' _ y; have := y' _ x; omega
theorem IsHops.symm (hs : ∀ u v, R u v → R v u) (x : IsHops R a b h) : IsHops R b a h := by
  rcases x with ⟨rfl, x⟩ | ⟨n, rfl, x, x'⟩
  · exact .inl ⟨rfl, fun k hk => x k (hk.symm hs)⟩
  · exact .inr ⟨n, rfl, x.symm hs, fun k hk => x' k (hk.symm hs)⟩
theorem IsHops.zero (x : IsHops R a b h) : h = 0 ↔ a = b := by
  rcases x with ⟨rfl, x⟩ | ⟨n, rfl, x, x'⟩
  · refine ⟨fun e => by omega, ?_⟩
    rintro rfl
    exact absurd (show Ball R 0 a a from rfl) (x 0)
  · constructor
    · intro e
      have : n = 0 := by omega
      subst this
      exact x
    · rintro rfl
      have := x' 0 rfl
      omega
theorem IsHops.joined (x : IsHops R a b h) : 0 ≤ h ↔ ∃ k, Ball R k a b := by
  rcases x with ⟨rfl, x⟩ | ⟨n, rfl, x, x'⟩
  · exact ⟨fun e => by omega, fun ⟨k, hk⟩ => absurd hk (x k)⟩
  · exact ⟨fun _ => ⟨n, x⟩, fun _ => by omega⟩
theorem IsHops.low (x : IsHops R a b h) : -1 ≤ h := by
  rcases x with ⟨rfl, _⟩ | ⟨n, rfl, _, _⟩ <;> omega
theorem IsHops.tri {ab bc ac : Int} (x : IsHops R a b ab) (y : IsHops R b c bc) (z : IsHops R a c ac) : ab < 0 ∨ bc < 0 ∨ (0 ≤ ac ∧ ac ≤ ab + bc) := by
  rcases x with ⟨rfl, x⟩ | ⟨n, rfl, x, x'⟩
  · left; omega
  rcases y with ⟨rfl, y⟩ | ⟨m, rfl, y, y'⟩
  · right; left; omega
  right; right
  rcases z with ⟨rfl, z⟩ | ⟨k, rfl, z, z'⟩
  · exact absurd (x.trans y) (z _)
  · have := z' _ (x.trans y); omega
theorem IsHops.sub {near far : Int} (hR : ∀ u v, R u v → R' u v) (x : IsHops R a b far) (y : IsHops R' a b near) : far < 0 ∨ (0 ≤ near ∧ near ≤ far) := by
  rcases x with ⟨rfl, x⟩ | ⟨n, rfl, x, x'⟩
  · left; omega
  right
  rcases y with ⟨rfl, y⟩ | ⟨m, rfl, y, y'⟩
  · exact absurd (x.sub hR) (y _)
  · have := y' _ (x.sub hR); omega

/-- The nearest of some neighbours, and one more; -1: none of them is joined. -/
def bestStep (best k : Int) : Int := if 0 ≤ k ∧ (best < 0 ∨ k + 1 < best) then k + 1 else best
theorem best_spec (l : List Int) : ((l.foldl bestStep (-1) = -1) ∧ ∀ k ∈ l, k < 0) ∨ (∃ k ∈ l, 0 ≤ k ∧ l.foldl bestStep (-1) = k + 1 ∧ ∀ k' ∈ l, 0 ≤ k' → k ≤ k') := by
  have key : ∀ (l : List Int) (best : Int), -1 ≤ best →
      (l.foldl bestStep best = best ∧ ∀ k ∈ l, 0 ≤ k → 0 ≤ best ∧ best ≤ k + 1) ∨ (∃ k ∈ l, 0 ≤ k ∧ (best < 0 ∨ k + 1 < best) ∧ l.foldl bestStep best = k + 1 ∧ ∀ k' ∈ l, 0 ≤ k' → k ≤ k') := by
    intro l
    induction l with
    | nil => intro best _; exact .inl ⟨rfl, by simp⟩
    | cons x l ih =>
      intro best hb
      simp only [List.foldl_cons]
      by_cases hx : 0 ≤ x ∧ (best < 0 ∨ x + 1 < best)
      · have e : bestStep best x = x + 1 := by unfold bestStep; rw [if_pos hx]
        rw [e]
        right
        rcases ih (x + 1) (by omega) with ⟨h1, h2⟩ | ⟨k, hk, h0, h1, h2, h3⟩
        · refine ⟨x, by simp, hx.1, hx.2, h1, ?_⟩
          intro k' hk' h0
          rcases List.mem_cons.1 hk' with rfl | hk'
          · omega
          · have := h2 k' hk' h0; omega
        · refine ⟨k, by simp [hk], h0, ?_, h2, ?_⟩
          · rcases hx.2 with h | h
            · exact .inl h
            · right; rcases h1 with h1 | h1 <;> omega
          · intro k' hk' h0'
            rcases List.mem_cons.1 hk' with rfl | hk'
            · rcases h1 with h1 | h1 <;> omega
            · exact h3 k' hk' h0'
      · have e : bestStep best x = best := by unfold bestStep; rw [if_neg hx]
        rw [e]
        rcases ih best hb with ⟨h1, h2⟩ | ⟨k, hk, h0, h1, h2, h3⟩
        · left
          refine ⟨h1, ?_⟩
          intro k hk h0
          rcases List.mem_cons.1 hk with rfl | hk
          · omega
          · exact h2 k hk h0
        · right
          refine ⟨k, by simp [hk], h0, h1, h2, ?_⟩
          intro k' hk' h0'
          rcases List.mem_cons.1 hk' with rfl | hk'
          · omega
          · exact h3 k' hk' h0'
  rcases key l (-1) (by omega) with ⟨h1, h2⟩ | ⟨k, hk, h0, h1, h2, h3⟩
  · left
    refine ⟨h1, fun k hk => ?_⟩
    by_cases h0 : 0 ≤ k
    · have := h2 k hk h0; omega
    · omega
  · exact .inr ⟨k, hk, h0, h2, h3⟩
/-- A node is one further than the nearest of its neighbours. -/
theorem IsHops.steps {near : List Int} {nb : List Nat} {d : Nat → Int} (hab : a ≠ b) (hd : ∀ u, IsHops R a u (d u)) (hn : near = nb.map d) (hnb : ∀ u, u ∈ nb ↔ R u b) : IsHops R a b (near.foldl bestStep (-1)) := by
  subst hn
  have hk : ∀ k, Ball R k a b → ∃ u j, u ∈ nb ∧ Ball R j a u ∧ j + 1 ≤ k := by
    intro k
    induction k with
    | zero => intro h; exact absurd h hab
    | succ k ih =>
      intro h
      rcases h with h | ⟨u, h, hr⟩
      · obtain ⟨u, j, h1, h2, h3⟩ := ih h
        exact ⟨u, j, h1, h2, by omega⟩
      · exact ⟨u, k, (hnb u).2 hr, h, Nat.le_refl _⟩
  rcases best_spec (nb.map d) with ⟨h1, h2⟩ | ⟨k, hkm, h0, h1, h2⟩
  · rw [h1]
    refine .inl ⟨rfl, fun k hb => ?_⟩
    obtain ⟨u, j, hu, hj, _⟩ := hk k hb
    have := h2 (d u) (List.mem_map.2 ⟨u, hu, rfl⟩)
    have := (hd u).joined.2 ⟨j, hj⟩
    omega
  · rw [h1]
    obtain ⟨u, hu, rfl⟩ := List.mem_map.1 hkm
    have hr := (hnb u).1 hu
    rcases hd u with ⟨e, _⟩ | ⟨n, e, hb, _⟩
    · omega
    rw [e]
    refine .inr ⟨n + 1, by omega, hb.step hr, fun k hb' => ?_⟩
    obtain ⟨u', j, hu', hj, hjk⟩ := hk k hb'
    have h3 := h2 (d u') (List.mem_map.2 ⟨u', hu', rfl⟩) ((hd u').joined.2 ⟨j, hj⟩)
    rcases hd u' with ⟨e', h'⟩ | ⟨n', e', _, hm⟩
    · exact absurd hj (h' j)
    · have := hm j hj; omega
end
theorem sorted_ext : ∀ {l m : List Nat}, l.Pairwise (· < ·) → m.Pairwise (· < ·) → (∀ v, v ∈ l ↔ v ∈ m) → l = m
  | [], [], _, _, _ => rfl
  | [], y :: m, _, _, h => absurd ((h y).2 (by simp)) (by simp)
  | x :: l, [], _, _, h => absurd ((h x).1 (by simp)) (by simp)
  | x :: l, y :: m, hl, hm, h => by
    obtain ⟨hx, hl1⟩ := List.pairwise_cons.1 hl
    obtain ⟨hy, hm1⟩ := List.pairwise_cons.1 hm
    have e : x = y := by
      have h1 := (h x).1 (by simp)
      have h2 := (h y).2 (by simp)
      rcases List.mem_cons.1 h1 with e | h1
      · exact e
      rcases List.mem_cons.1 h2 with e | h2
      · exact e.symm
      have := hy x h1; have := hx y h2; omega
    subst e
    refine congrArg (x :: ·) (sorted_ext hl1 hm1 fun v => ⟨fun hv => ?_, fun hv => ?_⟩)
    · rcases List.mem_cons.1 ((h v).1 (List.mem_cons_of_mem _ hv)) with e | h'
      · subst e; have := hx v hv; omega
      · exact h'
    · rcases List.mem_cons.1 ((h v).2 (List.mem_cons_of_mem _ hv)) with e | h'
      · subst e; have := hy v hv; omega
      · exact h'
end Gr

section
variable {R R' : Nat → Nat → Prop} {N a b : Nat} {l m : List Nat}
theorem IsReach.ext (hl : IsReach R N a l) (hm : IsReach R' N b m) (h : ∀ v, (∃ k, Gr.Ball R k a v) ↔ ∃ k, Gr.Ball R' k b v) : l = m :=
  Gr.sorted_ext hl.1 hm.1 fun v => (hl.2.1 v).trans ((h v).trans (hm.2.1 v).symm)
theorem IsReach.filter (hl : IsReach R N a l) : l = (List.range N).filter fun v => decide (v ∈ l) :=
  Gr.sorted_ext hl.1 (List.Pairwise.filter _ List.pairwise_lt_range) fun v => by
    rw [List.mem_filter]
    constructor
    · intro h; exact ⟨List.mem_range.2 (hl.2.2 v h), by simpa using h⟩
    · rintro ⟨_, h⟩; simpa using h
theorem IsReach.fewer (hl : IsReach R N a l) (hm : IsReach R' N b m) (h : ∀ v, v ∈ l → v ∈ m) : l.length ≤ m.length := by
  rw [hl.filter, hm.filter, ← List.countP_eq_length_filter, ← List.countP_eq_length_filter]
  exact List.countP_mono_left fun v _ hv => by simp at hv ⊢; exact h v hv
theorem IsReach.self (hl : IsReach R N a l) : a ∈ l := (hl.2.1 a).2 ⟨0, rfl⟩
theorem IsReach.len (hl : IsReach R N a l) : 1 ≤ l.length := List.length_pos_of_mem hl.self
end

theorem Adj.symm {L : List Lk} {f : Int} : ∀ u v, Adj L f u v → Adj L f v u := by
  rintro u v ⟨i, x, hx, hf, h⟩
  exact ⟨i, x, hx, hf, h.symm.imp (fun h => ⟨h.2, h.1⟩) (fun h => ⟨h.2, h.1⟩)⟩
theorem Adj.sub {L : List Lk} {f g : Int} (hfg : ∀ i : Nat, hasB f i = true → hasB g i = true) : ∀ u v, Adj L g u v → Adj L f u v := by
  rintro u v ⟨i, x, hx, hg, h⟩
  refine ⟨i, x, hx, ?_, h⟩
  cases hf : hasB f i with
  | false => rfl
  | true => rw [hfg i hf] at hg; cases hg
theorem arL_fewer {L : List Lk} {f g n : Int} {k : Nat} (hfg : ∀ i : Nat, hasB f i = true → hasB g i = true) : (arL L g n k).length ≤ (arL L f n k).length := by
  unfold arL
  rw [← List.countP_eq_length_filter, ← List.countP_eq_length_filter]
  refine List.countP_mono_left fun i _ hi => ?_
  unfold isAr at hi ⊢
  split
  · rename_i x hx
    rw [hx] at hi
    simp only [Bool.and_eq_true, Bool.not_eq_true'] at hi ⊢
    refine ⟨?_, hi.2⟩
    cases hf : hasB f i with
    | false => rfl
    | true => rw [hfg i hf] at hi; cases hi.1
  · rename_i hx
    rw [hx] at hi
    exact hi
theorem IsReach.joins {R : Nat → Nat → Prop} (hs : ∀ u v, R u v → R v u) {N a b v : Nat} {l m : List Nat} (hl : IsReach R N a l) (hm : IsReach R N b m) (h1 : v ∈ l) (h2 : v ∈ m) : l = m := by
  obtain ⟨i, hi⟩ := (hl.2.1 v).1 h1
  obtain ⟨j, hj⟩ := (hm.2.1 v).1 h2
  refine hl.ext hm fun u => ⟨?_, ?_⟩
  · rintro ⟨k, hk⟩
    exact ⟨_, (hj.trans (hi.symm hs)).trans hk⟩
  · rintro ⟨k, hk⟩
    exact ⟨_, (hi.trans (hj.symm hs)).trans hk⟩

/-! ### Sets of links -/
theorem hasB_bit (f : Int) {k : Nat} (hk : k < 16) : hasB f k = (BitVec.ofInt 64 f).getLsbD k := by
  rw [← BitVec.testBit_toNat, Nat.testBit_eq_decide_div_mod_eq, BitVec.toNat_ofInt]
  unfold hasB
  have h1 : decide ((0 : Int) ≤ (k : Int) ∧ (k : Int) < 16) = true := by simp; omega
  rw [h1, Bool.true_and]
  have h : k = 0 ∨ k = 1 ∨ k = 2 ∨ k = 3 ∨ k = 4 ∨ k = 5 ∨ k = 6 ∨ k = 7 ∨ k = 8 ∨ k = 9 ∨ k = 10 ∨ k = 11 ∨ k = 12 ∨ k = 13 ∨ k = 14 ∨ k = 15 := by omega
  rcases h with rfl | rfl | rfl | rfl | rfl | rfl | rfl | rfl | rfl | rfl | rfl | rfl | rfl | rfl | rfl | rfl <;>
    (rw [decide_eq_decide]; simp; omega)
theorem hasB_out (f : Int) {k : Nat} (hk : 16 ≤ k) : hasB f k = false := by
  unfold hasB
  have h1 : decide ((0 : Int) ≤ (k : Int) ∧ (k : Int) < 16) = false := by simp; omega
  rw [h1, Bool.false_and]
theorem hasB_or (f g : Int) (k : Nat) : hasB (bits BinOp.or IntKind.i64 f g) k = (hasB f k || hasB g k) := by
  by_cases hk : k < 16
  · have e : BitVec.ofInt 64 (bits BinOp.or IntKind.i64 f g) = BitVec.ofInt 64 f ||| BitVec.ofInt 64 g := by
      show BitVec.ofInt 64 (IntKind.i64.wrap ((BitVec.ofInt 64 f ||| BitVec.ofInt 64 g).toNat : Int)) = _
      apply BitVec.eq_of_toNat_eq
      rw [BitVec.toNat_ofInt, IntKind.wrap_i64]
      have := (BitVec.ofInt 64 f ||| BitVec.ofInt 64 g).isLt
      omega
    rw [hasB_bit _ hk, hasB_bit _ hk, hasB_bit _ hk, e, BitVec.getLsbD_or]
  · rw [hasB_out _ (by omega), hasB_out _ (by omega), hasB_out _ (by omega)]; rfl
theorem hasB_two {i k : Nat} (hi : i < 16) : hasB (2 ^ i : Int) k = decide (k = i) := by
  by_cases hk : k < 16
  · have h : ∀ i k : Fin 16, (BitVec.ofInt 64 (2 ^ i.val : Int)).getLsbD k.val = decide (k.val = i.val) := by decide
    rw [hasB_bit _ hk]
    exact h ⟨i, hi⟩ ⟨k, hk⟩
  · rw [hasB_out _ (by omega)]; simp; omega
theorem hasB_with (f : Int) {i k : Nat} (hi : i < 16) : hasB (withB f i) k = (hasB f k || decide (k = i)) := by
  unfold withB
  have e : IntKind.i64.wrap (2 ^ ((i : Int)).toNat) = 2 ^ i := by
    have h : ∀ i : Fin 16, IntKind.i64.wrap (2 ^ ((i.val : Int)).toNat) = 2 ^ i.val := by decide
    exact h ⟨i, hi⟩
  rw [e, hasB_or, hasB_two hi]
end
end Go.Proofs.YtakolnmoieiicaaGreat

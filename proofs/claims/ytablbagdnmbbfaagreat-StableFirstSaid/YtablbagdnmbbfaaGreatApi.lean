/- What package graph's exported functions answer at a network that may be. -/
import Derived.Test.YtablbagdnmbbfaaGreatRight
import Derived.Test.YtablbagdnmbbfaaGreatFrom
namespace Go.Proofs.YtablbagdnmbbfaaGreat
set_option linter.unusedSimpArgs false
set_option linter.unusedVariables false
open Go.RowKit

/-- A network that may be. -/
structure Good (p : Net) : Prop where
  small : Small p
  names : (namesOf p).any badName = false
  right : rightB p = true
section
variable {p : Net}
theorem Good.nodesB (g : Good p) : nodesB p = true := by have := g.right; simp only [rightB, Bool.and_eq_true] at this; exact this.2.2.1
theorem Good.linksB (g : Good p) : linksB p = true := by have := g.right; simp only [rightB, Bool.and_eq_true] at this; exact this.2.2.2.1
theorem Good.n12 (g : Good p) : 1 ≤ p.nodes.length ∧ p.nodes.length ≤ 12 := by
  have := g.nodesB
  simp only [YtablbagdnmbbfaaGreat.nodesB, withinB, Bool.and_eq_true, decide_eq_true_eq] at this
  omega
theorem Good.l16 (g : Good p) : p.links.length ≤ 16 := by
  have := g.linksB
  simp only [YtablbagdnmbbfaaGreat.linksB, Bool.and_eq_true, decide_eq_true_eq] at this
  exact this.2.1
theorem Good.lksOk (g : Good p) : LksOk p.links p.nodes.length := by
  have := g.linksB
  simp only [YtablbagdnmbbfaaGreat.linksB, Bool.and_eq_true, List.all_eq_true, lkB, placeB, decide_eq_true_eq] at this
  intro x hx
  have := this.1 x hx
  omega
end

theorem isNode_any (p : Net) (h : Hd) (n : Int) (w : World) (hp : NetR w w.heap.size p h) (hg : Good p) : Calls Tryz.prog 49 #[netV p h, .int .i64 n] w fun e w' => e = .returned (.bool (placeB n p.nodes.length)) ∧ Below w.heap.size w w' := by
  have HA := Lib.hid (AtRight.begin hp)
  have HG := Lib.hid hg
  clear hp hg
  unfold netV netVal
  have HN := Lib.hid (show placeB n p.nodes.length = (decide (0 ≤ n) && decide (n < p.nodes.length)) from by unfold placeB; simp)
  by_cases h0 : 0 ≤ n
  · by_cases h1 : n < p.nodes.length
    · go_enter Tryz.func49, Tryz.ntmps49
      go_wp2_with fail
      refine (right_any p h _ HA.out.net HG.out.small HG.out.names).mono ?_
      rintro e w1 ⟨rfl, hb1⟩
      rw [HG.out.right]
      have HA1 := Lib.hid (HA.out.call hb1)
      obtain ⟨c0, c1, c2, c3, c4, c5, c6⟩ := HA1.out.all
      clear hb1
      go_wp2
      go_ret
      exact ⟨ret_bool (by rw [HN.out]; simp [h0, h1]), HA1.out.below⟩
    · go_enter Tryz.func49, Tryz.ntmps49
      go_wp2_with fail
      refine (right_any p h _ HA.out.net HG.out.small HG.out.names).mono ?_
      rintro e w1 ⟨rfl, hb1⟩
      rw [HG.out.right]
      have HA1 := Lib.hid (HA.out.call hb1)
      obtain ⟨c0, c1, c2, c3, c4, c5, c6⟩ := HA1.out.all
      clear hb1
      go_wp2
      go_ret
      exact ⟨ret_bool (by rw [HN.out]; simp [h0, h1]), HA1.out.below⟩
  · go_enter Tryz.func49, Tryz.ntmps49
    go_wp2_with fail
    refine (right_any p h _ HA.out.net HG.out.small HG.out.names).mono ?_
    rintro e w1 ⟨rfl, hb1⟩
    rw [HG.out.right]
    have HA1 := Lib.hid (HA.out.call hb1)
    obtain ⟨c0, c1, c2, c3, c4, c5, c6⟩ := HA1.out.all
    clear hb1
    go_wp2
    go_ret
    exact ⟨ret_bool (by rw [HN.out]; simp; omega), HA1.out.below⟩

theorem run_far (d : Nat → Int) {b : Nat} (hb : b < 12) (w : World) : (Instr.index 87 (.agg (farArr d)) (.int .i64 b)).run Tryz.prog w = .ok (.int .i64 (d b)) w := by
  obtain ⟨i0, hi, hz0, hz1, hz2⟩ := info_parts Tryz.info_int
  have h1 : (0 : Int) ≤ (b : Int) ∧ (b : Int) < (12 : Nat) := by omega
  have h2 := farArr_at d hb
  simp [Instr.index, run_underlying Tryz.underlying87, asIntOf, h1, sizeOf, typeInfo, hi, hz1, part, h2, go_sem]
  intro h; omega
/-- How many steps b is from a: -1 where none lead there, or either is no node. -/
def HopsPost (L : List Lk) (f : Int) (N : Nat) (a b : Int) (w : World) (e : Ending) (w' : World) : Prop :=
  ∃ d : Int, e = .returned (.int .i64 d) ∧ (if placeB a N && placeB b N then Gr.IsHops (Adj L f) a.toNat b.toNat d ∧ d < N else d = -1) ∧ Below w.heap.size w w'
set_option maxRecDepth 100000 in
theorem hops_any (p : Net) (h : Hd) (f a b : Int) (w : World) (hp : NetR w w.heap.size p h) (hg : Good p) : Calls Tryz.prog 29 #[netV p h, .int .i64 f, .int .i64 a, .int .i64 b] w (HopsPost p.links f p.nodes.length a b w) := by
  have HA := Lib.hid (AtRight.begin hp)
  have HG := Lib.hid hg
  clear hp hg
  have h12 := HG.out.n12
  by_cases ha : placeB a p.nodes.length = true
  · by_cases hb : placeB b p.nodes.length = true
    · obtain ⟨a, rfl⟩ : ∃ k : Nat, a = k := ⟨a.toNat, by simp only [placeB, decide_eq_true_eq] at ha; omega⟩
      obtain ⟨b, rfl⟩ : ∃ k : Nat, b = k := ⟨b.toNat, by simp only [placeB, decide_eq_true_eq] at hb; omega⟩
      have ha' : a < p.nodes.length := by simp only [placeB, decide_eq_true_eq] at ha; omega
      have hb' : b < p.nodes.length := by simp only [placeB, decide_eq_true_eq] at hb; omega
      have hb12 : b < 12 := by omega
      unfold netV netVal
      go_enter Tryz.func29, Tryz.ntmps29
      go_wp2_with fail
      refine (isNode_any p h _ _ HA.out.net HG.out).mono ?_
      rintro e w1 ⟨rfl, hb1⟩
      have HA1 := Lib.hid (HA.out.call hb1)
      obtain ⟨c0, c1, c2, c3, c4, c5, c6⟩ := HA1.out.all
      clear hb1
      go_wp2_with fail
      refine (isNode_any p h _ _ HA1.out.net HG.out).mono ?_
      rintro e w2 ⟨rfl, hb2⟩
      have HA2 := Lib.hid (HA1.out.call hb2)
      clear c0 c1 c2 c3 c4 c5 c6
      obtain ⟨c0, c1, c2, c3, c4, c5, c6⟩ := HA2.out.all
      clear hb2
      go_wp2_with fail
      refine (from_any p.links f a p.nodes.length h12.2 ha' HG.out.lksOk _ _ _ _ _ _ _ _ _ HA2.out.net.links HG.out.small.links).mono ?_
      rintro e w3 ⟨d, rfl, hd, hdN, hb3⟩
      have HF : Hid (HopsPost p.links f p.nodes.length a b w (.returned (.int .i64 (d b))) w3) := Lib.hid ⟨d b, rfl, by rw [ha, hb]; exact ⟨hd b, hdN b⟩, (HA2.out.call hb3).below⟩
      have hat := run_far d hb12 w3
      clear hd hdN hb3
      go_wp2
      go_ret
      exact HF.out
    · have hb : placeB b p.nodes.length = false := by simpa using hb
      unfold netV netVal
      go_enter Tryz.func29, Tryz.ntmps29
      go_wp2_with fail
      refine (isNode_any p h _ _ HA.out.net HG.out).mono ?_
      rintro e w1 ⟨rfl, hb1⟩
      have HA1 := Lib.hid (HA.out.call hb1)
      obtain ⟨c0, c1, c2, c3, c4, c5, c6⟩ := HA1.out.all
      clear hb1
      go_wp2_with fail
      refine (isNode_any p h _ _ HA1.out.net HG.out).mono ?_
      rintro e w2 ⟨rfl, hb2⟩
      have HA2 := Lib.hid (HA1.out.call hb2)
      clear hb2
      go_wp2
      go_ret
      exact ⟨-1, rfl, by rw [ha, hb]; simp, HA2.out.below⟩
  · have ha : placeB a p.nodes.length = false := by simpa using ha
    unfold netV netVal
    go_enter Tryz.func29, Tryz.ntmps29
    go_wp2_with fail
    refine (isNode_any p h _ _ HA.out.net HG.out).mono ?_
    rintro e w1 ⟨rfl, hb1⟩
    have HA1 := Lib.hid (HA.out.call hb1)
    obtain ⟨c0, c1, c2, c3, c4, c5, c6⟩ := HA1.out.all
    clear hb1
    go_wp2
    go_ret
    exact ⟨-1, rfl, by rw [ha]; simp, HA1.out.below⟩

/-- The nodes below k that are joined. -/
def inL (d : Nat → Int) (k : Nat) : List Nat := (List.range k).filter fun v => decide (0 ≤ d v)
theorem inL_le (d : Nat → Int) (k : Nat) : (inL d k).length ≤ k := by
  have := List.length_filter_le (fun v => decide (0 ≤ d v)) (List.range k)
  simpa [inL] using this
theorem inL_hit {d : Nat → Int} {k : Nat} (h : 0 ≤ d k) : inL d (k + 1) = inL d k ++ [k] := by
  simp [inL, List.range_succ, List.filter_append, h]
theorem inL_miss {d : Nat → Int} {k : Nat} (h : ¬ 0 ≤ d k) : inL d (k + 1) = inL d k := by
  simp [inL, List.range_succ, List.filter_append, h]
theorem in_hit_step {w w1 w2 : World} {d : Nat → Int} {k m : Nat} {A2 A1 : Option Addr} {c2 B : Nat} (hB : B = w.heap.size) (h : 0 ≤ d k) (hm : m = (inL d k).length + 1)
    (hown2 : Own w2 B 3 1 A2 m c2 (nats (inL d k) ++ [Value.int .i64 (k : Int)])) (hb : Below B w w1) (hg : w1.grownBy w2 (blk A1)) (hA : ∀ g, blk A1 = some g → B ≤ g) :
    m = (inL d (k + 1)).length ∧ Own w2 B 3 1 A2 (inL d (k + 1)).length c2 (nats (inL d (k + 1))) ∧ Below B w w2 := by
  have e : m = (inL d (k + 1)).length := by rw [inL_hit h, hm]; simp
  subst e
  refine ⟨rfl, ?_, hb.grown hg (by rw [hB]; exact hb.size) hA⟩
  rw [← nats_snoc, ← inL_hit h] at hown2
  exact hown2

/-- The nodes that are joined with a, in order. -/
def IsReach (R : Nat → Nat → Prop) (N a : Nat) (l : List Nat) : Prop :=
  l.Pairwise (· < ·) ∧ (∀ v, v ∈ l ↔ ∃ k, Gr.Ball R k a v) ∧ ∀ v ∈ l, v < N
theorem inL_reach {L : List Lk} {f : Int} {N a : Nat} (hN : N ≤ 12) (ha : a < N) (hok : LksOk L N) {d : Nat → Int} (hd : ∀ b, Gr.IsHops (Adj L f) a b (d b)) : IsReach (Adj L f) N a (inL d 12) := by
  have hlt : ∀ k v, Gr.Ball (Adj L f) k a v → v < N := fun k v h => h.lt (by
    rintro u v ⟨i, x, hx, _, h⟩
    have := hok x (List.mem_of_getElem? hx)
    omega) ha
  have hm : ∀ v, v ∈ inL d 12 ↔ ∃ k, Gr.Ball (Adj L f) k a v := by
    intro v
    unfold inL
    rw [List.mem_filter]
    constructor
    · rintro ⟨_, h⟩
      rcases hd v with ⟨e, _⟩ | ⟨n, e, h', _⟩
      · simp [e] at h
      · exact ⟨n, h'⟩
    · rintro ⟨k, h⟩
      have := hlt k v h
      refine ⟨List.mem_range.2 (by omega), ?_⟩
      rcases hd v with ⟨_, h'⟩ | ⟨n, e, _, _⟩
      · exact absurd h (h' k)
      · simp [e]
  exact ⟨List.Pairwise.filter _ List.pairwise_lt_range, hm, fun v hv => by obtain ⟨k, h⟩ := (hm v).1 hv; exact hlt k v h⟩

def ReachPost (L : List Lk) (f : Int) (N : Nat) (a : Int) (w : World) (e : Ending) (w' : World) : Prop :=
  ∃ (l : List Nat) (A : Option Addr) (c : Nat), e = .returned (.slice A l.length c) ∧ Own w' w.heap.size 3 1 A l.length c (nats l) ∧ (if placeB a N then IsReach (Adj L f) N a.toNat l else l = []) ∧ Below w.heap.size w w'
theorem aroundX_any (p : Net) (h : Hd) (f a : Int) (w : World) (hp : NetR w w.heap.size p h) (hg : Good p) : Calls Tryz.prog 26 #[netV p h, .int .i64 f, .int .i64 a] w (AroundPost p.links f a w) := by
  have HA := Lib.hid (AtRight.begin hp)
  have HG := Lib.hid hg
  clear hp hg
  unfold netV netVal
  go_enter Tryz.func26, Tryz.ntmps26
  go_wp2_with fail
  refine (right_any p h _ HA.out.net HG.out.small HG.out.names).mono ?_
  rintro e w1 ⟨rfl, hb1⟩
  rw [HG.out.right]
  have HA1 := Lib.hid (HA.out.call hb1)
  obtain ⟨c0, c1, c2, c3, c4, c5, c6⟩ := HA1.out.all
  clear hb1
  go_wp2_with fail
  refine (around_any p.links f a _ _ _ _ _ _ _ _ _ HA1.out.net.links HG.out.small.links).mono ?_
  rintro e w3 ⟨A, c, rfl, hown, hb3⟩
  have HF : Hid (AroundPost p.links f a w (.returned (.slice A (arL p.links f a p.links.length).length c)) w3) := Lib.hid ⟨A, c, rfl, hown.more (by have := HA1.out.size; omega), (HA1.out.call hb3).below⟩
  clear hown hb3
  go_wp2
  go_ret
  exact HF.out

def othL (L : List Lk) (i n : Int) : Int := if 0 ≤ i then (match L[i.toNat]? with | some x => othV x.a x.b n | none => -1) else -1
theorem otherX_any (p : Net) (h : Hd) (i a : Int) (w : World) (hp : NetR w w.heap.size p h) (hg : Good p) : Calls Tryz.prog 27 #[netV p h, .int .i64 i, .int .i64 a] w fun e w' => e = .returned (.int .i64 (othL p.links i a)) ∧ Below w.heap.size w w' := by
  have HA := Lib.hid (AtRight.begin hp)
  have HG := Lib.hid hg
  clear hp hg
  unfold netV netVal
  by_cases h0 : 0 ≤ i
  · by_cases h1 : i < p.links.length
    · obtain ⟨i, rfl⟩ : ∃ k : Nat, i = k := ⟨i.toNat, by omega⟩
      obtain ⟨x, hx⟩ : ∃ x, p.links[i]? = some x := ⟨_, List.getElem?_eq_getElem (by omega)⟩
      have HN := Lib.hid (show othL p.links i a = othV x.a x.b a from by simp [othL, hx])
      have HX := Lib.hid hx
      clear hx
      go_enter Tryz.func27, Tryz.ntmps27
      go_wp2_with fail
      refine (right_any p h _ HA.out.net HG.out.small HG.out.names).mono ?_
      rintro e w1 ⟨rfl, hb1⟩
      rw [HG.out.right]
      have HA1 := Lib.hid (HA.out.call hb1)
      obtain ⟨c0, c1, c2, c3, c4, c5, c6⟩ := HA1.out.all
      clear hb1
      obtain ⟨b, o, e, hb, k0, k1, k2⟩ := HA1.out.net.links.link HX.out
      have HE := Lib.hid e
      rw [e] at c4
      clear e
      go_wp2_with fail
      refine (other_any x.a x.b x.cost a _).mono ?_
      rintro e w3 ⟨rfl, hb3⟩
      have HA2 := Lib.hid (HA1.out.call hb3)
      clear hb3
      go_wp2
      go_ret
      exact ⟨ret_int (by rw [HN.out]), HA2.out.below⟩
    · have HN := Lib.hid (show othL p.links i a = -1 from by unfold othL; rw [if_pos h0, List.getElem?_eq_none (by omega)])
      go_enter Tryz.func27, Tryz.ntmps27
      go_wp2_with fail
      refine (right_any p h _ HA.out.net HG.out.small HG.out.names).mono ?_
      rintro e w1 ⟨rfl, hb1⟩
      rw [HG.out.right]
      have HA1 := Lib.hid (HA.out.call hb1)
      obtain ⟨c0, c1, c2, c3, c4, c5, c6⟩ := HA1.out.all
      clear hb1
      go_wp2
      go_ret
      exact ⟨ret_int (by rw [HN.out]), HA1.out.below⟩
  · have HN := Lib.hid (show othL p.links i a = -1 from by unfold othL; rw [if_neg h0])
    go_enter Tryz.func27, Tryz.ntmps27
    go_wp2_with fail
    refine (right_any p h _ HA.out.net HG.out.small HG.out.names).mono ?_
    rintro e w1 ⟨rfl, hb1⟩
    rw [HG.out.right]
    have HA1 := Lib.hid (HA.out.call hb1)
    obtain ⟨c0, c1, c2, c3, c4, c5, c6⟩ := HA1.out.all
    clear hb1
    go_wp2
    go_ret
    exact ⟨ret_int (by rw [HN.out]), HA1.out.below⟩
end Go.Proofs.YtablbagdnmbbfaaGreat

/- What package graph's exported functions answer at a network that may be. The walk of graph.Cuts. Plain laws of what is joined with what, and how far. No program is walked here. -/
import Derived.Test.YtidmpfenkgihjaaRight
import Derived.Test.YtidmpfenkgihjaaFrom
namespace Go.Proofs.Ytidmpfenkgihjaa
set_option linter.unusedSimpArgs false
set_option linter.unusedVariables false
open Go.RowKit

section
/-- A network that may be. -/
structure Good (p : Net) : Prop where
  small : Small p
  names : (namesOf p).any badName = false
  right : rightB p = true
section
variable {p : Net}
theorem Good.nodesB (g : Good p) : nodesB p = true := by have := g.right; simp only [rightB, Bool.and_eq_true] at this; exact this.2.2.1
theorem Good.linksB (g : Good p) : linksB p = true := by have := g.right; simp only [rightB, Bool.and_eq_true] at this; exact this.2.2.2.1
theorem Good.n12 (g : Good p) : 1 ≤ p.nodes.length ∧ p.nodes.length ≤ 12 := by
  have := g.nodesB
  simp only [Ytidmpfenkgihjaa.nodesB, withinB, Bool.and_eq_true, decide_eq_true_eq] at this
  omega
theorem Good.l16 (g : Good p) : p.links.length ≤ 16 := by
  have := g.linksB
  simp only [Ytidmpfenkgihjaa.linksB, Bool.and_eq_true, decide_eq_true_eq] at this
  exact this.2.1
theorem Good.lksOk (g : Good p) : LksOk p.links p.nodes.length := by
  have := g.linksB
  simp only [Ytidmpfenkgihjaa.linksB, Bool.and_eq_true, List.all_eq_true, lkB, placeB, decide_eq_true_eq] at this
  intro x hx
  have := this.1 x hx
  omega
end

theorem isNode_any (p : Net) (h : Hd) (n : Int) (w : World) (hp : NetR w w.heap.size p h) (hg : Good p) : Calls Try.prog 25 #[netV p h, .int .i64 n] w fun e w' => e = .returned (.bool (placeB n p.nodes.length)) ∧ Below w.heap.size w w' := by
  have HA := Lib.hid (AtRight.begin hp)
  have HG := Lib.hid hg
  clear hp hg
  unfold netV netVal
  have HN := Lib.hid (show placeB n p.nodes.length = (decide (0 ≤ n) && decide (n < p.nodes.length)) from by unfold placeB; simp)
  by_cases h0 : 0 ≤ n
  · by_cases h1 : n < p.nodes.length
    · go_enter Try.func25, Try.ntmps25
      go_wp2_with fail
      refine (right_any p h _ HA.out.net HG.out.small HG.out.names).mono ?_
      rintro e w1 ⟨rfl, hb1⟩
      rw [HG.out.right]
      have HA1 := Lib.hid (HA.out.call hb1)
      obtain ⟨c0, c1, c2, c3, c4, c5, c6⟩ := HA1.out.all
      clear hb1
      go_wp2
      go_ret
      exact ⟨ret_bool (by rw [HN.out]; simp [h0, h1]), HA1.out.below⟩
    · go_enter Try.func25, Try.ntmps25
      go_wp2_with fail
      refine (right_any p h _ HA.out.net HG.out.small HG.out.names).mono ?_
      rintro e w1 ⟨rfl, hb1⟩
      rw [HG.out.right]
      have HA1 := Lib.hid (HA.out.call hb1)
      obtain ⟨c0, c1, c2, c3, c4, c5, c6⟩ := HA1.out.all
      clear hb1
      go_wp2
      go_ret
      exact ⟨ret_bool (by rw [HN.out]; simp [h0, h1]), HA1.out.below⟩
  · go_enter Try.func25, Try.ntmps25
    go_wp2_with fail
    refine (right_any p h _ HA.out.net HG.out.small HG.out.names).mono ?_
    rintro e w1 ⟨rfl, hb1⟩
    rw [HG.out.right]
    have HA1 := Lib.hid (HA.out.call hb1)
    obtain ⟨c0, c1, c2, c3, c4, c5, c6⟩ := HA1.out.all
    clear hb1
    go_wp2
    go_ret
    exact ⟨ret_bool (by rw [HN.out]; simp; omega), HA1.out.below⟩

theorem run_far (d : Nat → Int) {b : Nat} (hb : b < 12) (w : World) : (Instr.index 60 (.agg (farArr d)) (.int .i64 b)).run Try.prog w = .ok (.int .i64 (d b)) w := by
  obtain ⟨i0, hi, hz0, hz1, hz2⟩ := info_parts Try.info_int
  have h1 : (0 : Int) ≤ (b : Int) ∧ (b : Int) < (12 : Nat) := by omega
  have h2 := farArr_at d hb
  simp [Instr.index, run_underlying Try.underlying60, asIntOf, h1, sizeOf, typeInfo, hi, hz1, part, h2, go_sem]
  intro h; omega
/-- How many steps b is from a: -1 where none lead there, or either is no node. -/
def HopsPost (L : List Lk) (f : Int) (N : Nat) (a b : Int) (w : World) (e : Ending) (w' : World) : Prop :=
  ∃ d : Int, e = .returned (.int .i64 d) ∧ (if placeB a N && placeB b N then Gr.IsHops (Adj L f) a.toNat b.toNat d ∧ d < N else d = -1) ∧ Below w.heap.size w w'
set_option maxRecDepth 100000 in
theorem hops_any (p : Net) (h : Hd) (f a b : Int) (w : World) (hp : NetR w w.heap.size p h) (hg : Good p) : Calls Try.prog 15 #[netV p h, .int .i64 f, .int .i64 a, .int .i64 b] w (HopsPost p.links f p.nodes.length a b w) := by
  have HA := Lib.hid (AtRight.begin hp)
  have HG := Lib.hid hg
  clear hp hg
  have h12 := HG.out.n12
  by_cases ha : placeB a p.nodes.length = true
  · by_cases hb : placeB b p.nodes.length = true
    · obtain ⟨a, rfl⟩ : ∃ k : Nat, a = k := ⟨a.toNat, by simp only [placeB, decide_eq_true_eq] at ha; omega⟩
      obtain ⟨b, rfl⟩ : ∃ k : Nat, b = k := ⟨b.toNat, by simp only [placeB, decide_eq_true_eq] at hb; omega⟩
      have ha' : a < p.nodes.length := by simp only [placeB, decide_eq_true_eq] at ha; omega
      have hb' : b < p.nodes.length := by simp only [placeB, decide_eq_true_eq] at hb; omega
      have hb12 : b < 12 := by omega
      unfold netV netVal
      go_enter Try.func15, Try.ntmps15
      go_wp2_with fail
      refine (isNode_any p h _ _ HA.out.net HG.out).mono ?_
      rintro e w1 ⟨rfl, hb1⟩
      have HA1 := Lib.hid (HA.out.call hb1)
      obtain ⟨c0, c1, c2, c3, c4, c5, c6⟩ := HA1.out.all
      clear hb1
      go_wp2_with fail
      refine (isNode_any p h _ _ HA1.out.net HG.out).mono ?_
      rintro e w2 ⟨rfl, hb2⟩
      have HA2 := Lib.hid (HA1.out.call hb2)
      clear c0 c1 c2 c3 c4 c5 c6
      obtain ⟨c0, c1, c2, c3, c4, c5, c6⟩ := HA2.out.all
      clear hb2
      go_wp2_with fail
      refine (from_any p.links f a p.nodes.length h12.2 ha' HG.out.lksOk _ _ _ _ _ _ _ _ _ HA2.out.net.links HG.out.small.links).mono ?_
      rintro e w3 ⟨d, rfl, hd, hdN, hb3⟩
      have HF : Hid (HopsPost p.links f p.nodes.length a b w (.returned (.int .i64 (d b))) w3) := Lib.hid ⟨d b, rfl, by rw [ha, hb]; exact ⟨hd b, hdN b⟩, (HA2.out.call hb3).below⟩
      have hat := run_far d hb12 w3
      clear hd hdN hb3
      go_wp2
      go_ret
      exact HF.out
    · have hb : placeB b p.nodes.length = false := by simpa using hb
      unfold netV netVal
      go_enter Try.func15, Try.ntmps15
      go_wp2_with fail
      refine (isNode_any p h _ _ HA.out.net HG.out).mono ?_
      rintro e w1 ⟨rfl, hb1⟩
      have HA1 := Lib.hid (HA.out.call hb1)
      obtain ⟨c0, c1, c2, c3, c4, c5, c6⟩ := HA1.out.all
      clear hb1
      go_wp2_with fail
      refine (isNode_any p h _ _ HA1.out.net HG.out).mono ?_
      rintro e w2 ⟨rfl, hb2⟩
      have HA2 := Lib.hid (HA1.out.call hb2)
      clear hb2
      go_wp2
      go_ret
      exact ⟨-1, rfl, by rw [ha, hb]; simp, HA2.out.below⟩
  · have ha : placeB a p.nodes.length = false := by simpa using ha
    unfold netV netVal
    go_enter Try.func15, Try.ntmps15
    go_wp2_with fail
    refine (isNode_any p h _ _ HA.out.net HG.out).mono ?_
    rintro e w1 ⟨rfl, hb1⟩
    have HA1 := Lib.hid (HA.out.call hb1)
    obtain ⟨c0, c1, c2, c3, c4, c5, c6⟩ := HA1.out.all
    clear hb1
    go_wp2
    go_ret
    exact ⟨-1, rfl, by rw [ha]; simp, HA1.out.below⟩

/-- The nodes below k that are joined. -/
def inL (d : Nat → Int) (k : Nat) : List Nat := (List.range k).filter fun v => decide (0 ≤ d v)
theorem inL_le (d : Nat → Int) (k : Nat) : (inL d k).length ≤ k := by
  have := List.length_filter_le (fun v => decide (0 ≤ d v)) (List.range k)
  simpa [inL] using this
theorem inL_hit {d : Nat → Int} {k : Nat} (h : 0 ≤ d k) : inL d (k + 1) = inL d k ++ [k] := by
  simp [inL, List.range_succ, List.filter_append, h]
theorem inL_miss {d : Nat → Int} {k : Nat} (h : ¬ 0 ≤ d k) : inL d (k + 1) = inL d k := by
  simp [inL, List.range_succ, List.filter_append, h]
theorem in_hit_step {w w1 w2 : World} {d : Nat → Int} {k m : Nat} {A2 A1 : Option Addr} {c2 B : Nat} (hB : B = w.heap.size) (h : 0 ≤ d k) (hm : m = (inL d k).length + 1)
    (hown2 : Own w2 B 3 1 A2 m c2 (nats (inL d k) ++ [Value.int .i64 (k : Int)])) (hb : Below B w w1) (hg : w1.grownBy w2 (blk A1)) (hA : ∀ g, blk A1 = some g → B ≤ g) :
    m = (inL d (k + 1)).length ∧ Own w2 B 3 1 A2 (inL d (k + 1)).length c2 (nats (inL d (k + 1))) ∧ Below B w w2 := by
  have e : m = (inL d (k + 1)).length := by rw [inL_hit h, hm]; simp
  subst e
  refine ⟨rfl, ?_, hb.grown hg (by rw [hB]; exact hb.size) hA⟩
  rw [← nats_snoc, ← inL_hit h] at hown2
  exact hown2

/-- The nodes that are joined with a, in order. -/
def IsReach (R : Nat → Nat → Prop) (N a : Nat) (l : List Nat) : Prop :=
  l.Pairwise (· < ·) ∧ (∀ v, v ∈ l ↔ ∃ k, Gr.Ball R k a v) ∧ ∀ v ∈ l, v < N
theorem inL_reach {L : List Lk} {f : Int} {N a : Nat} (hN : N ≤ 12) (ha : a < N) (hok : LksOk L N) {d : Nat → Int} (hd : ∀ b, Gr.IsHops (Adj L f) a b (d b)) : IsReach (Adj L f) N a (inL d 12) := by
  have hlt : ∀ k v, Gr.Ball (Adj L f) k a v → v < N := fun k v h => h.lt (by
    rintro u v ⟨i, x, hx, _, h⟩
    have := hok x (List.mem_of_getElem? hx)
    omega) ha
  have hm : ∀ v, v ∈ inL d 12 ↔ ∃ k, Gr.Ball (Adj L f) k a v := by
    intro v
    unfold inL
    rw [List.mem_filter]
    constructor
    · rintro ⟨_, h⟩
      rcases hd v with ⟨e, _⟩ | ⟨n, e, h', _⟩
      · simp [e] at h
      · exact ⟨n, h'⟩
    · rintro ⟨k, h⟩
      have := hlt k v h
      refine ⟨List.mem_range.2 (by omega), ?_⟩
      rcases hd v with ⟨_, h'⟩ | ⟨n, e, _, _⟩
      · exact absurd h (h' k)
      · simp [e]
  exact ⟨List.Pairwise.filter _ List.pairwise_lt_range, hm, fun v hv => by obtain ⟨k, h⟩ := (hm v).1 hv; exact hlt k v h⟩

def ReachPost (L : List Lk) (f : Int) (N : Nat) (a : Int) (w : World) (e : Ending) (w' : World) : Prop :=
  ∃ (l : List Nat) (A : Option Addr) (c : Nat), e = .returned (.slice A l.length c) ∧ Own w' w.heap.size 3 1 A l.length c (nats l) ∧ (if placeB a N then IsReach (Adj L f) N a.toNat l else l = []) ∧ Below w.heap.size w w'
set_option maxRecDepth 100000 in
set_option maxHeartbeats 1000000 in
theorem reach_any (p : Net) (h : Hd) (f a : Int) (w : World) (hp : NetR w w.heap.size p h) (hg : Good p) : Calls Try.prog 13 #[netV p h, .int .i64 f, .int .i64 a] w (ReachPost p.links f p.nodes.length a w) := by
  have HA := Lib.hid (AtRight.begin hp)
  have HG := Lib.hid hg
  clear hp hg
  have h12 := HG.out.n12
  by_cases ha : placeB a p.nodes.length = true
  · obtain ⟨a, rfl⟩ : ∃ k : Nat, a = k := ⟨a.toNat, by simp only [placeB, decide_eq_true_eq] at ha; omega⟩
    have ha' : a < p.nodes.length := by simp only [placeB, decide_eq_true_eq] at ha; omega
    obtain ⟨i0, hi, hz0, hz1, hz2⟩ := info_parts Try.info_int
    unfold netV netVal
    go_enter Try.func13, Try.ntmps13
    go_wp2_with fail
    refine (isNode_any p h _ _ HA.out.net HG.out).mono ?_
    rintro e w1 ⟨rfl, hb1⟩
    have HA1 := Lib.hid (HA.out.call hb1)
    obtain ⟨c0, c1, c2, c3, c4, c5, c6⟩ := HA1.out.all
    clear hb1
    go_wp2_with fail
    refine (from_any p.links f a p.nodes.length h12.2 ha' HG.out.lksOk _ _ _ _ _ _ _ _ _ HA1.out.net.links HG.out.small.links).mono ?_
    rintro e w3 ⟨d, rfl, hd, hdN, hb3⟩
    have HA3 := (HA1.out.call hb3)
    have hs3 := HA3.size
    have hbel := HA3.below
    have HR : Hid (IsReach (Adj p.links f) p.nodes.length a (inL d 12)) := Lib.hid (inL_reach h12.2 ha' HG.out.lksOk hd)
    clear hd hdN hb3 c0 c1 c2 c3 c4 c5 c6 HA3
    go_wp2_with fail
    go_loopw [6, 17] (fun v i wr => ∃ (k : Nat) (A' : Option Addr) (c' : Nat), k ≤ 12 ∧ i = .int .i64 k ∧ v = .slice A' (inL d k).length c' ∧ Own wr w.heap.size 3 1 A' (inL d k).length c' (nats (inL d k)) ∧ Below w.heap.size w wr)
      (fun _ i _ => 12 - (intOf i).toNat)
    case atStart => exact ⟨0, none, 0, Nat.zero_le _, rfl, rfl, Own.nil _ _ _ _, hbel⟩
    case round =>
      clear hbel
      obtain ⟨k, A', c', hk, rfl, rfl, hown, hbel⟩ := hrel
      have hsz := hbel.size
      have hle := inL_le d k
      by_cases hlt : k < 12
      · have hat := fun w => run_far d hlt w
        by_cases hd0 : 0 ≤ d k
        · have HM := Lib.hid hd0
          go_wp2_with (at_builtin; refine wpList_app _ rfl _ _ 22 rfl w.heap.size 3 i0 (.int .i64 0) 1 8 Try.underlying22 hi hz0 hz1 hz2 rfl (by decide) _ _ _ (nats (inL d k)) rfl (by exact hown.alloc _) _ 1 _ [.int .i64 k] rfl (Rd.new (by simp) rfl) (by intro u hu; simp at hu; subst hu; rfl) (by unfold maxLen; omega) (by omega) (by simp; omega) ?_; intro A2 c2 w2 hown2 hgrow2 hblk2 _)
          have R := in_hit_step rfl HM.out rfl hown2 (hbel.alloc hsz _) hgrow2 hown.from_
          go_roundw
          case rel => exact ⟨k + 1, A2, c2, by omega, by go_num, by rw [← R.1], R.2.1, R.2.2⟩
          case measure => simp [intOf]; omega
        · have HM := Lib.hid (inL_miss hd0)
          go_wp2
          go_roundw
          case rel => exact ⟨k + 1, A', c', by omega, by go_num, by rw [HM.out], by rw [HM.out]; exact hown, hbel⟩
          case measure => simp [intOf]; omega
      · have hk' : k = 12 := by omega
        have hfin : ReachPost p.links f p.nodes.length a w (.returned (.slice A' (inL d k).length c')) wr := by
          subst hk'
          exact ⟨inL d 12, A', c', rfl, hown, by rw [ha]; exact HR.out, hbel⟩
        have HF := Lib.hid hfin
        clear hk' hfin
        go_wp2
        go_ret
        exact HF.out
  · have ha : placeB a p.nodes.length = false := by simpa using ha
    unfold netV netVal
    go_enter Try.func13, Try.ntmps13
    go_wp2_with fail
    refine (isNode_any p h _ _ HA.out.net HG.out).mono ?_
    rintro e w1 ⟨rfl, hb1⟩
    have HA1 := Lib.hid (HA.out.call hb1)
    clear hb1
    go_wp2
    go_ret
    exact ⟨[], none, 0, rfl, Own.nil _ _ _ _, by rw [ha]; simp, HA1.out.below⟩

theorem aroundX_any (p : Net) (h : Hd) (f a : Int) (w : World) (hp : NetR w w.heap.size p h) (hg : Good p) : Calls Try.prog 9 #[netV p h, .int .i64 f, .int .i64 a] w (AroundPost p.links f a w) := by
  have HA := Lib.hid (AtRight.begin hp)
  have HG := Lib.hid hg
  clear hp hg
  unfold netV netVal
  go_enter Try.func9, Try.ntmps9
  go_wp2_with fail
  refine (right_any p h _ HA.out.net HG.out.small HG.out.names).mono ?_
  rintro e w1 ⟨rfl, hb1⟩
  rw [HG.out.right]
  have HA1 := Lib.hid (HA.out.call hb1)
  obtain ⟨c0, c1, c2, c3, c4, c5, c6⟩ := HA1.out.all
  clear hb1
  go_wp2_with fail
  refine (around_any p.links f a _ _ _ _ _ _ _ _ _ HA1.out.net.links HG.out.small.links).mono ?_
  rintro e w3 ⟨A, c, rfl, hown, hb3⟩
  have HF : Hid (AroundPost p.links f a w (.returned (.slice A (arL p.links f a p.links.length).length c)) w3) := Lib.hid ⟨A, c, rfl, hown.more (by have := HA1.out.size; omega), (HA1.out.call hb3).below⟩
  clear hown hb3
  go_wp2
  go_ret
  exact HF.out

def othL (L : List Lk) (i n : Int) : Int := if 0 ≤ i then (match L[i.toNat]? with | some x => othV x.a x.b n | none => -1) else -1
theorem otherX_any (p : Net) (h : Hd) (i a : Int) (w : World) (hp : NetR w w.heap.size p h) (hg : Good p) : Calls Try.prog 11 #[netV p h, .int .i64 i, .int .i64 a] w fun e w' => e = .returned (.int .i64 (othL p.links i a)) ∧ Below w.heap.size w w' := by
  have HA := Lib.hid (AtRight.begin hp)
  have HG := Lib.hid hg
  clear hp hg
  unfold netV netVal
  by_cases h0 : 0 ≤ i
  · by_cases h1 : i < p.links.length
    · obtain ⟨i, rfl⟩ : ∃ k : Nat, i = k := ⟨i.toNat, by omega⟩
      obtain ⟨x, hx⟩ : ∃ x, p.links[i]? = some x := ⟨_, List.getElem?_eq_getElem (by omega)⟩
      have HN := Lib.hid (show othL p.links i a = othV x.a x.b a from by simp [othL, hx])
      have HX := Lib.hid hx
      clear hx
      go_enter Try.func11, Try.ntmps11
      go_wp2_with fail
      refine (right_any p h _ HA.out.net HG.out.small HG.out.names).mono ?_
      rintro e w1 ⟨rfl, hb1⟩
      rw [HG.out.right]
      have HA1 := Lib.hid (HA.out.call hb1)
      obtain ⟨c0, c1, c2, c3, c4, c5, c6⟩ := HA1.out.all
      clear hb1
      obtain ⟨b, o, e, hb, k0, k1, k2⟩ := HA1.out.net.links.link HX.out
      have HE := Lib.hid e
      rw [e] at c4
      clear e
      go_wp2_with fail
      refine (other_any x.a x.b x.cost a _).mono ?_
      rintro e w3 ⟨rfl, hb3⟩
      have HA2 := Lib.hid (HA1.out.call hb3)
      clear hb3
      go_wp2
      go_ret
      exact ⟨ret_int (by rw [HN.out]), HA2.out.below⟩
    · have HN := Lib.hid (show othL p.links i a = -1 from by unfold othL; rw [if_pos h0, List.getElem?_eq_none (by omega)])
      go_enter Try.func11, Try.ntmps11
      go_wp2_with fail
      refine (right_any p h _ HA.out.net HG.out.small HG.out.names).mono ?_
      rintro e w1 ⟨rfl, hb1⟩
      rw [HG.out.right]
      have HA1 := Lib.hid (HA.out.call hb1)
      obtain ⟨c0, c1, c2, c3, c4, c5, c6⟩ := HA1.out.all
      clear hb1
      go_wp2
      go_ret
      exact ⟨ret_int (by rw [HN.out]), HA1.out.below⟩
  · have HN := Lib.hid (show othL p.links i a = -1 from by unfold othL; rw [if_neg h0])
    go_enter Try.func11, Try.ntmps11
    go_wp2_with fail
    refine (right_any p h _ HA.out.net HG.out.small HG.out.names).mono ?_
    rintro e w1 ⟨rfl, hb1⟩
    rw [HG.out.right]
    have HA1 := Lib.hid (HA.out.call hb1)
    obtain ⟨c0, c1, c2, c3, c4, c5, c6⟩ := HA1.out.all
    clear hb1
    go_wp2
    go_ret
    exact ⟨ret_int (by rw [HN.out]), HA1.out.below⟩
end

section
theorem below_drewN {B : Nat} {a w : World} (h : Below B a w) (n : Nat) : Below B a (w.drewN n) := h.trans ⟨rfl, rfl, rfl, Nat.le_refl _, fun _ _ => rfl⟩
/-- With link i failed too. -/
def withB (f i : Int) : Int := bits BinOp.or IntKind.i64 f (IntKind.i64.wrap (2 ^ i.toNat))

/-- Behind an append to a row of the call's own. -/
theorem AtRight.grown {w : World} {p : Net} {h : Hd} {wx w' : World} {row : Option Nat} (a : AtRight w p h wx) (hp : NetR w w.heap.size p h) (hg : wx.grownBy w' row) (hr : ∀ g, row = some g → w.heap.size + 1 ≤ g) : AtRight w p h w' := by
  have hs := a.size
  have hgs := hg.size
  have hb : Below w.heap.size w w' := a.below.grown hg (by omega) (fun g hg => by have := hr g hg; omega)
  refine ⟨hb, by omega, fun i u hu => ?_, (hp.below hb (Nat.le_refl _)).more hb.size⟩
  rw [World.cell?_of_block (hg.block w.heap.size hs (fun e => by have := hr _ e.symm; omega))]
  exact a.cells i u hu
open Classical in
/-- Is link i a cut? -/
noncomputable def cutB (L : List Lk) (f : Int) (i : Nat) : Bool :=
  match L[i]? with
  | some x => decide (hasB f i = false ∧ ∀ k, ¬ Gr.Ball (Adj L (withB f i)) k x.a.toNat x.b.toNat)
  | none => false
noncomputable def cutL (L : List Lk) (f : Int) (k : Nat) : List Nat := (List.range k).filter (cutB L f)
theorem cutL_le (L : List Lk) (f : Int) (k : Nat) : (cutL L f k).length ≤ k := by
  have := List.length_filter_le (cutB L f) (List.range k)
  simpa [cutL] using this
theorem cutL_hit {L : List Lk} {f : Int} {k : Nat} (h : cutB L f k = true) : cutL L f (k + 1) = cutL L f k ++ [k] := by
  simp [cutL, List.range_succ, List.filter_append, h]
theorem cutL_miss {L : List Lk} {f : Int} {k : Nat} (h : cutB L f k = false) : cutL L f (k + 1) = cutL L f k := by
  simp [cutL, List.range_succ, List.filter_append, h]
theorem cut_hit_step {w2 : World} {L : List Lk} {f : Int} {k m : Nat} {A2 : Option Addr} {c2 B : Nat} (h : cutB L f k = true) (hm : m = (cutL L f k).length + 1)
    (hown2 : Own w2 B 3 1 A2 m c2 (nats (cutL L f k) ++ [Value.int .i64 (k : Int)])) :
    m = (cutL L f (k + 1)).length ∧ Own w2 B 3 1 A2 (cutL L f (k + 1)).length c2 (nats (cutL L f (k + 1))) := by
  have e : m = (cutL L f (k + 1)).length := by rw [cutL_hit h, hm]; simp
  subst e
  refine ⟨rfl, ?_⟩
  rw [← nats_snoc, ← cutL_hit h] at hown2
  exact hown2
theorem cutB_of {L : List Lk} {f : Int} {i : Nat} {x : Lk} {d : Int} (hx : L[i]? = some x) (hf : hasB f i = false) (hd : Gr.IsHops (Adj L (withB f i)) x.a.toNat x.b.toNat d) : cutB L f i = decide (d < 0) := by
  unfold cutB
  rw [hx]
  rcases hd with ⟨e, h⟩ | ⟨n, e, h, _⟩
  · have : d < 0 := by omega
    simp [hf, this, h]
  · have : ¬ d < 0 := by omega
    simp [this, hf]
    exact ⟨n, h⟩
theorem cutB_has {L : List Lk} {f : Int} {i : Nat} (hf : hasB f i = true) : cutB L f i = false := by
  unfold cutB
  split <;> simp [hf]

def CutsPost (L : List Lk) (f : Int) (w : World) (e : Ending) (w' : World) : Prop :=
  ∃ A c, e = .returned (.slice A (cutL L f L.length).length c) ∧ Own w' w.heap.size 3 1 A (cutL L f L.length).length c (nats (cutL L f L.length)) ∧ Below w.heap.size w w'

set_option maxRecDepth 100000 in
set_option maxHeartbeats 2000000 in
theorem cuts_any (p : Net) (h : Hd) (f : Int) (w : World) (hp : NetR w w.heap.size p h) (hg : Good p) : Calls Try.prog 17 #[netV p h, .int .i64 f] w (CutsPost p.links f w) := by
  have HA := Lib.hid (AtRight.begin hp)
  have HG := Lib.hid hg
  have HP := Lib.hid hp
  clear hp hg
  have h12 := HG.out.n12
  have h16 := HG.out.l16
  obtain ⟨i0, hi, hz0, hz1, hz2⟩ := info_parts Try.info_int
  unfold netV netVal
  go_enter Try.func17, Try.ntmps17
  go_wp2_with fail
  refine (right_any p h _ HA.out.net HG.out.small HG.out.names).mono ?_
  rintro e w1 ⟨rfl, hb1⟩
  rw [HG.out.right]
  have HA1 := (HA.out.call hb1)
  obtain ⟨c0, c1, c2, c3, c4, c5, c6⟩ := HA1.all
  clear hb1
  go_wp2_with fail
  go_loopw [4, 13] (fun v i wr => ∃ (k : Nat) (A' : Option Addr) (c' : Nat), k ≤ p.links.length ∧ i = .int .i64 k ∧ v = .slice A' (cutL p.links f k).length c' ∧ Own wr (w.heap.size + 1) 3 1 A' (cutL p.links f k).length c' (nats (cutL p.links f k)) ∧ AtRight w p h wr)
    (fun _ i _ => p.links.length - (intOf i).toNat)
  case atStart => exact ⟨0, none, 0, Nat.zero_le _, rfl, rfl, Own.nil _ _ _ _, HA1⟩
  case round =>
    clear HA1 c0 c1 c2 c3 c4 c5 c6
    obtain ⟨k, A', c', hk, rfl, rfl, hown, HA1⟩ := hrel
    have hle := cutL_le p.links f k
    by_cases hlt : k < p.links.length
    · obtain ⟨⟨xa, xb, xc⟩, hx⟩ : ∃ x, p.links[k]? = some x := ⟨_, List.getElem?_eq_getElem (by omega)⟩
      have hok := HG.out.lksOk _ (List.mem_of_getElem? hx)
      dsimp only at hok
      obtain ⟨a, rfl⟩ : ∃ n : Nat, xa = n := ⟨xa.toNat, by omega⟩
      obtain ⟨e, rfl⟩ : ∃ n : Nat, xb = n := ⟨xb.toNat, by omega⟩
      obtain ⟨b, o, ee, hb, k0, k1, k2⟩ := HA1.net.links.link hx
      have HE := Lib.hid ee
      have HX := Lib.hid hx
      have HA2 := HA1.call ((Below.refl wr.heap.size wr).alloc (Nat.le_refl _) (.cells #[.int .i64 a, .int .i64 e, .int .i64 xc] 44))
      dsimp only at k0 k1 k2
      rw [ee]
      clear hx ee
      by_cases hf : hasB f k = true
      · obtain ⟨c0, c1, c2, c3, c4, c5, c6⟩ := HA1.all
        rw [HE.out] at c4
        have HM := Lib.hid (cutL_miss (cutB_has (L := p.links) hf))
        have hhas : ∀ w, Calls Try.prog 27 #[.int .i64 f, .int .i64 k] w fun e w' => e = .returned (.bool true) ∧ w' = w := fun w => (has_any f k w).mono fun e w' ⟨h1, h2⟩ => ⟨by rw [h1, hf], h2.symm⟩
        go_wp2_with fail
        go_quiet (first | (go_at_call 27; refine Calls.quiet_of_same (hhas _)))
        go_wp2
        go_roundw
        case rel => exact ⟨k + 1, A', c', by omega, by go_num, by rw [HM.out], by rw [HM.out]; exact (hown.alloc _).drewN _, HA2.call (below_drewN (Below.refl _ _) _)⟩
        case measure => simp [intOf]; omega
      · replace hf : hasB f k = false := by simpa using hf
        have ha12 : a < 12 := by omega
        have he12 : e < 12 := by omega
        have haN : a < p.nodes.length := by omega
        obtain ⟨c0, c1, c2, c3, c4, c5, c6⟩ := HA2.all
        rw [HE.out] at c4
        have v0 : (wr.alloc (.cells #[.int .i64 a, .int .i64 e, .int .i64 xc] 44)).cell? ⟨wr.heap.size, 0, none⟩ = some (.int .i64 a) := by rw [World.cell?_alloc_new]; rfl
        have v1 : (wr.alloc (.cells #[.int .i64 a, .int .i64 e, .int .i64 xc] 44)).cell? ⟨wr.heap.size, 1, none⟩ = some (.int .i64 e) := by rw [World.cell?_alloc_new]; rfl
        have HC := Lib.hid (fun (wy : World) (hy : Below (wr.alloc (.cells #[.int .i64 a, .int .i64 e, .int .i64 xc] 44)).heap.size (wr.alloc (.cells #[.int .i64 a, .int .i64 e, .int .i64 xc] 44)) wy) => (HA2.call hy).all)
        have HV := Lib.hid (fun (wy : World) (hy : Below (wr.alloc (.cells #[.int .i64 a, .int .i64 e, .int .i64 xc] 44)).heap.size (wr.alloc (.cells #[.int .i64 a, .int .i64 e, .int .i64 xc] 44)) wy) => And.intro ((hy.cell (p := ⟨wr.heap.size, 0, none⟩) (by simp)).trans v0) ((hy.cell (p := ⟨wr.heap.size, 1, none⟩) (by simp)).trans v1))
        have HL := Lib.hid (fun (wy : World) (hy : Below (wr.alloc (.cells #[.int .i64 a, .int .i64 e, .int .i64 xc] 44)).heap.size (wr.alloc (.cells #[.int .i64 a, .int .i64 e, .int .i64 xc] 44)) wy) => from_any p.links (withB f k) a p.nodes.length h12.2 haN HG.out.lksOk wy (.int .i64 p.proto) (.int .i64 p.cap) (.int .i64 p.k) (.slice h.an p.nodes.length h.cn) (.slice h.ad p.dests.length h.cd) (.slice h.ac p.checks.length h.cc) h.al h.cl (HA2.call hy).net.links HG.out.small.links)
        rw [HE.out] at HL
        have hrun : ∀ (d : Nat → Int) (w : World), _ := fun d w => run_far d he12 w
        clear HA1
        go_wp2_with fail
        clear k0 k1 k2
        go_region_held3 (fun wx => wx.cell? ⟨w.heap.size, 0, none⟩ = some (.int .i64 p.proto) ∧ wx.cell? ⟨w.heap.size, 1, none⟩ = some (.int .i64 p.cap) ∧ wx.cell? ⟨w.heap.size, 2, none⟩ = some (.int .i64 p.k) ∧ wx.cell? ⟨w.heap.size, 3, none⟩ = some (.slice h.an p.nodes.length h.cn) ∧ wx.cell? ⟨w.heap.size, 4, none⟩ = some (.slice (some ⟨b, o, none⟩) p.links.length h.cl) ∧ wx.cell? ⟨w.heap.size, 5, none⟩ = some (.slice h.ad p.dests.length h.cd) ∧ wx.cell? ⟨w.heap.size, 6, none⟩ = some (.slice h.ac p.checks.length h.cc)
            ∧ wx.cell? ⟨wr.heap.size, 0, none⟩ = some (.int .i64 a) ∧ wx.cell? ⟨wr.heap.size, 1, none⟩ = some (.int .i64 e)) (first | exact ⟨c0, c1, c2, c3, c4, c5, c6, v0, v1⟩ | exact ⟨z0, z1, z2, z3, z4, z5, z6, y0, y1⟩) (first
          | (go_at_call 27; refine (has_any _ _ _).mono ?_; rintro e w3 ⟨rfl, rfl⟩; rw [hf])
          | (go_at_call 26; refine (HL.out _ ((Below.refl _ _).drew)).mono ?_; rintro e w4 ⟨d, rfl, hd, hdN, hb4⟩; (have hb5 := (Below.refl _ _).drew.trans hb4); obtain ⟨z0, z1, z2, z3, z4, z5, z6⟩ := HC.out _ hb5; obtain ⟨y0, y1⟩ := HV.out _ hb5; rw [HE.out] at z4))
        have HA4 := HA2.call hb5
        have HB := Lib.hid (cutB_of HX.out hf (hd e))
        have hown4 := (hown.alloc (.cells #[.int .i64 a, .int .i64 e, .int .i64 xc] 44)).call hb5
        have hs4 := HA4.size
        clear hrun hd hdN hb4 hb5 hown z0 z1 z2 z3 z4 z5 z6 y0 y1 c0 c1 c2 c3 c4 c5 c6 v0 v1
        by_cases hde : d e < 0
        · have HM : Hid (cutB p.links f k = true) := Lib.hid (by rw [HB.out]; simpa using hde)
          go_wp2_with (at_builtin; refine wpList_app _ rfl _ _ 22 rfl (w.heap.size + 1) 3 i0 (.int .i64 0) 1 8 Try.underlying22 hi hz0 hz1 hz2 rfl (by decide) _ _ _ (nats (cutL p.links f k)) rfl (by exact hown4.alloc _) _ 1 _ [.int .i64 k] rfl (Rd.new (by simp) rfl) (by intro u hu; simp at hu; subst hu; rfl) (by unfold maxLen; omega) (by omega) (by simp; omega) ?_; intro A2 c2 w2 hown2 hgrow2 hblk2 _)
          have R := cut_hit_step HM.out rfl hown2
          have HA5 := (HA4.call ((Below.refl _ _).alloc (Nat.le_refl _) _)).grown HP.out hgrow2 hown4.from_
          go_roundw
          case rel => exact ⟨k + 1, A2, c2, by omega, by go_num, by rw [← R.1], R.2, HA5⟩
          case measure => simp [intOf]; omega
        · have HM : Hid (cutB p.links f k = false) := Lib.hid (by rw [HB.out]; simpa using hde)
          go_wp2
          go_roundw
          case rel => exact ⟨k + 1, A', c', by omega, by go_num, by rw [cutL_miss HM.out], by rw [cutL_miss HM.out]; exact hown4, HA4⟩
          case measure => simp [intOf]; omega
    · have hk' : k = p.links.length := by omega
      have hfin : CutsPost p.links f w (.returned (.slice A' (cutL p.links f k).length c')) wr := by
        subst hk'
        exact ⟨A', c', rfl, hown.more (by omega), HA1.below⟩
      have HF := Lib.hid hfin
      clear hk' hfin
      go_wp2
      go_ret
      exact HF.out
end

section
namespace Gr
section
variable {R R' : Nat → Nat → Prop} {a b c N : Nat} {h h' : Int}
theorem IsHops.uniq (x : IsHops R a b h) (y : IsHops R a b h') : h = h' := by
  rcases x with ⟨rfl, x⟩ | ⟨n, rfl, x, x'⟩ <;> rcases y with ⟨rfl, y⟩ | ⟨m, rfl, y, y'⟩
  · rfl
  · exact absurd y (x _)
  · exact absurd x (y _)
  · have := x' _ y; have := y' _ x; omega
theorem IsHops.symm (hs : ∀ u v, R u v → R v u) (x : IsHops R a b h) : IsHops R b a h := by
  rcases x with ⟨rfl, x⟩ | ⟨n, rfl, x, x'⟩
  · exact .inl ⟨rfl, fun k hk => x k (hk.symm hs)⟩
  · exact .inr ⟨n, rfl, x.symm hs, fun k hk => x' k (hk.symm hs)⟩
theorem IsHops.zero (x : IsHops R a b h) : h = 0 ↔ a = b := by
  rcases x with ⟨rfl, x⟩ | ⟨n, rfl, x, x'⟩
  · refine ⟨fun e => by omega, ?_⟩
    rintro rfl
    exact absurd (show Ball R 0 a a from rfl) (x 0)
  · constructor
    · intro e
      have : n = 0 := by omega
      subst this
      exact x
    · rintro rfl
      have := x' 0 rfl
      omega
theorem IsHops.joined (x : IsHops R a b h) : 0 ≤ h ↔ ∃ k, Ball R k a b := by
  rcases x with ⟨rfl, x⟩ | ⟨n, rfl, x, x'⟩
  · exact ⟨fun e => by omega, fun ⟨k, hk⟩ => absurd hk (x k)⟩
  · exact ⟨fun _ => ⟨n, x⟩, fun _ => by omega⟩
theorem IsHops.low (x : IsHops R a b h) : -1 ≤ h := by
  rcases x with ⟨rfl, _⟩ | ⟨n, rfl, _, _⟩ <;> omega
theorem IsHops.tri {ab bc ac : Int} (x : IsHops R a b ab) (y : IsHops R b c bc) (z : IsHops R a c ac) : ab < 0 ∨ bc < 0 ∨ (0 ≤ ac ∧ ac ≤ ab + bc) := by
  rcases x with ⟨rfl, x⟩ | ⟨n, rfl, x, x'⟩
  · left; omega
  rcases y with ⟨rfl, y⟩ | ⟨m, rfl, y, y'⟩
  · right; left; omega
  right; right
  rcases z with ⟨rfl, z⟩ | ⟨k, rfl, z, z'⟩
  · exact absurd (x.trans y) (z _)
  · have := z' _ (x.trans y); omega
theorem IsHops.sub {near far : Int} (hR : ∀ u v, R u v → R' u v) (x : IsHops R a b far) (y : IsHops R' a b near) : far < 0 ∨ (0 ≤ near ∧ near ≤ far) := by
  rcases x with ⟨rfl, x⟩ | ⟨n, rfl, x, x'⟩
  · left; omega
  right
  rcases y with ⟨rfl, y⟩ | ⟨m, rfl, y, y'⟩
  · exact absurd (x.sub hR) (y _)
  · have := y' _ (x.sub hR); omega

/-- The nearest of some neighbours, and one more; -1: none of them is joined. -/
def bestStep (best k : Int) : Int := if 0 ≤ k ∧ (best < 0 ∨ k + 1 < best) then k + 1 else best
theorem best_spec (l : List Int) : ((l.foldl bestStep (-1) = -1) ∧ ∀ k ∈ l, k < 0) ∨ (∃ k ∈ l, 0 ≤ k ∧ l.foldl bestStep (-1) = k + 1 ∧ ∀ k' ∈ l, 0 ≤ k' → k ≤ k') := by
  have key : ∀ (l : List Int) (best : Int), -1 ≤ best →
      (l.foldl bestStep best = best ∧ ∀ k ∈ l, 0 ≤ k → 0 ≤ best ∧ best ≤ k + 1) ∨ (∃ k ∈ l, 0 ≤ k ∧ (best < 0 ∨ k + 1 < best) ∧ l.foldl bestStep best = k + 1 ∧ ∀ k' ∈ l, 0 ≤ k' → k ≤ k') := by
    intro l
    induction l with
    | nil => intro best _; exact .inl ⟨rfl, by simp⟩
    | cons x l ih =>
      intro best hb
      simp only [List.foldl_cons]
      by_cases hx : 0 ≤ x ∧ (best < 0 ∨ x + 1 < best)
      · have e : bestStep best x = x + 1 := by unfold bestStep; rw [if_pos hx]
        rw [e]
        right
        rcases ih (x + 1) (by omega) with ⟨h1, h2⟩ | ⟨k, hk, h0, h1, h2, h3⟩
        · refine ⟨x, by simp, hx.1, hx.2, h1, ?_⟩
          intro k' hk' h0
          rcases List.mem_cons.1 hk' with rfl | hk'
          · omega
          · have := h2 k' hk' h0; omega
        · refine ⟨k, by simp [hk], h0, ?_, h2, ?_⟩
          · rcases hx.2 with h | h
            · exact .inl h
            · right; rcases h1 with h1 | h1 <;> omega
          · intro k' hk' h0'
            rcases List.mem_cons.1 hk' with rfl | hk'
            · rcases h1 with h1 | h1 <;> omega
            · exact h3 k' hk' h0'
      · have e : bestStep best x = best := by unfold bestStep; rw [if_neg hx]
        rw [e]
        rcases ih best hb with ⟨h1, h2⟩ | ⟨k, hk, h0, h1, h2, h3⟩
        · left
          refine ⟨h1, ?_⟩
          intro k hk h0
          rcases List.mem_cons.1 hk with rfl | hk
          · omega
          · exact h2 k hk h0
        · right
          refine ⟨k, by simp [hk], h0, h1, h2, ?_⟩
          intro k' hk' h0'
          rcases List.mem_cons.1 hk' with rfl | hk'
          · omega
          · exact h3 k' hk' h0'
  rcases key l (-1) (by omega) with ⟨h1, h2⟩ | ⟨k, hk, h0, h1, h2, h3⟩
  · left
    refine ⟨h1, fun k hk => ?_⟩
    by_cases h0 : 0 ≤ k
    · have := h2 k hk h0; omega
    · omega
  · exact .inr ⟨k, hk, h0, h2, h3⟩
/-- A node is one further than the nearest of its neighbours. -/
theorem IsHops.steps {near : List Int} {nb : List Nat} {d : Nat → Int} (hab : a ≠ b) (hd : ∀ u, IsHops R a u (d u)) (hn : near = nb.map d) (hnb : ∀ u, u ∈ nb ↔ R u b) : IsHops R a b (near.foldl bestStep (-1)) := by
  subst hn
  have hk : ∀ k, Ball R k a b → ∃ u j, u ∈ nb ∧ Ball R j a u ∧ j + 1 ≤ k := by
    intro k
    induction k with
    | zero => intro h; exact absurd h hab
    | succ k ih =>
      intro h
      rcases h with h | ⟨u, h, hr⟩
      · obtain ⟨u, j, h1, h2, h3⟩ := ih h
        exact ⟨u, j, h1, h2, by omega⟩
      · exact ⟨u, k, (hnb u).2 hr, h, Nat.le_refl _⟩
  rcases best_spec (nb.map d) with ⟨h1, h2⟩ | ⟨k, hkm, h0, h1, h2⟩
  · rw [h1]
    refine .inl ⟨rfl, fun k hb => ?_⟩
    obtain ⟨u, j, hu, hj, _⟩ := hk k hb
    have := h2 (d u) (List.mem_map.2 ⟨u, hu, rfl⟩)
    have := (hd u).joined.2 ⟨j, hj⟩
    omega
  · rw [h1]
    obtain ⟨u, hu, rfl⟩ := List.mem_map.1 hkm
    have hr := (hnb u).1 hu
    rcases hd u with ⟨e, _⟩ | ⟨n, e, hb, _⟩
    · omega
    rw [e]
    refine .inr ⟨n + 1, by omega, hb.step hr, fun k hb' => ?_⟩
    obtain ⟨u', j, hu', hj, hjk⟩ := hk k hb'
    have h3 := h2 (d u') (List.mem_map.2 ⟨u', hu', rfl⟩) ((hd u').joined.2 ⟨j, hj⟩)
    rcases hd u' with ⟨e', h'⟩ | ⟨n', e', _, hm⟩
    · exact absurd hj (h' j)
    · have := hm j hj; omega
end
theorem sorted_ext : ∀ {l m : List Nat}, l.Pairwise (· < ·) → m.Pairwise (· < ·) → (∀ v, v ∈ l ↔ v ∈ m) → l = m
  | [], [], _, _, _ => rfl
  | [], y :: m, _, _, h => absurd ((h y).2 (by simp)) (by simp)
  | x :: l, [], _, _, h => absurd ((h x).1 (by simp)) (by simp)
  | x :: l, y :: m, hl, hm, h => by
    obtain ⟨hx, hl1⟩ := List.pairwise_cons.1 hl
    obtain ⟨hy, hm1⟩ := List.pairwise_cons.1 hm
    have e : x = y := by
      have h1 := (h x).1 (by simp)
      have h2 := (h y).2 (by simp)
      rcases List.mem_cons.1 h1 with e | h1
      · exact e
      rcases List.mem_cons.1 h2 with e | h2
      · exact e.symm
      have := hy x h1; have := hx y h2; omega
    subst e
    refine congrArg (x :: ·) (sorted_ext hl1 hm1 fun v => ⟨fun hv => ?_, fun hv => ?_⟩)
    · rcases List.mem_cons.1 ((h v).1 (List.mem_cons_of_mem _ hv)) with e | h'
      · subst e; have := hx v hv; omega
      · exact h'
    · rcases List.mem_cons.1 ((h v).2 (List.mem_cons_of_mem _ hv)) with e | h'
      · subst e; have := hy v hv; omega
      · exact h'
end Gr

section
variable {R R' : Nat → Nat → Prop} {N a b : Nat} {l m : List Nat}
theorem IsReach.ext (hl : IsReach R N a l) (hm : IsReach R' N b m) (h : ∀ v, (∃ k, Gr.Ball R k a v) ↔ ∃ k, Gr.Ball R' k b v) : l = m :=
  Gr.sorted_ext hl.1 hm.1 fun v => (hl.2.1 v).trans ((h v).trans (hm.2.1 v).symm)
theorem IsReach.filter (hl : IsReach R N a l) : l = (List.range N).filter fun v => decide (v ∈ l) :=
  Gr.sorted_ext hl.1 (List.Pairwise.filter _ List.pairwise_lt_range) fun v => by
    rw [List.mem_filter]
    constructor
    · intro h; exact ⟨List.mem_range.2 (hl.2.2 v h), by simpa using h⟩
    · rintro ⟨_, h⟩; simpa using h
theorem IsReach.fewer (hl : IsReach R N a l) (hm : IsReach R' N b m) (h : ∀ v, v ∈ l → v ∈ m) : l.length ≤ m.length := by
  rw [hl.filter, hm.filter, ← List.countP_eq_length_filter, ← List.countP_eq_length_filter]
  exact List.countP_mono_left fun v _ hv => by simp at hv ⊢; exact h v hv
theorem IsReach.self (hl : IsReach R N a l) : a ∈ l := (hl.2.1 a).2 ⟨0, rfl⟩
theorem IsReach.len (hl : IsReach R N a l) : 1 ≤ l.length := List.length_pos_of_mem hl.self
end

theorem Adj.symm {L : List Lk} {f : Int} : ∀ u v, Adj L f u v → Adj L f v u := by
  rintro u v ⟨i, x, hx, hf, h⟩
  exact ⟨i, x, hx, hf, h.symm.imp (fun h => ⟨h.2, h.1⟩) (fun h => ⟨h.2, h.1⟩)⟩
theorem Adj.sub {L : List Lk} {f g : Int} (hfg : ∀ i : Nat, hasB f i = true → hasB g i = true) : ∀ u v, Adj L g u v → Adj L f u v := by
  rintro u v ⟨i, x, hx, hg, h⟩
  refine ⟨i, x, hx, ?_, h⟩
  cases hf : hasB f i with
  | false => rfl
  | true => rw [hfg i hf] at hg; cases hg
theorem arL_fewer {L : List Lk} {f g n : Int} {k : Nat} (hfg : ∀ i : Nat, hasB f i = true → hasB g i = true) : (arL L g n k).length ≤ (arL L f n k).length := by
  unfold arL
  rw [← List.countP_eq_length_filter, ← List.countP_eq_length_filter]
  refine List.countP_mono_left fun i _ hi => ?_
  unfold isAr at hi ⊢
  split
  · rename_i x hx
    rw [hx] at hi
    simp only [Bool.and_eq_true, Bool.not_eq_true'] at hi ⊢
    refine ⟨?_, hi.2⟩
    cases hf : hasB f i with
    | false => rfl
    | true => rw [hfg i hf] at hi; cases hi.1
  · rename_i hx
    rw [hx] at hi
    exact hi
theorem IsReach.joins {R : Nat → Nat → Prop} (hs : ∀ u v, R u v → R v u) {N a b v : Nat} {l m : List Nat} (hl : IsReach R N a l) (hm : IsReach R N b m) (h1 : v ∈ l) (h2 : v ∈ m) : l = m := by
  obtain ⟨i, hi⟩ := (hl.2.1 v).1 h1
  obtain ⟨j, hj⟩ := (hm.2.1 v).1 h2
  refine hl.ext hm fun u => ⟨?_, ?_⟩
  · rintro ⟨k, hk⟩
    exact ⟨_, (hj.trans (hi.symm hs)).trans hk⟩
  · rintro ⟨k, hk⟩
    exact ⟨_, (hi.trans (hj.symm hs)).trans hk⟩

/-! ### Sets of links -/
theorem hasB_bit (f : Int) {k : Nat} (hk : k < 16) : hasB f k = (BitVec.ofInt 64 f).getLsbD k := by
  rw [← BitVec.testBit_toNat, Nat.testBit_eq_decide_div_mod_eq, BitVec.toNat_ofInt]
  unfold hasB
  have h1 : decide ((0 : Int) ≤ (k : Int) ∧ (k : Int) < 16) = true := by simp; omega
  rw [h1, Bool.true_and]
  have h : k = 0 ∨ k = 1 ∨ k = 2 ∨ k = 3 ∨ k = 4 ∨ k = 5 ∨ k = 6 ∨ k = 7 ∨ k = 8 ∨ k = 9 ∨ k = 10 ∨ k = 11 ∨ k = 12 ∨ k = 13 ∨ k = 14 ∨ k = 15 := by omega
  rcases h with rfl | rfl | rfl | rfl | rfl | rfl | rfl | rfl | rfl | rfl | rfl | rfl | rfl | rfl | rfl | rfl <;>
    (rw [decide_eq_decide]; simp; omega)
theorem hasB_out (f : Int) {k : Nat} (hk : 16 ≤ k) : hasB f k = false := by
  unfold hasB
  have h1 : decide ((0 : Int) ≤ (k : Int) ∧ (k : Int) < 16) = false := by simp; omega
  rw [h1, Bool.false_and]
theorem hasB_or (f g : Int) (k : Nat) : hasB (bits BinOp.or IntKind.i64 f g) k = (hasB f k || hasB g k) := by
  by_cases hk : k < 16
  · have e : BitVec.ofInt 64 (bits BinOp.or IntKind.i64 f g) = BitVec.ofInt 64 f ||| BitVec.ofInt 64 g := by
      show BitVec.ofInt 64 (IntKind.i64.wrap ((BitVec.ofInt 64 f ||| BitVec.ofInt 64 g).toNat : Int)) = _
      apply BitVec.eq_of_toNat_eq
      rw [BitVec.toNat_ofInt, IntKind.wrap_i64]
      have := (BitVec.ofInt 64 f ||| BitVec.ofInt 64 g).isLt
      omega
    rw [hasB_bit _ hk, hasB_bit _ hk, hasB_bit _ hk, e, BitVec.getLsbD_or]
  · rw [hasB_out _ (by omega), hasB_out _ (by omega), hasB_out _ (by omega)]; rfl
theorem hasB_two {i k : Nat} (hi : i < 16) : hasB (2 ^ i : Int) k = decide (k = i) := by
  by_cases hk : k < 16
  · have h : ∀ i k : Fin 16, (BitVec.ofInt 64 (2 ^ i.val : Int)).getLsbD k.val = decide (k.val = i.val) := by decide
    rw [hasB_bit _ hk]
    exact h ⟨i, hi⟩ ⟨k, hk⟩
  · rw [hasB_out _ (by omega)]; simp; omega
theorem hasB_with (f : Int) {i k : Nat} (hi : i < 16) : hasB (withB f i) k = (hasB f k || decide (k = i)) := by
  unfold withB
  have e : IntKind.i64.wrap (2 ^ ((i : Int)).toNat) = 2 ^ i := by
    have h : ∀ i : Fin 16, IntKind.i64.wrap (2 ^ ((i.val : Int)).toNat) = 2 ^ i.val := by decide
    exact h ⟨i, hi⟩
  rw [e, hasB_or, hasB_two hi]
end
end Go.Proofs.Ytidmpfenkgihjaa

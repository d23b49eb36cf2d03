/- The walk of (short.walker).on: all ways that go on from some nodes are yielded, one by one. -/
import Derived.Test.YtlnnmjomdblciaaGreatShortW
import Derived.Test.YtlnnmjomdblciaaGreatContains
import Derived.RangeFuncNested
import Derived.RangeFuncBound
import Derived.RangeFuncCalls
import Derived.RangeFuncLeaves
import Derived.RangeFuncKeeps
import Derived.Shelf.Abstract
import Derived.Shelf.RegionOpen
import Derived.OwnWalkIn
import Derived.TacticsInMore
import Derived.LoopNIn
import Derived.LoopIn
namespace Go.Proofs.YtlnnmjomdblciaaGreat
set_option linter.unusedSimpArgs false
set_option linter.unusedVariables false
open Go.RowKit

section
/-- What a round of the caller's keeps: what lay below n0, and every list of numbers, every walker. -/
structure KeepT (n0 : Nat) (W W' : World) : Prop where
  below : Below n0 W W'
  size : W.heap.size ≤ W'.heap.size
  same : ∀ (k : Nat) (cs : Array Value) (t : TypeId) (fr : Nat × Nat), W.heap[k]? = some (.cells cs t fr) → (t = 3 ∨ t = 93) → W'.heap[k]? = W.heap[k]?
section
variable {n0 : Nat} {W W' W2 : World}
theorem KeepT.refl (n0 : Nat) (W : World) : KeepT n0 W W := ⟨Below.refl _ _, Nat.le_refl _, fun _ _ _ _ _ _ => rfl⟩
theorem KeepT.trans (a : KeepT n0 W W') (b : KeepT n0 W' W2) : KeepT n0 W W2 :=
  ⟨a.below.trans b.below, Nat.le_trans a.size b.size, fun k cs t fr h ht => (b.same k cs t fr ((a.same k cs t fr h ht).trans h) ht).trans (a.same k cs t fr h ht)⟩
theorem KeepT.of (h : n0 ≤ W.heap.size) (hb : Below W.heap.size W W') : KeepT n0 W W' := ⟨hb.mono h, hb.size, fun k _ _ _ hk _ => hb.block k (lt_heap hk)⟩
theorem KeepT.call (a : KeepT n0 W W') (h : n0 ≤ W.heap.size) (hb : Below W'.heap.size W' W2) : KeepT n0 W W2 := a.trans (KeepT.of (Nat.le_trans h a.size) hb)
theorem KeepT.alloc (a : KeepT n0 W W') (h : n0 ≤ W.heap.size) (o : Obj) : KeepT n0 W (W'.alloc o) := a.call h ((Below.refl _ _).alloc (Nat.le_refl _) o)
theorem Own.keepT {B s n c : Nat} {A : Option Addr} {xs : List Value} (h : Own W B 3 s A n c xs) (a : KeepT n0 W W') : Own W' B 3 s A n c xs := by
  obtain ⟨h1, h2, h3, h4, hb, h5⟩ := h
  refine ⟨h1, h2, h3, h4, hb, fun hc => ?_⟩
  obtain ⟨g, off, cur, rfl, hh, r⟩ := h5 hc
  exact ⟨g, off, cur, rfl, (a.same g cur _ _ hh (.inl rfl)).trans hh, r⟩
theorem Own.capped {B e s n c : Nat} {A : Option Addr} {xs : List Value} (h : Own W B e s A n c xs) (hn : 0 < n) : Own W B e s A n n xs := by
  obtain ⟨h1, h2, h3, h4, hb, h5⟩ := h
  refine ⟨h1, Nat.le_refl _, Nat.le_trans h2 h3, fun e => by have := h4 e; omega, hb, fun hc => ?_⟩
  obtain ⟨g, off, cur, rfl, hh, hs, hx⟩ := h5 (by omega)
  exact ⟨g, off, cur, rfl, hh, by have := Nat.mul_le_mul_right s h2; omega, hx⟩
end
/-- append to a full list: the longer one lies in a block of its own. -/
theorem step_grow {P : Program} (w : World) {ops : Array Oper} {o : Oper} {a : Act} {K : Act → World → Prop} {Q : Exit → Act → World → Prop} {E : Prop} (hw : Region.wanted o (yielded ops a.tmps) = true) (s x : Operand) (t : TypeId)
    (ho : o.op = .call { callee := .builtin .append, args := #[s, x], argTypes := #[t, t] })
    (e : TypeId) (i : TypeInfo) (z : Value) (size bytes : Nat) (ht : P.underlying t = some (.slice e)) (hi : P.info? e = some i) (hz : i.zero = some z)
    (hsize : i.size = size) (hby : i.bytes = bytes) (hzs : z.cells.size = size) (hsz : 0 < size)
    (A : Option Addr) (n B : Nat) (xs : List Value) (hs : a.eval s = .slice A n n) (hn : 0 < n) (hr0 : Rd w B size A n xs)
    (AD : Option Addr) (m cx C : Nat) (news : List Value) (hx : a.eval x = .slice AD m cx) (hm : 0 < m) (hr : Rd w C size AD m news)
    (h63 : n + m ≤ maxLen) (hbytes : (n + m) * bytes ≤ 140737488355328)
    (h : ∀ A' c' w', Own w' w.heap.size e size A' (n + m) c' (xs ++ news) → Below w.heap.size w w' → K (a.put o.dst (.slice A' (n + m) c')) w') :
    if Region.wanted o (yielded ops a.tmps) = true then Oper.wp P o a w K Q else E := by
  rw [if_pos hw]
  obtain ⟨b0, o0, rfl, _, hc0⟩ := hr0.2 hn
  obtain ⟨b1, o1, rfl, _, hc1⟩ := hr.2 hm
  obtain ⟨v', w', hrun, hrow, hgr⟩ := run_append_arg_grows (P := P) w t o.type e i z size bytes ht hi hz hsize hby hzs hsz ⟨b0, o0, none⟩ n n xs hr0.1 (fun j u hu => by rw [Addr.add_lit]; exact hc0 j u hu) ⟨b1, o1, none⟩ m cx news hr.1 (fun j u hu => by rw [Addr.add_lit]; exact hc1 j u hu) (by omega) h63 hbytes
  obtain ⟨A', c', rfl, hO, _⟩ := Own.of_row hrow
  unfold Oper.wp execOp
  simp only [ho, resolve, invoke, builtin, Sem.run_bind, Sem.run_pure, Result.andThen_ok, List.map_toArray, List.map_cons, List.map_nil, hs, hx, hrun]
  exact h A' c' w' hO ((Below.refl _ _).grown hgr (Nat.le_refl _) (fun g hg => by cases hg))
theorem int_nats (l : List Nat) : nats l = ints (l.map fun (v : Nat) => (v : Int)) := (ints_nats l).symm
theorem mem_cast (l : List Nat) (v : Nat) : decide ((v : Int) ∈ l.map fun (x : Nat) => (x : Int)) = decide (v ∈ l) := by
  rw [Bool.eq_iff_iff, decide_eq_true_eq, decide_eq_true_eq]
  constructor
  · intro h
    obtain ⟨x, hx, e⟩ := List.mem_map.1 h
    have : x = v := by omega
    subst this; exact hx
  · intro h; exact List.mem_map.2 ⟨v, h, rfl⟩
/-- What 'on' answers: all ways have been yielded. -/
def OnPost (n0 : Nat) (J : List (List Nat) → World → Prop) (L : List (List Nat)) (W : World) (e : Ending) (W' : World) : Prop := e = .returned (.bool true) ∧ J L W' ∧ KeepT n0 W W'
attribute [local go_sem] Oper.semAt_some
attribute [local go_sem ↓] Go.wp_at_zero Go.wp_at_succ
/-- What the walks of 'on' are told. -/
structure OnCtx (p : Net) (h : Hd) (w0 : World) (n0 l N : Nat) (Qk : List Nat → Prop) (J : List (List Nat) → World → Prop) : Prop where
  good : Good p
  net : NetR w0 n0 p h
  lo : n0 ≤ w0.heap.size
  keep : ∀ L W W', J L W → Below W.heap.size W W' → J L W'
  base : ∀ L W, J L W → Below n0 w0 W
  yield : ∀ (L : List (List Nat)) (q : List Nat) (A : Option Addr) (c : Nat) (W : World), J L W → L.length < N → Qk q → q.length ≤ 12 → q ≠ [] → Own W n0 3 1 A q.length c (nats q) →
      YieldAt Fence.wide 2 Tryz.prog l #[.slice A q.length c] W (OnPost n0 J (L ++ [q]) W)
set_option maxRecDepth 100000 in
set_option maxHeartbeats 4000000 in
theorem on_end {p : Net} {h : Hd} {w0 : World} {n0 l N : Nat} {Qk : List Nat → Prop} {J : List (List Nat) → World → Prop} (X : OnCtx p h w0 n0 l N Qk J) (f : Int) (b : Nat) (pre : List Nat) (A : Option Addr) (c : Nat) (L : List (List Nat)) (W : World) (hLN : L.length < N) (hQk : Qk (pre ++ [b])) (hlen : (pre ++ [b]).length ≤ 12)
    (how : Own W n0 3 1 A (pre.length + 1) c (nats (pre ++ [b]))) (hjl : J L W) :
    Calls Tryz.prog 93 #[wkV p h f (b : Int), .slice A (pre.length + 1) c, .func (.yield l) #[] #[]] W (OnPost n0 J (L ++ [pre ++ [b]]) W) := by
  have XX := Lib.hid X
  have h0W := Nat.le_trans X.lo (X.base _ _ hjl).size
  have W0 := Lib.hid (WK.begin W p h f b)
  have hbel := (Below.refl W.heap.size W).alloc (Nat.le_refl _) (.cells (wkCells p h f b) 93)
  have K0 := Lib.hid (KeepT.of h0W hbel)
  have O0 := Lib.hid (how.alloc (.cells (wkCells p h f b) 93))
  have J0 := Lib.hid (X.keep _ _ _ hjl hbel)
  obtain ⟨bb, oo, rfl, hbb, hlast⟩ := O0.out.rd.one (i := pre.length) (x := .int .i64 (b : Int)) (by simp [nats])
  clear X how hjl hbel
  unfold wkV wkCells
  go_enter Tryz.func93, Tryz.ntmps93
  go_upto_region 1 with fail
  unfold wkCells at W0 K0 O0 J0 hlast
  generalize (W.alloc (.cells #[.int .i64 p.proto, .int .i64 p.cap, .int .i64 p.k, .slice h.an p.nodes.length h.cn, .slice h.al p.links.length h.cl, .slice h.ad p.dests.length h.cd, .slice h.ac p.checks.length h.cc, .int .i64 f, .int .i64 b] 93)) = W1 at *
  obtain ⟨-, -, g8⟩ := WK.all (p := p) (h := h) (f := f) (gl := b) (w0 := W) (wr := W1) (b := W.heap.size) W0.out
  have hi1 : wrap64 (pre.length : Int) = pre.length := by simp at hlen; unfold wrap64; omega
  have hi2 : (0 : Int) ≤ (pre.length : Int) := by omega
  have hi3 : (pre.length : Int) < (pre.length : Int) + 1 := by omega
  have hb : ((b : Int) == (b : Int)) = true := by simp
  have HLN := Lib.hid hlen
  have HQK := Lib.hid hQk
  clear hQk
  go_upto_region 3 with fail
  clear hi1 hi2 hi3 hb hlast g8
  refine (wpIn_wide (n := 3)).1 ?_
  generalize hq : pre ++ [b] = q at *
  have HQN : Hid (q ≠ []) := Lib.hid (by subst hq; simp)
  have hql : pre.length + 1 = q.length := by subst hq; simp
  have HQI := Lib.hid (int_nats q)
  have hqi : (q.map fun (v : Nat) => (v : Int)).length = q.length := by simp
  have CL := Lib.hid (clone_any (q.map fun (v : Nat) => (v : Int)) (some ⟨bb, oo, none⟩) c W1 _ (by rw [← HQI.out, hqi, ← hql]; exact O0.out.rd) (by omega))
  rw [hqi, ← hql] at CL
  have HQL := Lib.hid hql
  clear hq hqi hql
  gi_wp2_with (refine ⟨trivial, ?_⟩; gi_at_call 96; refine (callsIn_wide.2 CL.out).mono ?_; rintro e W2 ⟨A2, c2, rfl, ho2, _, hb2⟩)
  have h2 : Own W2 n0 3 1 A2 q.length c2 (nats q) := by
    rw [HQI.out]
    have := ho2.more (Nat.le_trans h0W K0.out.size)
    rwa [List.length_map] at this
  have J2 := Lib.hid (XX.out.keep _ _ _ J0.out hb2)
  have K2 := Lib.hid (K0.out.call h0W hb2)
  obtain ⟨fn, tmps, assign, body, hy, hR⟩ := XX.out.yield L q A2 c2 W2 J2.out hLN HQK.out HLN.out HQN.out h2
  have HR := Lib.hid hR
  clear hR ho2 hb2 h2 CL
  rw [hy, Oper.uponIn_round]
  refine ⟨fun _ => by decide, ?_⟩
  refine HR.out.mono ?_
  rintro e W3 ⟨rfl, hJ3, hK3⟩
  have HF : Hid (OnPost n0 J (L ++ [q]) W (.returned (.bool true)) W3) := Lib.hid ⟨rfl, hJ3, K2.out.trans hK3⟩
  clear hJ3 hK3
  gi_wp2
  go_wp2
  go_ret
  exact HF.out
theorem OnCtx.netAt {p : Net} {h : Hd} {w0 : World} {n0 l N : Nat} {Qk : List Nat → Prop} {J : List (List Nat) → World → Prop} (X : OnCtx p h w0 n0 l N Qk J) {L : List (List Nat)} {W : World} (hj : J L W) : NetR W W.heap.size p h :=
  (X.net.below (X.base _ _ hj) (Nat.le_refl _)).more (Nat.le_trans X.lo (X.base _ _ hj).size)
theorem WK.keepT {w0 wr w' : World} {b n0 : Nat} {p : Net} {h : Hd} {f gl : Int} (a : WK w0 wr b p h f gl) (k : KeepT n0 wr w') : w'.heap[b]? = some (.cells (wkCells p h f gl) 93 (0, 0)) := (k.same _ _ _ _ a.box (.inr rfl)).trans a.box
theorem box9 {w : World} {b : Nat} {p : Net} {h : Hd} {f gl : Int} (a : w.heap[b]? = some (.cells (wkCells p h f gl) 93 (0, 0))) : w.cell? ⟨b, 0, none⟩ = some (.int .i64 p.proto) ∧ w.cell? ⟨b, 1, none⟩ = some (.int .i64 p.cap) ∧ w.cell? ⟨b, 2, none⟩ = some (.int .i64 p.k) ∧ w.cell? ⟨b, 3, none⟩ = some (.slice h.an p.nodes.length h.cn) ∧ w.cell? ⟨b, 4, none⟩ = some (.slice h.al p.links.length h.cl) ∧ w.cell? ⟨b, 5, none⟩ = some (.slice h.ad p.dests.length h.cd) ∧ w.cell? ⟨b, 6, none⟩ = some (.slice h.ac p.checks.length h.cc) ∧ w.cell? ⟨b, 7, none⟩ = some (.int .i64 f) ∧ w.cell? ⟨b, 8, none⟩ = some (.int .i64 gl) :=
  ⟨cell_of_row w _ 0 _ _ _ a, cell_of_row w _ 1 _ _ _ a, cell_of_row w _ 2 _ _ _ a, cell_of_row w _ 3 _ _ _ a, cell_of_row w _ 4 _ _ _ a, cell_of_row w _ 5 _ _ _ a, cell_of_row w _ 6 _ _ _ a, cell_of_row w _ 7 _ _ _ a, cell_of_row w _ 8 _ _ _ a⟩
set_option maxRecDepth 100000 in
set_option maxHeartbeats 4000000 in
theorem on_more {p : Net} {h : Hd} {w0 : World} {n0 l N : Nat} {Qk : List Nat → Prop} {J : List (List Nat) → World → Prop} (X : OnCtx p h w0 n0 l N Qk J) (f : Int) (b : Nat) (pre : List Nat) (u : Nat) (hub : u ≠ b) (G : Nat → List (List Nat))
    (IH : ∀ (v : Nat) (A : Option Addr) (c : Nat) (L : List (List Nat)) (W : World), v ∈ nbL p.links f p.nodes.length u → v ∉ pre ++ [u] → Own W n0 3 1 A (pre.length + 1 + 1) c (nats (pre ++ [u] ++ [v])) → J L W → L.length + (G v).length ≤ N → (∀ q ∈ G v, Qk q) →
      Calls Tryz.prog 93 #[wkV p h f (b : Int), .slice A (pre.length + 1 + 1) c, .func (.yield l) #[] #[]] W (OnPost n0 J (L ++ G v) W))
    (A : Option Addr) (c : Nat) (L : List (List Nat)) (W : World) (hLN : L.length + ((nbL p.links f p.nodes.length u).flatMap fun v => if v ∈ pre ++ [u] then [] else G v).length ≤ N) (hQk : ∀ v ∈ nbL p.links f p.nodes.length u, v ∉ pre ++ [u] → ∀ q ∈ G v, Qk q) (hlen : (pre ++ [u]).length ≤ 12)
    (how : Own W n0 3 1 A (pre.length + 1) c (nats (pre ++ [u]))) (hjl : J L W) :
    Calls Tryz.prog 93 #[wkV p h f (b : Int), .slice A (pre.length + 1) c, .func (.yield l) #[] #[]] W (OnPost n0 J (L ++ (nbL p.links f p.nodes.length u).flatMap fun v => if v ∈ pre ++ [u] then [] else G v) W) := by
  obtain ⟨i0, hi0, hz0, hs0, hb0⟩ := info_parts Tryz.info_int
  have XX := Lib.hid X
  have IHX := Lib.hid IH
  have HLNN := Lib.hid hLN
  have HQK := Lib.hid hQk
  have h0W := Nat.le_trans X.lo (X.base _ _ hjl).size
  have W0 := Lib.hid (WK.begin W p h f b)
  have hbel := (Below.refl W.heap.size W).alloc (Nat.le_refl _) (.cells (wkCells p h f b) 93)
  have K0 := Lib.hid (KeepT.of h0W hbel)
  have O0 := Lib.hid (how.alloc (.cells (wkCells p h f b) 93))
  have J0 := Lib.hid (X.keep _ _ _ hjl hbel)
  obtain ⟨bb, oo, rfl, hbb, hlast⟩ := O0.out.rd.one (i := pre.length) (x := .int .i64 (u : Int)) (by simp [nats])
  clear X how hjl hbel IH hLN hQk
  unfold wkV wkCells
  go_enter Tryz.func93, Tryz.ntmps93
  go_upto_region 1 with fail
  unfold wkCells at W0 K0 O0 J0 hlast
  generalize (W.alloc (.cells #[.int .i64 p.proto, .int .i64 p.cap, .int .i64 p.k, .slice h.an p.nodes.length h.cn, .slice h.al p.links.length h.cl, .slice h.ad p.dests.length h.cd, .slice h.ac p.checks.length h.cc, .int .i64 f, .int .i64 b] 93)) = W1 at *
  obtain ⟨⟨g0, g1, g2, g3, g4, g5, g6⟩, g7, g8⟩ := WK.all (p := p) (h := h) (f := f) (gl := b) (w0 := W) (wr := W1) (b := W.heap.size) W0.out
  have hi1 : wrap64 (pre.length : Int) = pre.length := by simp at hlen; unfold wrap64; omega
  have hi2 : (0 : Int) ≤ (pre.length : Int) := by omega
  have hi3 : (pre.length : Int) < (pre.length : Int) + 1 := by omega
  have hb : ((u : Int) == (b : Int)) = false := by simp; omega
  have HLN := Lib.hid hlen
  go_upto_region 4 with fail
  clear hi1 hi2 hi3 hb hlast hlen
  go_wp2_with fail
  refine (near_any p h f b u W1 (XX.out.netAt J0.out) XX.out.good).mono ?_
  rintro e W2 ⟨A3, c3, rfl, ho3, hb3⟩
  have hn0 := Nat.le_trans h0W K0.out.size
  have K2 := Lib.hid (KeepT.of hn0 hb3)
  have J2 := Lib.hid (XX.out.keep _ _ _ J0.out hb3)
  have N2 := Lib.hid (ho3.more hn0)
  have HLL := Lib.hid hb3.size
  have W2K := Lib.hid (WK.call (p := p) (h := h) (f := f) (gl := b) W0.out hb3)
  have BX9 := Lib.hid (fun (wy : World) (hk : KeepT n0 W2 wy) => box9 (WK.keepT (n0 := n0) (w' := wy) (p := p) (h := h) (f := f) (gl := b) W2K.out hk))
  have HW2 := Nat.le_trans hn0 hb3.size
  have O2 := Lib.hid (O0.out.keepT (KeepT.of hn0 hb3))
  have NM : Hid (∀ v, v ∈ nbL p.links f p.nodes.length u → v ∈ nbL p.links f p.nodes.length u) := Lib.hid (fun v h => h)
  have NL : (nbL p.links f p.nodes.length u).length ≤ 1000 := by
    have : (nbL p.links f p.nodes.length u).length ≤ p.nodes.length := by unfold nbL; exact Nat.le_trans (List.length_filter_le _ _) (by simp)
    have := XX.out.good.n12; omega
  clear ho3 hb3 g0 g1 g2 g3 g4 g5 g6 g7 g8
  generalize hnb : nbL p.links f p.nodes.length u = nb at *
  have HNB : Hid (∀ v, v ∈ nb → v ∈ nbL p.links f p.nodes.length u) := Lib.hid (by intro v hv; rw [hnb]; exact hv)
  have HNE := Lib.hid hnb
  clear hnb NM
  go_wp2_with fail
  go_loopw [28] (fun si wx => ∃ j : Nat, j ≤ nb.length ∧ si = .int .i64 j ∧ J (L ++ (nb.take j).flatMap fun v => if v ∈ pre ++ [u] then [] else G v) wx ∧ KeepT n0 W2 wx) (fun si _ => nb.length - (intOf si).toNat)
  case atStart => exact ⟨0, by omega, rfl, by simpa using J2.out, KeepT.refl _ _⟩
  case round =>
    obtain ⟨j, hj, rfl, hJ, hK⟩ := hrel
    have JX := Lib.hid hJ
    have KX := Lib.hid hK
    clear hJ hK
    by_cases hlt : j < nb.length
    · obtain ⟨v, hv⟩ : ∃ v, nb[j]? = some v := ⟨_, List.getElem?_eq_getElem hlt⟩
      have hlt' : (j : Int) < (nb.length : Int) := by omega
      have hj0 : (0 : Int) ≤ (j : Int) := by omega
      obtain ⟨b3, o3, rfl, hb3, hc3⟩ := (N2.out.keepT KX.out).rd.one (i := j) (x := .int .i64 (v : Int)) (nats_at hv)
      have HT : Hid ((nb.take (j + 1)).flatMap (fun v => if v ∈ pre ++ [u] then [] else G v) = (nb.take j).flatMap (fun v => if v ∈ pre ++ [u] then [] else G v) ++ (if v ∈ pre ++ [u] then [] else G v)) := Lib.hid (by rw [List.take_add_one, hv, List.flatMap_append]; simp)
      have HLT : Hid ((L ++ (nb.take j).flatMap fun v => if v ∈ pre ++ [u] then [] else G v).length + (if v ∈ pre ++ [u] then [] else G v).length ≤ N) := Lib.hid (by
        have h1 := HLNN.out
        have h2 := HT.out
        have h3 : (nb.flatMap fun v => if v ∈ pre ++ [u] then [] else G v) = ((nb.take (j + 1)).flatMap fun v => if v ∈ pre ++ [u] then [] else G v) ++ ((nb.drop (j + 1)).flatMap fun v => if v ∈ pre ++ [u] then [] else G v) := by rw [← List.flatMap_append, List.take_append_drop]
        rw [h3, h2] at h1
        simp only [List.length_append] at h1 ⊢
        omega)
      have HVN : Hid (v ∈ nb) := Lib.hid (List.mem_of_getElem? hv)
      have hk0 : KeepT n0 W2 wr.drew := KX.out.call HW2 (below_drew (Below.refl _ _))
      have CN := Lib.hid (fun (wy : World) (hk : KeepT n0 W2 wy) => (show Calls Tryz.prog 46 #[.slice (some ⟨bb, oo, none⟩) (pre.length + 1) c, .int .i64 (v : Int)] wy fun e w' => e = .returned (.bool (decide (v ∈ pre ++ [u]))) ∧ w' = wy from by
        have h1 := (O2.out.keepT hk).rd
        rw [int_nats] at h1
        have h2 := containsI_any ((pre ++ [u]).map fun (x : Nat) => (x : Int)) v (some ⟨bb, oo, none⟩) c _ wy (by simpa using h1) (by have := HLN.out; simp at this ⊢; omega)
        rw [show ((pre ++ [u]).map fun (x : Nat) => (x : Int)).length = pre.length + 1 from by simp] at h2
        exact h2.mono fun e w' ⟨e1, e2⟩ => ⟨by rw [e1, mem_cast], e2.symm⟩))
      clear hv
      go_upto_region 7 with fail
      clear hc3 hlt' hj0
      by_cases hvm : v ∈ pre ++ [u]
      · have HM : Hid ((if v ∈ pre ++ [u] then [] else G v) = []) := Lib.hid (if_pos hvm)
        rw [decide_eq_true hvm] at CN
        clear hvm
        refine wp_region_held_drew (S := (fun wy => wy.cell? ⟨W.heap.size, 0, none⟩ = some (.int .i64 p.proto) ∧ wy.cell? ⟨W.heap.size, 1, none⟩ = some (.int .i64 p.cap) ∧ wy.cell? ⟨W.heap.size, 2, none⟩ = some (.int .i64 p.k) ∧ wy.cell? ⟨W.heap.size, 3, none⟩ = some (.slice h.an p.nodes.length h.cn) ∧ wy.cell? ⟨W.heap.size, 4, none⟩ = some (.slice h.al p.links.length h.cl) ∧ wy.cell? ⟨W.heap.size, 5, none⟩ = some (.slice h.ad p.dests.length h.cd) ∧ wy.cell? ⟨W.heap.size, 6, none⟩ = some (.slice h.ac p.checks.length h.cc) ∧ wy.cell? ⟨W.heap.size, 7, none⟩ = some (.int .i64 f) ∧ wy.cell? ⟨W.heap.size, 8, none⟩ = some (.int .i64 b))) (by kernel_rfl) (BX9.out _ hk0) (fun hHeld0 => ?_)
        refine take_list (i := 0) (v := ?_) rfl (by kernel_rfl) (by kernel_rfl) (by kernel_rfl) (fun _ _ _ h => h) (Or.inl ⟨by rfl, ?_⟩) (by assumption) ?_
        rotate_left
        · (intro w hSw; (try dsimp only at hSw); go_simp; try (with_reducible rfl))
        try simp only [Act.put, List.setIfInBounds_toArray, List.set_cons_zero, List.set_cons_succ]
        refine take_list (i := 1) (v := ?_) rfl (by kernel_rfl) (by kernel_rfl) (by kernel_rfl) (fun _ _ _ h => h) (Or.inl ⟨by rfl, ?_⟩) (by assumption) ?_
        rotate_left
        · (intro w hSw; (try dsimp only at hSw); go_simp; try (with_reducible rfl))
        try simp only [Act.put, List.setIfInBounds_toArray, List.set_cons_zero, List.set_cons_succ]
        refine wpAnyH_ready (rs := [2]) (by kernel_rfl) (by simp) ?_
        refine cons_list rfl (fun K hK => ?_) AllReadyH.nil
        go_simp
        (go_at_call 46; refine (CN.out _ hk0).mono ?_; rintro e wn ⟨rfl, rfl⟩)
        refine hK.out _ _ (BX9.out _ (by assumption)) (fun hHeld1 => ?_)
        clear hK K hHeld0
        try simp only [Act.put, List.setIfInBounds_toArray, List.set_cons_zero, List.set_cons_succ]
        refine take_list (i := 3) (v := ?_) rfl (by kernel_rfl) (by kernel_rfl) (by kernel_rfl) (fun _ _ _ h => h) (Or.inl ⟨by rfl, ?_⟩) (by assumption) ?_
        rotate_left
        · (intro w hSw; (try dsimp only at hSw); go_simp; try (with_reducible rfl))
        try simp only [Act.put, List.setIfInBounds_toArray, List.set_cons_zero, List.set_cons_succ]
        refine take_list (i := 4) (v := ?_) rfl (by kernel_rfl) (by kernel_rfl) (by kernel_rfl) (fun _ _ _ h => h) (Or.inl ⟨by rfl, ?_⟩) (by assumption) ?_
        rotate_left
        · (intro w hSw; (try dsimp only at hSw); go_simp; try (with_reducible rfl))
        try simp only [Act.put, List.setIfInBounds_toArray, List.set_cons_zero, List.set_cons_succ]
        refine take_list (i := 5) (v := undef) rfl (by kernel_rfl) (by kernel_rfl) (by kernel_rfl) (fun _ _ _ h => h) (Or.inr ⟨by rfl, rfl⟩) (by assumption) ?_
        try simp only [Act.put, List.setIfInBounds_toArray, List.set_cons_zero, List.set_cons_succ]
        refine take_list (i := 6) (v := undef) rfl (by kernel_rfl) (by kernel_rfl) (by kernel_rfl) (fun _ _ _ h => h) (Or.inr ⟨by rfl, rfl⟩) (by assumption) ?_
        try simp only [Act.put, List.setIfInBounds_toArray, List.set_cons_zero, List.set_cons_succ]
        refine take_list (i := 7) (v := undef) rfl (by kernel_rfl) (by kernel_rfl) (by kernel_rfl) (fun _ _ _ h => h) (Or.inr ⟨by rfl, rfl⟩) (by assumption) ?_
        try simp only [Act.put, List.setIfInBounds_toArray, List.set_cons_zero, List.set_cons_succ]
        refine take_list (i := 8) (v := undef) rfl (by kernel_rfl) (by kernel_rfl) (by kernel_rfl) (fun _ _ _ h => h) (Or.inr ⟨by rfl, rfl⟩) (by assumption) ?_
        try simp only [Act.put, List.setIfInBounds_toArray, List.set_cons_zero, List.set_cons_succ]
        refine take_list (i := 9) (v := undef) rfl (by kernel_rfl) (by kernel_rfl) (by kernel_rfl) (fun _ _ _ h => h) (Or.inr ⟨by rfl, rfl⟩) (by assumption) ?_
        try simp only [Act.put, List.setIfInBounds_toArray, List.set_cons_zero, List.set_cons_succ]
        refine take_list (i := 10) (v := undef) rfl (by kernel_rfl) (by kernel_rfl) (by kernel_rfl) (fun _ _ _ h => h) (Or.inr ⟨by rfl, rfl⟩) (by assumption) ?_
        try simp only [Act.put, List.setIfInBounds_toArray, List.set_cons_zero, List.set_cons_succ]
        refine take_list (i := 11) (v := undef) rfl (by kernel_rfl) (by kernel_rfl) (by kernel_rfl) (fun _ _ _ h => h) (Or.inr ⟨by rfl, rfl⟩) (by assumption) ?_
        try simp only [Act.put, List.setIfInBounds_toArray, List.set_cons_zero, List.set_cons_succ]
        refine take_list (i := 12) (v := undef) rfl (by kernel_rfl) (by kernel_rfl) (by kernel_rfl) (fun _ _ _ h => h) (Or.inr ⟨by rfl, rfl⟩) (by assumption) ?_
        try simp only [Act.put, List.setIfInBounds_toArray, List.set_cons_zero, List.set_cons_succ]
        refine take_list (i := 13) (v := undef) rfl (by kernel_rfl) (by kernel_rfl) (by kernel_rfl) (fun _ _ _ h => h) (Or.inr ⟨by rfl, rfl⟩) (by assumption) ?_
        try simp only [Act.put, List.setIfInBounds_toArray, List.set_cons_zero, List.set_cons_succ]
        refine take_list (i := 14) (v := undef) rfl (by kernel_rfl) (by kernel_rfl) (by kernel_rfl) (fun _ _ _ h => h) (Or.inr ⟨by rfl, rfl⟩) (by assumption) ?_
        try simp only [Act.put, List.setIfInBounds_toArray, List.set_cons_zero, List.set_cons_succ]
        refine take_list (i := 15) (v := undef) rfl (by kernel_rfl) (by kernel_rfl) (by kernel_rfl) (fun _ _ _ h => h) (Or.inr ⟨by rfl, rfl⟩) (by assumption) ?_
        try simp only [Act.put, List.setIfInBounds_toArray, List.set_cons_zero, List.set_cons_succ]
        refine take_list (i := 16) (v := undef) rfl (by kernel_rfl) (by kernel_rfl) (by kernel_rfl) (fun _ _ _ h => h) (Or.inr ⟨by rfl, rfl⟩) (by assumption) ?_
        try simp only [Act.put, List.setIfInBounds_toArray, List.set_cons_zero, List.set_cons_succ]
        refine take_list (i := 17) (v := undef) rfl (by kernel_rfl) (by kernel_rfl) (by kernel_rfl) (fun _ _ _ h => h) (Or.inr ⟨by rfl, rfl⟩) (by assumption) ?_
        try simp only [Act.put, List.setIfInBounds_toArray, List.set_cons_zero, List.set_cons_succ]
        refine take_list (i := 18) (v := ?_) rfl (by kernel_rfl) (by kernel_rfl) (by kernel_rfl) (fun _ _ _ h => h) (Or.inl ⟨by rfl, ?_⟩) (by assumption) ?_
        rotate_left
        · (intro w hSw; (try dsimp only at hSw); go_simp; try (with_reducible rfl))
        try simp only [Act.put, List.setIfInBounds_toArray, List.set_cons_zero, List.set_cons_succ]
        refine wpAnyH_done (by kernel_rfl) ?_ _
        clear hHeld1
        go_wp2_with fail
        go_roundw
        case rel => exact ⟨j + 1, by omega, by go_num, by rw [HT.out, HM.out, List.append_nil]; exact XX.out.keep _ _ _ JX.out (below_drew (Below.refl _ _)), hk0⟩
        case measure => simp [intOf]; omega
      · have HM : Hid ((if v ∈ pre ++ [u] then [] else G v) = G v) := Lib.hid (if_neg hvm)
        rw [decide_eq_false hvm] at CN
        have RW := Lib.hid (fun (wy : World) (hk : KeepT n0 W2 wy) => (O2.out.keepT hk).rd)
        have hj0 : J (L ++ (nb.take j).flatMap fun v => if v ∈ pre ++ [u] then [] else G v) wr.drew := XX.out.keep _ _ _ JX.out (below_drew (Below.refl _ _))
        have RC := Lib.hid (fun (wy : World) (A4 : Option Addr) (c4 C : Nat) (hk : KeepT n0 W2 wy) (hj : J (L ++ (nb.take j).flatMap fun v => if v ∈ pre ++ [u] then [] else G v) wy) (hC : n0 ≤ C) (ho : Own wy C 3 1 A4 (pre.length + 1 + 1) c4 (nats (pre ++ [u]) ++ [.int .i64 (v : Int)])) =>
          (show Calls Tryz.prog 93 #[.agg #[.int .i64 p.proto, .int .i64 p.cap, .int .i64 p.k, .slice h.an p.nodes.length h.cn, .slice h.al p.links.length h.cl, .slice h.ad p.dests.length h.cd, .slice h.ac p.checks.length h.cc, .int .i64 f, .int .i64 b], .slice A4 (pre.length + 1 + 1) c4, .func (.yield l) #[] #[]] wy fun e w' => e = .returned (.bool true) ∧ J ((L ++ (nb.take j).flatMap fun v => if v ∈ pre ++ [u] then [] else G v) ++ G v) w' ∧ KeepT n0 W2 w' from
            (IHX.out v A4 c4 _ wy HVN.out hvm (by rw [nats_snoc]; exact ho.more hC) hj (by have := HLT.out; rwa [HM.out] at this) (HQK.out v HVN.out hvm)).mono fun e w' ⟨e1, e2, e3⟩ => ⟨e1, e2, hk.trans e3⟩))
        have HKA : Hid (KeepT n0 W2 (wr.alloc (.cells #[.int .i64 (v : Int)] 3)).drew) := Lib.hid (KX.out.call HW2 (below_drew ((Below.refl _ _).alloc (Nat.le_refl _) _)))
        have HJA : Hid (J (L ++ (nb.take j).flatMap fun v => if v ∈ pre ++ [u] then [] else G v) (wr.alloc (.cells #[.int .i64 (v : Int)] 3)).drew) := Lib.hid (XX.out.keep _ _ _ JX.out (below_drew ((Below.refl _ _).alloc (Nat.le_refl _) _)))
        have HSA : Hid (n0 ≤ (wr.alloc (.cells #[.int .i64 (v : Int)] 3)).drew.heap.size) := Lib.hid (Nat.le_trans HW2 HKA.out.size)
        have RN : Hid (Rd (wr.alloc (.cells #[.int .i64 (v : Int)] 3)).drew (wr.alloc (.cells #[.int .i64 (v : Int)] 3)).heap.size 1 (some ⟨wr.heap.size, 0, none⟩) 1 [.int .i64 (v : Int)]) :=
          Lib.hid (show Rd (wr.alloc (.cells #[.int .i64 (v : Int)] 3)) _ 1 _ 1 _ from Rd.new rfl rfl)
        have hs1 : (0 : Int) ≤ (pre.length : Int) + 1 := by omega
        have hs2 : (pre.length : Int) + 1 ≤ (c : Int) := by have := O2.out.2.1; omega
        have hk0' : KeepT n0 W2 wr := KX.out
        clear hvm
        refine wp_region_held_drew (S := (fun wy => wy.cell? ⟨W.heap.size, 0, none⟩ = some (.int .i64 p.proto) ∧ wy.cell? ⟨W.heap.size, 1, none⟩ = some (.int .i64 p.cap) ∧ wy.cell? ⟨W.heap.size, 2, none⟩ = some (.int .i64 p.k) ∧ wy.cell? ⟨W.heap.size, 3, none⟩ = some (.slice h.an p.nodes.length h.cn) ∧ wy.cell? ⟨W.heap.size, 4, none⟩ = some (.slice h.al p.links.length h.cl) ∧ wy.cell? ⟨W.heap.size, 5, none⟩ = some (.slice h.ad p.dests.length h.cd) ∧ wy.cell? ⟨W.heap.size, 6, none⟩ = some (.slice h.ac p.checks.length h.cc) ∧ wy.cell? ⟨W.heap.size, 7, none⟩ = some (.int .i64 f) ∧ wy.cell? ⟨W.heap.size, 8, none⟩ = some (.int .i64 b))) (by kernel_rfl) (BX9.out _ hk0) (fun hHeld0 => ?_)
        refine take_list (i := 0) (v := ?_) rfl (by kernel_rfl) (by kernel_rfl) (by kernel_rfl) (fun _ _ _ h => h) (Or.inl ⟨by rfl, ?_⟩) (by assumption) ?_
        rotate_left
        · (intro w hSw; (try dsimp only at hSw); go_simp; try (with_reducible rfl))
        try simp only [Act.put, List.setIfInBounds_toArray, List.set_cons_zero, List.set_cons_succ]
        refine take_list (i := 1) (v := ?_) rfl (by kernel_rfl) (by kernel_rfl) (by kernel_rfl) (fun _ _ _ h => h) (Or.inl ⟨by rfl, ?_⟩) (by assumption) ?_
        rotate_left
        · (intro w hSw; (try dsimp only at hSw); go_simp; try (with_reducible rfl))
        try simp only [Act.put, List.setIfInBounds_toArray, List.set_cons_zero, List.set_cons_succ]
        refine wpAnyH_ready (rs := [2]) (by kernel_rfl) (by simp) ?_
        refine cons_list rfl (fun K hK => ?_) AllReadyH.nil
        go_simp
        (go_at_call 46; refine (CN.out _ hk0).mono ?_; rintro e wn ⟨rfl, rfl⟩)
        refine hK.out _ _ (BX9.out _ (by first | assumption | exact HKA.out)) (fun hHeld1 => ?_)
        clear hK K hHeld0
        try simp only [Act.put, List.setIfInBounds_toArray, List.set_cons_zero, List.set_cons_succ]
        refine take_list (i := 3) (v := ?_) rfl (by kernel_rfl) (by kernel_rfl) (by kernel_rfl) (fun _ _ _ h => h) (Or.inl ⟨by rfl, ?_⟩) (by assumption) ?_
        rotate_left
        · (intro w hSw; (try dsimp only at hSw); go_simp; try (with_reducible rfl))
        try simp only [Act.put, List.setIfInBounds_toArray, List.set_cons_zero, List.set_cons_succ]
        refine take_list (i := 4) (v := ?_) rfl (by kernel_rfl) (by kernel_rfl) (by kernel_rfl) (fun _ _ _ h => h) (Or.inl ⟨by rfl, ?_⟩) (by assumption) ?_
        rotate_left
        · (intro w hSw; (try dsimp only at hSw); go_simp; try (with_reducible rfl))
        try simp only [Act.put, List.setIfInBounds_toArray, List.set_cons_zero, List.set_cons_succ]
        refine take_list (i := 5) (v := ?_) rfl (by kernel_rfl) (by kernel_rfl) (by kernel_rfl) (fun _ _ _ h => h) (Or.inl ⟨by rfl, ?_⟩) (by assumption) ?_
        rotate_left
        · (intro w hSw; (try dsimp only at hSw); go_simp; try (with_reducible rfl))
        try simp only [Act.put, List.setIfInBounds_toArray, List.set_cons_zero, List.set_cons_succ]
        refine take_list (i := 6) (v := ?_) rfl (by kernel_rfl) (by kernel_rfl) (by kernel_rfl) (fun _ _ _ h => h) (Or.inl ⟨by rfl, ?_⟩) (by assumption) ?_
        rotate_left
        · (intro w hSw; (try dsimp only at hSw); go_simp; try (with_reducible rfl))
        try simp only [Act.put, List.setIfInBounds_toArray, List.set_cons_zero, List.set_cons_succ]
        refine take_list (i := 7) (v := ?_) rfl (by kernel_rfl) (by kernel_rfl) (by kernel_rfl) (fun _ _ _ h => h) (Or.inl ⟨by rfl, ?_⟩) (by assumption) ?_
        rotate_left
        · (intro w hSw; (try dsimp only at hSw); go_simp; try (with_reducible rfl))
        try simp only [Act.put, List.setIfInBounds_toArray, List.set_cons_zero, List.set_cons_succ]
        refine take_list (i := 8) (v := ?_) rfl (by kernel_rfl) (by kernel_rfl) (by kernel_rfl) (fun _ _ _ h => h) (Or.inl ⟨by rfl, ?_⟩) (by assumption) ?_
        rotate_left
        · (intro w hSw; (try dsimp only at hSw); go_simp; try (with_reducible rfl))
        try simp only [Act.put, List.setIfInBounds_toArray, List.set_cons_zero, List.set_cons_succ]
        refine take_list (i := 9) (v := ?_) rfl (by kernel_rfl) (by kernel_rfl) (by kernel_rfl) (fun _ _ _ h => h) (Or.inl ⟨by rfl, ?_⟩) (by assumption) ?_
        rotate_left
        · (intro w hSw; (try dsimp only at hSw); go_simp; try (with_reducible rfl))
        try simp only [Act.put, List.setIfInBounds_toArray, List.set_cons_zero, List.set_cons_succ]
        refine take_list (i := 10) (v := ?_) rfl (by kernel_rfl) (by kernel_rfl) (by kernel_rfl) (fun _ _ _ h => h) (Or.inl ⟨by rfl, ?_⟩) (by assumption) ?_
        rotate_left
        · (intro w hSw; (try dsimp only at hSw); go_simp; try (with_reducible rfl))
        try simp only [Act.put, List.setIfInBounds_toArray, List.set_cons_zero, List.set_cons_succ]
        refine take_list (i := 11) (v := ?_) rfl (by kernel_rfl) (by kernel_rfl) (by kernel_rfl) (fun _ _ _ h => h) (Or.inl ⟨by rfl, ?_⟩) (by assumption) ?_
        rotate_left
        · (intro w hSw; (try dsimp only at hSw); go_simp; try (with_reducible rfl))
        try simp only [Act.put, List.setIfInBounds_toArray, List.set_cons_zero, List.set_cons_succ]
        refine take_list (i := 12) (v := ?_) rfl (by kernel_rfl) (by kernel_rfl) (by kernel_rfl) (fun _ _ _ h => h) (Or.inl ⟨by rfl, ?_⟩) (by assumption) ?_
        rotate_left
        · (intro w hSw; (try dsimp only at hSw); go_simp; try (with_reducible rfl))
        try simp only [Act.put, List.setIfInBounds_toArray, List.set_cons_zero, List.set_cons_succ]
        refine take_list (i := 15) (v := ?_) rfl (by kernel_rfl) (by kernel_rfl) (by kernel_rfl) (fun _ _ _ h => h) (Or.inl ⟨by rfl, ?_⟩) (by assumption) ?_
        rotate_left
        · (intro w hSw; (try dsimp only at hSw); go_simp; try (with_reducible rfl))
        try simp only [Act.put, List.setIfInBounds_toArray, List.set_cons_zero, List.set_cons_succ]
        refine wpAnyH_ready (rs := [13]) (by kernel_rfl) (by simp) ?_
        refine cons_list rfl (fun K hK => ?_) AllReadyH.nil
        go_simp
        refine hK.out _ _ (BX9.out _ (by first | assumption | exact HKA.out)) (fun hHeld2 => ?_)
        clear hK K hHeld1
        try simp only [Act.put, List.setIfInBounds_toArray, List.set_cons_zero, List.set_cons_succ]
        refine wpAnyH_ready (rs := [14]) (by kernel_rfl) (by simp) ?_
        refine cons_list rfl (fun K hK => ?_) AllReadyH.nil
        (refine step_grow _ (by rfl) _ _ 22 (by rfl) 3 i0 _ 1 8 Tryz.underlying22 hi0 hz0 hs0 hb0 rfl (by decide) _ (pre.length + 1) _ (nats (pre ++ [u])) (by rfl) (by omega) (RW.out _ HKA.out) _ 1 _ _ [.int .i64 (v : Int)] (by rfl) (by decide) RN.out (by have := HLN.out; simp at this; unfold maxLen; omega) (by have := HLN.out; simp at this; omega) ?_; intro A4 c4 w4 hown4 hb4; have hk4 := HKA.out.call HW2 hb4; have hj4 := XX.out.keep _ _ _ HJA.out hb4; clear hb4)
        refine hK.out _ _ (BX9.out _ (by first | assumption | exact HKA.out)) (fun hHeld3 => ?_)
        clear hK K hHeld2
        try simp only [Act.put, List.setIfInBounds_toArray, List.set_cons_zero, List.set_cons_succ]
        refine wpAnyH_ready (rs := [16]) (by kernel_rfl) (by simp) ?_
        refine cons_list rfl (fun K hK => ?_) AllReadyH.nil
        go_simp
        (go_at_call 93; refine (RC.out _ A4 c4 _ hk4 hj4 HSA.out hown4).mono ?_; rintro e w5 ⟨rfl, hj5, hk5⟩)
        refine hK.out _ _ (BX9.out _ (by first | assumption | exact HKA.out)) (fun hHeld4 => ?_)
        clear hK K hHeld3
        try simp only [Act.put, List.setIfInBounds_toArray, List.set_cons_zero, List.set_cons_succ]
        refine take_list (i := 17) (v := ?_) rfl (by kernel_rfl) (by kernel_rfl) (by kernel_rfl) (fun _ _ _ h => h) (Or.inl ⟨by rfl, ?_⟩) (by assumption) ?_
        rotate_left
        · (intro w hSw; (try dsimp only at hSw); go_simp; try (with_reducible rfl))
        try simp only [Act.put, List.setIfInBounds_toArray, List.set_cons_zero, List.set_cons_succ]
        refine take_list (i := 18) (v := ?_) rfl (by kernel_rfl) (by kernel_rfl) (by kernel_rfl) (fun _ _ _ h => h) (Or.inl ⟨by rfl, ?_⟩) (by assumption) ?_
        rotate_left
        · (intro w hSw; (try dsimp only at hSw); go_simp; try (with_reducible rfl))
        try simp only [Act.put, List.setIfInBounds_toArray, List.set_cons_zero, List.set_cons_succ]
        refine wpAnyH_done (by kernel_rfl) ?_ _
        clear hHeld4
        have JX5 := Lib.hid hj5
        have KX5 := Lib.hid hk5
        clear hj5 hk5 hj4 hk4 hown4
        go_wp2_with fail
        go_roundw
        case rel => exact ⟨j + 1, by omega, by go_num, by rw [HT.out, HM.out, ← List.append_assoc]; exact JX5.out, KX5.out⟩
        case measure => simp [intOf]; omega
    · have hje : j = nb.length := by omega
      have hlt' : (nb.length : Int) ≤ (j : Int) := by omega
      subst hje
      have HF : Hid (OnPost n0 J (L ++ (nbL p.links f p.nodes.length u).flatMap fun v => if v ∈ pre ++ [u] then [] else G v) W (.returned (.bool true)) wr) := Lib.hid ⟨rfl, by rw [HNE.out]; have := JX.out; rwa [List.take_length] at this, (K0.out.trans K2.out).trans KX.out⟩
      clear hlt
      go_wp2
      go_ret
      exact HF.out
/-- **All ways that go on from some nodes.** -/
theorem on_any {p : Net} {h : Hd} {w0 : World} {n0 l N : Nat} {Qk : List Nat → Prop} {J : List (List Nat) → World → Prop} (X : OnCtx p h w0 n0 l N Qk J) (f : Int) (b : Nat) : ∀ (k : Nat) (pre : List Nat) (u : Nat) (A : Option Addr) (c : Nat) (L : List (List Nat)) (W : World),
    p.nodes.length + 1 ≤ k + pre.length → (pre ++ [u]).Nodup → (∀ x ∈ pre ++ [u], x < p.nodes.length) → Own W n0 3 1 A (pre.length + 1) c (nats (pre ++ [u])) → J L W → L.length + (Gr.onL (nbL p.links f p.nodes.length) b k pre u).length ≤ N → (∀ q ∈ Gr.onL (nbL p.links f p.nodes.length) b k pre u, Qk q) →
      Calls Tryz.prog 93 #[wkV p h f (b : Int), .slice A (pre.length + 1) c, .func (.yield l) #[] #[]] W (OnPost n0 J (L ++ Gr.onL (nbL p.links f p.nodes.length) b k pre u) W) := by
  intro k
  have hN12 := X.good.n12
  induction k with
  | zero =>
    intro pre u A c L W hk hnd hlt
    have := Gr.nodup_len _ (List.range p.nodes.length) hnd (fun x hx => List.mem_range.2 (hlt x hx))
    simp at this
    omega
  | succ k ih =>
    intro pre u A c L W hk hnd hlt how hj hLN hQk
    have hlen : (pre ++ [u]).length ≤ 12 := by
      have := Gr.nodup_len _ (List.range p.nodes.length) hnd (fun x hx => List.mem_range.2 (hlt x hx))
      simp at this ⊢; omega
    by_cases hub : u = b
    · have e : Gr.onL (nbL p.links f p.nodes.length) b (k + 1) pre u = [pre ++ [b]] := by simp only [Gr.onL]; rw [if_pos hub, hub]
      rw [e] at hLN hQk ⊢
      subst hub
      exact on_end X f u pre A c L W (by simp at hLN; omega) (hQk _ (by simp)) hlen how hj
    · have e : Gr.onL (nbL p.links f p.nodes.length) b (k + 1) pre u = (nbL p.links f p.nodes.length u).flatMap fun v => if v ∈ pre ++ [u] then [] else Gr.onL (nbL p.links f p.nodes.length) b k (pre ++ [u]) v := by simp only [Gr.onL]; rw [if_neg hub]
      rw [e] at hLN hQk ⊢
      refine on_more X f b pre u hub (fun v => Gr.onL (nbL p.links f p.nodes.length) b k (pre ++ [u]) v) (fun v A c L W hv hvm ho hj hLv hQv => ?_) A c L W hLN (fun v hv hvm q hq => hQk q (List.mem_flatMap.2 ⟨v, hv, by rw [if_neg hvm]; exact hq⟩)) hlen how hj
      have hl1 : (pre ++ [u]).length = pre.length + 1 := by simp
      have h1 := ih (pre ++ [u]) v A c L W (by rw [hl1]; omega) (by
        rw [List.nodup_append]
        refine ⟨hnd, by simp, ?_⟩
        rintro x hx y hy rfl
        simp at hy; subst hy; exact hvm hx) (by
        intro x hx
        rcases List.mem_append.1 hx with hx | hx
        · exact hlt x hx
        · simp at hx; subst hx; exact List.mem_range.1 (List.mem_filter.1 hv).1) (by rw [hl1]; exact ho) hj hLv hQv
      rw [hl1] at h1
      exact h1
theorem all_any (p : Net) (h : Hd) (f b a : Int) (w : World) : Calls Tryz.prog 57 #[wkV p h f b, .int .i64 a] w fun e w' =>
    e = .returned (.func (.func 92) #[] #[.pointer (some ⟨w.heap.size, 0, none⟩), .pointer (some ⟨w.heap.size + 1, 0, none⟩)]) ∧ w' = (w.alloc (.cells (wkCells p h f b) 93)).alloc (.cells #[.int .i64 a] 3) := by
  unfold wkV wkCells
  go_enter Tryz.func57, Tryz.ntmps57
  go_wp2
  go_ret
  exact ⟨by rfl, by rfl⟩
theorem all1_any {p : Net} {h : Hd} {w0 : World} {n0 l N : Nat} {Qk : List Nat → Prop} {J : List (List Nat) → World → Prop} (X : OnCtx p h w0 n0 l N Qk J) (f : Int) (a b : Nat) (ha : a < p.nodes.length) (hN : (waysN p f a b).length ≤ N) (hQk : ∀ q ∈ waysN p f a b, Qk q) (bw bf : Nat) (W : World)
    (hw : W.heap[bw]? = some (.cells (wkCells p h f b) 93 (0, 0))) (hf : W.heap[bf]? = some (.cells #[.int .i64 (a : Int)] 3 (0, 0))) (hj : J [] W) :
    Calls Tryz.prog 92 #[.func (.yield l) #[] #[], .pointer (some ⟨bw, 0, none⟩), .pointer (some ⟨bf, 0, none⟩)] W fun e W' => (∃ v, e = .returned v) ∧ J (waysN p f a b) W' := by
  have XX := Lib.hid X
  obtain ⟨g0, g1, g2, g3, g4, g5, g6, g7, g8⟩ := box9 hw
  have gf := cell_of_row W _ 0 _ _ _ hf
  have hbel := (Below.refl W.heap.size W).alloc (Nat.le_refl _) (.cells #[.int .i64 (a : Int)] 3)
  have h0 := Nat.le_trans X.lo (X.base _ _ hj).size
  have ON := Lib.hid (on_any X f b (p.nodes.length + 1) [] a (some ⟨W.heap.size, 0, none⟩) 1 [] (W.alloc (.cells #[.int .i64 (a : Int)] 3)) (by simp) (by simp) (by simpa using ha)
    (by
      refine Own.more (B := W.heap.size) ⟨by simp [nats], by simp, by simp [maxLen], by simp, by simp [blk], fun _ => ⟨_, 0, #[.int .i64 (a : Int)], rfl, heap_alloc_new _ _, by simp, fun j u hu => by simpa [nats] using hu⟩⟩ h0) (X.keep _ _ _ hj hbel) (by simpa [waysN, Gr.waysL] using hN) hQk)
  unfold wkV wkCells at ON
  clear X hw hf hj hbel
  go_enter Tryz.func92, Tryz.ntmps92
  go_wp2_with (go_at_call 93; refine ON.out.mono ?_; rintro e w2 ⟨rfl, hj2, -⟩)
  go_end0
  exact ⟨⟨_, rfl⟩, by simpa [waysN, Gr.waysL] using hj2⟩
end
end Go.Proofs.YtlnnmjomdblciaaGreat

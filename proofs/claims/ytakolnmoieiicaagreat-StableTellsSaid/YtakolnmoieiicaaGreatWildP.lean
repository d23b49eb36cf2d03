/- What the walk of Wild keeps: a network in its box, rows of the call's own. No program is walked here, but next. -/
import Derived.Test.YtakolnmoieiicaaGreatNetD
namespace Go.Proofs.YtakolnmoieiicaaGreat
set_option linter.unusedSimpArgs false
set_option linter.unusedVariables false
open Go.RowKit

/-- The first number, below n. -/
def headN (l : List Int) (n : Int) : Nat := match l with | [] => 0 | x :: _ => (pickV x n).toNat
theorem headN_take (l : List Int) (n : Int) : headN (l.take 200) n = headN l n := by cases l <;> rfl
theorem next_head (B b : Nat) (n : Int) (w : World) (A : Option Addr) (l : List Int) (c : Nat) (hh : w.heap[b]? = some (.cells #[.slice A l.length c] 51 (0, 0))) (hc : l.length ≤ c) (hi : ∀ x ∈ l, In64 x) (hr : Rd w B 1 A l.length (ints l)) (hB : B ≤ b) (hn : 0 < n) (hn2 : n < 1000000) :
    Calls Tryz.prog 17 #[.pointer (some ⟨b, 0, none⟩), .int .i64 n] w fun e w' => e = .returned (.int .i64 (headN l n : Nat)) ∧ Src B b w' ∧ w.grownBy w' (some b) := by
  have hcell : w.cell? ⟨b, 0, none⟩ = some (.slice A l.length c) := by rw [cell_of_row w b 0 _ _ _ hh]; rfl
  rcases l with _ | ⟨x, l⟩
  · have HF : Hid (Ending.returned (.int .i64 0) = Ending.returned (.int .i64 (headN [] n : Nat)) ∧ Src B b w ∧ w.grownBy w (some b)) := Lib.hid ⟨rfl, ⟨A, [], c, hh, hc, hi, hr⟩, World.grownBy.refl _ _⟩
    clear hr hi hh
    go_enter Tryz.func17, Tryz.ntmps17
    go_wp2
    go_ret
    exact HF.out
  · obtain ⟨b', o, rfl, hb, hx⟩ := hr.one (i := 0) (x := .int .i64 x) rfl
    simp at hx
    have HX := Lib.hid (hi x (by simp))
    have hpk := pickV_in (c := x) hn
    have HV : Hid (((headN (x :: l) n : Nat) : Int) = pickV x n) := Lib.hid (Int.toNat_of_nonneg hpk.1)
    have HF : Hid (∀ (A : Option Addr) (c' : Nat), l.length ≤ c' → Rd w B 1 A l.length (ints l) → (Ending.returned (.int .i64 (pickV x n)) = Ending.returned (.int .i64 (headN (x :: l) n : Nat)) ∧ Src B b (w.setCell ⟨b, 0, none⟩ (.slice A l.length c')) ∧ w.grownBy (w.setCell ⟨b, 0, none⟩ (.slice A l.length c')) (some b))) := Lib.hid (fun A c' h1 h2 =>
      ⟨by rw [HV.out], (Src.set hh (by simp) hB h1 (fun y hy => hi y (List.mem_cons_of_mem _ hy)) h2).1, (Src.set hh (by simp) hB h1 (fun y hy => hi y (List.mem_cons_of_mem _ hy)) h2).2⟩)
    have HR := Lib.hid (rd_tail hr)
    have HQ := Lib.hid hr
    have hfr : w.frozen? ⟨b, 0, none⟩ = false := frozen_of_row w b 0 _ _ hh
    simp only [List.length_cons] at hcell hc
    clear hr hi hh hpk
    by_cases hc1 : c = 1
    · have hl0 : l = [] := by cases l with | nil => rfl | cons => simp at hc; omega
      subst hc1 hl0
      simp at hcell
      go_enter Tryz.func17, Tryz.ntmps17
      go_wp2_with (go_at_call 28; refine (pick_any _ _ _ HX.out hn (by omega)).mono ?_; rintro e w' ⟨rfl, rfl⟩)
      go_ret
      exact HF.out _ 0 (by simp) (Rd.nil _)
    · go_enter Tryz.func17, Tryz.ntmps17
      go_wp2_with (go_at_call 28; refine (pick_any _ _ _ HX.out hn (by omega)).mono ?_; rintro e w' ⟨rfl, rfl⟩)
      go_ret
      exact HF.out _ (c - 1) (by omega) HR.out
theorem Own.not_at {w : World} {B s n c : Nat} {e : TypeId} {A : Option Addr} {xs : List Value} (h : Own w B e s A n c xs) (hz : c = 0 → A = none) {b : Nat} {cs : Array Value} {t : TypeId} {fr : Nat × Nat} (hh : w.heap[b]? = some (.cells cs t fr)) (ht : t ≠ e) : blk A ≠ some b := by
  intro hb
  by_cases hc : c = 0
  · rw [hz hc] at hb; simp [blk] at hb
  · obtain ⟨g, off, cur, rfl, hg, _⟩ := h.2.2.2.2.2 (by omega)
    simp [blk] at hb
    subst hb
    rw [hh] at hg
    injection hg with hg
    injection hg with _ h2
    exact ht h2
theorem Own.not_at' {w : World} {B s n c : Nat} {e : TypeId} {A : Option Addr} {xs : List Value} (h : Own w B e s A n c xs) {b : Nat} {cs : Array Value} {t : TypeId} {fr : Nat × Nat} (hh : w.heap[b]? = some (.cells cs t fr)) (ht : t ≠ e) : 0 < c → blk A ≠ some b := by
  intro hc
  exact h.not_at (fun e => by omega) hh ht
/-- None of the types of a network's rows. -/
def FarT (t : TypeId) : Prop := t ≠ 55 ∧ t ≠ 58 ∧ t ≠ 60 ∧ t ≠ 3 ∧ t ≠ 62
section
variable {w w' w2 wr : World} {B b bp bs : Nat} {p p' : Net} {h : Hd}
theorem NetOwn.grow (a : NetOwn w B p h) (hg : w.grownBy w' (some b)) {cs : Array Value} {t : TypeId} {fr : Nat × Nat} (hh : w.heap[b]? = some (.cells cs t fr)) (ht : FarT t) : NetOwn w' B p h :=
  ⟨a.nodes.kept' hg (a.nodes.not_at' hh ht.1), a.links.kept' hg (a.links.not_at' hh ht.2.1), a.dlen, a.dests.kept' hg (a.dests.not_at' hh ht.2.2.1), fun z hz => (a.origins z hz).kept' hg ((a.origins z hz).not_at' hh ht.2.2.2.1), a.checks.kept' hg (a.checks.not_at' hh ht.2.2.2.2), a.zn, a.zl, a.zd, a.zc⟩
theorem NetOwn.setBox (a : NetOwn w B p h) {i : Nat} {cs : Array Value} {t : TypeId} (hh : w.heap[b]? = some (.cells cs t (0, 0))) (ht : FarT t) (v : Value) : NetOwn (w.setCell ⟨b, i, none⟩ v) B p h :=
  ⟨a.nodes.setCell_type (p := ⟨b, i, none⟩) hh ht.1 v, a.links.setCell_type (p := ⟨b, i, none⟩) hh ht.2.1 v, a.dlen, a.dests.setCell_type (p := ⟨b, i, none⟩) hh ht.2.2.1 v, fun z hz => (a.origins z hz).setCell_type (p := ⟨b, i, none⟩) hh ht.2.2.2.1 v, a.checks.setCell_type (p := ⟨b, i, none⟩) hh ht.2.2.2.2 v, a.zn, a.zl, a.zd, a.zc⟩
theorem NetOwn.allocs (a : NetOwn w B p h) (o : Obj) : NetOwn (w.alloc o) B p h :=
  ⟨a.nodes.alloc o, a.links.alloc o, a.dlen, a.dests.alloc o, fun z hz => (a.origins z hz).alloc o, a.checks.alloc o, a.zn, a.zl, a.zd, a.zc⟩
theorem NetOwn.same (a : NetOwn w B p h) (e1 : p'.nodes = p.nodes) (e2 : p'.links = p.links) (e3 : p'.dests = p.dests) (e4 : p'.checks = p.checks) : NetOwn w B p' h := by
  obtain ⟨h1, h2, h3, h4, h5, h6, z1, z2, z3, z4⟩ := a
  exact ⟨by rw [e1]; exact h1, by rw [e2]; exact h2, by rw [e3]; exact h3, by rw [e3]; exact h4, by rw [e3]; exact h5, by rw [e4]; exact h6, z1, z2, z3, z4⟩
/-- The network in its box, the source in another, the answer's block. -/
structure WS (w : World) (bp bs : Nat) (p : Net) (h : Hd) (wr : World) : Prop where
  below : Below w.heap.size w wr
  src : Src w.heap.size bs wr
  res : wr.heap[w.heap.size]? = some (.cells zeroCells 30 (0, 0))
  box : wr.heap[bp]? = some (.cells (netCells p h) 30 (0, 0))
  own : NetOwn wr (w.heap.size + 1) p h
  lo : w.heap.size < bp
  lt : bp < bs
theorem farPlan : FarT 30 := by unfold FarT; decide
theorem farSrc : FarT 51 := by unfold FarT; decide
theorem WS.next (a : WS w bp bs p h wr) (hg : wr.grownBy w' (some bs)) (hs : Src w.heap.size bs w') : WS w bp bs p h w' := by
  obtain ⟨h1, h2, h3, h4, h5, h6, h7⟩ := a
  have hs2 := h2
  obtain ⟨A, l, c, hh, -⟩ := hs2
  refine ⟨h1.grown hg h1.size (fun g hg => by injection hg with hg; omega), hs, ?_, ?_, h5.grow hg hh farSrc, h6, h7⟩
  · rw [hg.block _ (lt_heap h3) (by first | (simp; omega) | simp)]; exact h3
  · rw [hg.block _ (lt_heap h4) (by first | (simp; omega) | simp)]; exact h4
theorem Src.kept2 {B b : Nat} {row : Option Nat} (h : Src B b wr) (hg : wr.grownBy w' row) (hne : row ≠ some b) (hB : B ≤ wr.heap.size) (hr : ∀ g, row = some g → B ≤ g) : Src B b w' := h.grown hg hne hB hr
/-- What is not touched by an append to a row of the call's own. -/
theorem WS.base (a : WS w bp bs p h wr) {row : Option Nat} (hg : wr.grownBy w2 row) (hr : ∀ g, row = some g → w.heap.size + 1 ≤ g) (h1 : row ≠ some bp) (h2 : row ≠ some bs) :
    Below w.heap.size w w2 ∧ Src w.heap.size bs w2 ∧ w2.heap[w.heap.size]? = some (.cells zeroCells 30 (0, 0)) ∧ w2.heap[bp]? = some (.cells (netCells p h) 30 (0, 0)) := by
  have hsz := a.below.size
  refine ⟨a.below.grown hg hsz (fun g hg => by have := hr g hg; omega), a.src.kept2 hg h2 hsz (fun g hg => by have := hr g hg; omega), ?_, ?_⟩
  · rw [hg.block _ (lt_heap a.res) (fun e => by have := hr _ e.symm; omega)]; exact a.res
  · rw [hg.block _ (lt_heap a.box) (fun e => h1 e.symm)]; exact a.box
theorem WS.alloc (a : WS w bp bs p h wr) (o : Obj) : WS w bp bs p h (wr.alloc o) := by
  obtain ⟨b1, b2, b3, b4⟩ := a.base (World.grownBy_alloc wr o none) (by simp) (by simp) (by simp)
  exact ⟨b1, b2, b3, b4, a.own.allocs o, a.lo, a.lt⟩
theorem WS.drew (a : WS w bp bs p h wr) : WS w bp bs p h wr.drew :=
  a.next ⟨rfl, rfl, rfl, Nat.le_refl _, fun _ _ _ => rfl⟩ (by obtain ⟨A, l, c, h1, h2, h3, h4⟩ := a.src; exact ⟨A, l, c, h1, h2, h3, h4⟩)
theorem WS.cells (a : WS w bp bs p h wr) (i : Nat) : wr.cell? ⟨bp, i, none⟩ = (netCells p h)[i]? := cell_of_row wr _ i _ _ _ a.box
theorem WS.free (a : WS w bp bs p h wr) (i : Nat) : wr.frozen? ⟨bp, i, none⟩ = false := frozen_of_row wr _ i _ _ a.box
theorem WS.all (a : WS w bp bs p h wr) : wr.cell? ⟨bp, 0, none⟩ = some (.int .i64 p.proto) ∧ wr.cell? ⟨bp, 1, none⟩ = some (.int .i64 p.cap) ∧ wr.cell? ⟨bp, 2, none⟩ = some (.int .i64 p.k) ∧
    wr.cell? ⟨bp, 3, none⟩ = some (.slice h.an p.nodes.length h.cn) ∧ wr.cell? ⟨bp, 4, none⟩ = some (.slice h.al p.links.length h.cl) ∧ wr.cell? ⟨bp, 5, none⟩ = some (.slice h.ad p.dests.length h.cd) ∧ wr.cell? ⟨bp, 6, none⟩ = some (.slice h.ac p.checks.length h.cc) :=
  ⟨a.cells 0, a.cells 1, a.cells 2, a.cells 3, a.cells 4, a.cells 5, a.cells 6⟩
theorem Src.setFar {B b : Nat} (h : Src B b wr) {q : Addr} (hq : q.block ≠ b) (hB : B ≤ q.block) (v : Value) : Src B b (wr.setCell q v) := by
  obtain ⟨A, l, c, s1, s2, s3, s4⟩ := h
  exact ⟨A, l, c, (Below.heap_setCell _ _ _ _ (fun e => hq e.symm)).trans s1, s2, s3, s4.setCell hB _⟩
/-- A cell of the box is written, its rows as they are. -/
theorem WS.put (a : WS w bp bs p h wr) (i : Nat) (v : Value) (hp : netCells p' h = (netCells p h).setIfInBounds i v) (e1 : p'.nodes = p.nodes) (e2 : p'.links = p.links) (e3 : p'.dests = p.dests) (e4 : p'.checks = p.checks) : WS w bp bs p' h (wr.setCell ⟨bp, i, none⟩ v) := by
  obtain ⟨h1, h2, h3, h4, h5, h6, h7⟩ := a
  exact ⟨h1.setCell (by first | (simp; omega) | simp) _, h2.setFar (by first | (simp; omega) | simp) (by first | (simp; omega) | simp) _, (Below.heap_setCell _ _ _ _ (by first | (simp; omega) | simp)).trans h3, by rw [hp, heap_setCell_same _ _ _ _ _ _ h4], (h5.setBox h4 farPlan v).same e1 e2 e3 e4, h6, h7⟩
theorem nd_put : ∀ (L : List Nd) (k j : Nat) (x x' : Nd) (v : Value), L[k]? = some x → j < 2 → ndCells x' = (ndCells x).set j v → (L.set k x').flatMap ndCells = (L.flatMap ndCells).set (k * 2 + j) v
  | [], k, j, x, x', v, h, _, _ => by simp at h
  | y :: L, 0, j, x, x', v, h, hj, he => by
    simp at h; subst h
    rw [List.set_cons_zero, List.flatMap_cons, List.flatMap_cons, he, List.set_append, if_pos (by simp [ndCells]; omega)]
    simp
  | y :: L, k + 1, j, x, x', v, h, hj, he => by
    have ih := nd_put L k j x x' v (by simpa using h) hj he
    have e : (k + 1) * 2 + j = (k * 2 + j) + 2 := by omega
    rw [List.set_cons_succ, List.flatMap_cons, List.flatMap_cons, ih, e, List.set_append, if_neg (by simp [ndCells])]
    simp [ndCells]
/-- A node is turned in its place. -/
theorem WS.node (a : WS w bp bs p h wr) {k j g off : Nat} {x x' : Nd} {v : Value} (hx : p.nodes[k]? = some x) (he : h.an = some ⟨g, off, none⟩) (hj : j < 2) (hv : ndCells x' = (ndCells x).set j v) :
    WS w bp bs { p with nodes := p.nodes.set k x' } h (wr.setCell ⟨g, off + (k * 2 + j), none⟩ v) ∧ wr.frozen? ⟨g, off + (k * 2 + j), none⟩ = false := by
  obtain ⟨h1, h2, h3, h4, h5, h6, h7⟩ := a
  have hk := (List.getElem?_eq_some_iff.1 hx).1
  have hnd := h5.nodes
  have hnd0 := hnd
  obtain ⟨q1, q2, q3, q4, q5, q6⟩ := hnd
  obtain ⟨g', off', cur, e', hh, hs, hxs⟩ := q6 (by omega)
  rw [he] at e'
  injection e' with e'
  injection e' with e1 e2
  subst e1 e2
  have hB := q5 g (by rw [he]; rfl)
  have hgp : g ≠ bp := fun e => hnd0.not_at h5.zn h4 (by decide) (by rw [he, e]; rfl)
  obtain ⟨As, ls, cs, hsr, hsr2⟩ := h2
  have hgs : g ≠ bs := fun e => hnd0.not_at h5.zn hsr (by decide) (by rw [he, e]; rfl)
  have hlen : k * 2 + j < (p.nodes.flatMap ndCells).length := by rw [flat_len (f := ndCells) (s := 2) (fun _ => rfl)]; omega
  refine ⟨⟨h1.setCell (by first | (simp; omega) | simp) _, Src.setFar (q := ⟨g, _, none⟩) ⟨As, ls, cs, hsr, hsr2⟩ hgs (by first | (simp; omega) | simp) _, (Below.heap_setCell _ _ _ _ (by first | (simp; omega) | simp)).trans h3, (Below.heap_setCell _ _ _ _ (fun e => hgp e.symm)).trans ?_, ?_, h6, h7⟩, frozen_of_row wr g _ _ _ hh⟩
  · rw [h4]; unfold netCells; simp
  · refine ⟨?_, h5.links.setCell_type (p := ⟨g, _, none⟩) hh (by decide) _, h5.dlen, h5.dests.setCell_type (p := ⟨g, _, none⟩) hh (by decide) _, fun z hz => (h5.origins z hz).setCell_type (p := ⟨g, _, none⟩) hh (by decide) _, h5.checks.setCell_type (p := ⟨g, _, none⟩) hh (by decide) _, h5.zn, h5.zl, h5.zd, h5.zc⟩
    show Own _ _ _ _ _ (p.nodes.set k x').length _ ((p.nodes.set k x').flatMap ndCells)
    rw [nd_put _ _ _ _ _ _ hx hj hv, List.length_set]
    refine ⟨by rw [List.length_set]; exact q1, q2, q3, q4, q5, fun hc => ?_⟩
    refine ⟨g, off, cur.setIfInBounds (off + (k * 2 + j)) v, he, heap_setCell_same wr g _ cur _ v hh, by simpa using hs, fun i u hu => ?_⟩
    by_cases e : i = k * 2 + j
    · subst e
      rw [List.getElem?_set_self hlen] at hu
      injection hu with hu
      have : off + (k * 2 + j) < cur.size := (Array.getElem?_eq_some_iff.1 (hxs _ _ (List.getElem?_eq_getElem hlen))).1
      rw [← hu]; simp [this]
    · rw [List.getElem?_set_ne (Ne.symm e)] at hu
      rw [Array.getElem?_setIfInBounds_ne (by omega)]
      exact hxs i u hu
/-- A row has grown, and its head is written into the box. -/
theorem WS.addLink (a : WS w bp bs p h wr) {x : Lk} {A2 : Option Addr} {c2 n : Nat} (hn : n = p.links.length + 1) (hg : wr.grownBy w2 (blk h.al)) (hown : Own w2 (w.heap.size + 1) 58 3 A2 n c2 (p.links.flatMap lkCells ++ lkCells x)) :
    WS w bp bs { p with links := p.links ++ [x] } { h with al := A2, cl := c2 } (w2.setCell ⟨bp, 4, none⟩ (.slice A2 n c2)) := by
  subst hn
  have hO := a.own
  have hlt := a.lt
  have hlo := a.lo
  obtain ⟨As, ls, cs, hsr, hsr2⟩ := a.src
  obtain ⟨b1, b2, b3, b4⟩ := a.base hg hO.links.from_ (hO.links.not_at hO.zl a.box (by decide)) (hO.links.not_at hO.zl hsr (by decide))
  have hN : NetOwn w2 (w.heap.size + 1) { p with links := p.links ++ [x] } { h with al := A2, cl := c2 } := by
    obtain ⟨h1, h2, h3, h4, h5, h6, z1, z2, z3, z4⟩ := hO
    refine ⟨h1.kept' hg (own_apart h1 h2 (by decide) z2), ?_, h3, h4.kept' hg (own_apart h4 h2 (by decide) z2), fun z hz => (h5 z hz).kept' hg (own_apart (h5 z hz) h2 (by decide) z2), h6.kept' hg (own_apart h6 h2 (by decide) z2), z1, ?_, z3, z4⟩
    · rw [flat_snoc]; simpa using hown
    · intro e; have := hown.2.1; simp at e; omega
  exact ⟨b1.setCell (by first | (simp; omega) | simp) _, b2.setFar (by first | (simp; omega) | simp) (by first | (simp; omega) | simp) _, (Below.heap_setCell _ _ _ _ (by first | (simp; omega) | simp)).trans b3, by rw [heap_setCell_same _ _ _ _ _ _ b4]; simp [netCells], hN.setBox b4 farPlan _, a.lo, a.lt⟩
theorem WS.addCheck (a : WS w bp bs p h wr) {x : Ck} {A2 : Option Addr} {c2 n : Nat} (hn : n = p.checks.length + 1) (hg : wr.grownBy w2 (blk h.ac)) (hown : Own w2 (w.heap.size + 1) 62 5 A2 n c2 (p.checks.flatMap ckCells ++ ckCells x)) :
    WS w bp bs { p with checks := p.checks ++ [x] } { h with ac := A2, cc := c2 } (w2.setCell ⟨bp, 6, none⟩ (.slice A2 n c2)) := by
  subst hn
  have hO := a.own
  have hlt := a.lt
  have hlo := a.lo
  obtain ⟨As, ls, cs, hsr, hsr2⟩ := a.src
  obtain ⟨b1, b2, b3, b4⟩ := a.base hg hO.checks.from_ (hO.checks.not_at hO.zc a.box (by decide)) (hO.checks.not_at hO.zc hsr (by decide))
  have hN : NetOwn w2 (w.heap.size + 1) { p with checks := p.checks ++ [x] } { h with ac := A2, cc := c2 } := by
    obtain ⟨h1, h2, h3, h4, h5, h6, z1, z2, z3, z4⟩ := hO
    refine ⟨h1.kept' hg (own_apart h1 h6 (by decide) z4), h2.kept' hg (own_apart h2 h6 (by decide) z4), h3, h4.kept' hg (own_apart h4 h6 (by decide) z4), fun z hz => (h5 z hz).kept' hg (own_apart (h5 z hz) h6 (by decide) z4), ?_, z1, z2, z3, ?_⟩
    · rw [flat_snoc]; simpa using hown
    · intro e; have := hown.2.1; simp at e; omega
  exact ⟨b1.setCell (by first | (simp; omega) | simp) _, b2.setFar (by first | (simp; omega) | simp) (by first | (simp; omega) | simp) _, (Below.heap_setCell _ _ _ _ (by first | (simp; omega) | simp)).trans b3, by rw [heap_setCell_same _ _ _ _ _ _ b4]; simp [netCells], hN.setBox b4 farPlan _, a.lo, a.lt⟩
theorem WS.addDest (a : WS w bp bs p h wr) {x : Ds} {o : Option Addr × Nat} {A2 : Option Addr} {c2 n : Nat} (hn : n = p.dests.length + 1) (ho : Own wr (w.heap.size + 1) 3 1 o.1 x.origins.length o.2 (ints x.origins)) (hg : wr.grownBy w2 (blk h.ad))
    (hown : Own w2 (w.heap.size + 1) 60 2 A2 n c2 ((p.dests.zip h.dv).flatMap dsCells ++ dsCells (x, o))) :
    WS w bp bs { p with dests := p.dests ++ [x] } { h with ad := A2, cd := c2, dv := h.dv ++ [o] } (w2.setCell ⟨bp, 5, none⟩ (.slice A2 n c2)) := by
  subst hn
  have hO := a.own
  have hlt := a.lt
  have hlo := a.lo
  obtain ⟨As, ls, cs, hsr, hsr2⟩ := a.src
  obtain ⟨b1, b2, b3, b4⟩ := a.base hg hO.dests.from_ (hO.dests.not_at hO.zd a.box (by decide)) (hO.dests.not_at hO.zd hsr (by decide))
  have hN : NetOwn w2 (w.heap.size + 1) { p with dests := p.dests ++ [x] } { h with ad := A2, cd := c2, dv := h.dv ++ [o] } := by
    obtain ⟨h1, h2, h3, h4, h5, h6, z1, z2, z3, z4⟩ := hO
    have hz : (p.dests ++ [x]).zip (h.dv ++ [o]) = p.dests.zip h.dv ++ [(x, o)] := by rw [List.zip_append h3.symm]; rfl
    refine ⟨h1.kept' hg (own_apart h1 h4 (by decide) z3), h2.kept' hg (own_apart h2 h4 (by decide) z3), by simp [h3], ?_, ?_, h6.kept' hg (own_apart h6 h4 (by decide) z3), z1, z2, ?_, z4⟩
    · rw [hz, flat_snoc]; simpa using hown
    · intro z hzm
      rw [hz] at hzm
      rcases List.mem_append.1 hzm with hzm | hzm
      · exact (h5 z hzm).kept' hg (own_apart (h5 z hzm) h4 (by decide) z3)
      · simp at hzm; subst hzm
        exact ho.kept' hg (own_apart ho h4 (by decide) z3)
    · intro e; have := hown.2.1; simp at e; omega
  exact ⟨b1.setCell (by first | (simp; omega) | simp) _, b2.setFar (by first | (simp; omega) | simp) (by first | (simp; omega) | simp) _, (Below.heap_setCell _ _ _ _ (by first | (simp; omega) | simp)).trans b3, by rw [heap_setCell_same _ _ _ _ _ _ b4]; simp [netCells], hN.setBox b4 farPlan _, a.lo, a.lt⟩
/-- Behind an append the box may be written. -/
theorem WS.cell2 (a : WS w bp bs p h wr) {row : Option Nat} (hg : wr.grownBy w2 row) (h1 : row ≠ some bp) (i : Nat) : w2.cell? ⟨bp, i, none⟩ = (netCells p h)[i]? ∧ w2.frozen? ⟨bp, i, none⟩ = false := by
  have hb : w2.heap[bp]? = some (.cells (netCells p h) 30 (0, 0)) := by rw [hg.block _ (lt_heap a.box) (fun e => h1 e.symm)]; exact a.box
  exact ⟨cell_of_row w2 _ i _ _ _ hb, frozen_of_row w2 _ i _ _ hb⟩
theorem WS.cells2 (a : WS w bp bs p h wr) {row : Option Nat} (hg : wr.grownBy w2 row) (h1 : row ≠ some bp) : w2.cell? ⟨bp, 4, none⟩ = some (.slice h.al p.links.length h.cl) ∧ w2.cell? ⟨bp, 5, none⟩ = some (.slice h.ad p.dests.length h.cd) ∧
    w2.cell? ⟨bp, 6, none⟩ = some (.slice h.ac p.checks.length h.cc) ∧ w2.frozen? ⟨bp, 4, none⟩ = false ∧ w2.frozen? ⟨bp, 5, none⟩ = false ∧ w2.frozen? ⟨bp, 6, none⟩ = false :=
  ⟨(a.cell2 hg h1 4).1, (a.cell2 hg h1 5).1, (a.cell2 hg h1 6).1, (a.cell2 hg h1 4).2, (a.cell2 hg h1 5).2, (a.cell2 hg h1 6).2⟩
/-- One number of the source. -/
theorem wnext (a : WS w bp bs p h wr) (n : Int) (hn : 0 < n) (hn2 : n < 1000000) : Calls Tryz.prog 17 #[.pointer (some ⟨bs, 0, none⟩), .int .i64 n] wr fun e w' => ∃ k : Nat, e = .returned (.int .i64 (k : Int)) ∧ (k : Int) < n ∧ WS w bp bs p h w' ∧ wr.grownBy w' (some bs) :=
  (next_any w.heap.size bs n wr a.src (by have := a.lo; have := a.lt; omega) hn hn2).mono fun e w' ⟨k, h1, h2, h3, h4, h5⟩ => ⟨k.toNat, by rw [h1, Int.toNat_of_nonneg h2], by omega, a.next h5 h4, h5⟩
/-- A network is handed back, which may be wrong. -/
def WildPost (w : World) (e : Ending) (w' : World) : Prop := ∃ p h, e = .returned (netV p h) ∧ Small p ∧ NetR w' w'.heap.size p h ∧ Below w.heap.size w w'
theorem WS.post (a : WS w bp bs p h wr) (hs : Small p) : WildPost w (.returned (netV p h)) (netEnd w.heap.size wr p h) := by
  have hg := netEnd_grown w.heap.size wr p h
  exact ⟨p, h, rfl, hs, (a.own.grow hg a.res farPlan).net, a.below.grown hg a.below.size (fun g hg => by injection hg with hg; omega)⟩
theorem WS.resAt (a : WS w bp bs p h wr) : (∀ i, wr.frozen? ⟨w.heap.size, i, none⟩ = false) ∧ wr.cell? ⟨w.heap.size, 0, none⟩ = some (.int .i64 0) ∧ wr.cell? ⟨w.heap.size, 1, none⟩ = some (.int .i64 0) ∧ wr.cell? ⟨w.heap.size, 2, none⟩ = some (.int .i64 0) ∧
    wr.cell? ⟨w.heap.size, 3, none⟩ = some (.slice none 0 0) ∧ wr.cell? ⟨w.heap.size, 4, none⟩ = some (.slice none 0 0) ∧ wr.cell? ⟨w.heap.size, 5, none⟩ = some (.slice none 0 0) ∧ wr.cell? ⟨w.heap.size, 6, none⟩ = some (.slice none 0 0) :=
  ⟨fun i => frozen_of_row wr _ i _ _ a.res, cell_of_row wr _ 0 _ _ _ a.res, cell_of_row wr _ 1 _ _ _ a.res, cell_of_row wr _ 2 _ _ _ a.res, cell_of_row wr _ 3 _ _ _ a.res, cell_of_row wr _ 4 _ _ _ a.res, cell_of_row wr _ 5 _ _ _ a.res, cell_of_row wr _ 6 _ _ _ a.res⟩
/-- What Wild keeps small. -/
structure WSm (p : Net) : Prop where
  n : p.nodes.length ≤ 7
  n1 : 1 ≤ p.nodes.length
  l : p.links.length ≤ 10
  d : p.dests.length ≤ 3
  c : p.checks.length ≤ 7
  o : ∀ d ∈ p.dests, d.origins.length ≤ 2
theorem WSm.small (a : WSm p) : Small p := ⟨by have := a.n; omega, by have := a.l; omega, by have := a.d; omega, by have := a.c; omega, fun d hd => by have := a.o d hd; omega⟩
theorem NetOk.wsm (a : NetOk p) : p.nodes.length ≤ 7 ∧ 1 ≤ p.nodes.length ∧ p.links.length ≤ 9 ∧ p.dests.length ≤ 2 ∧ p.checks.length ≤ 6 ∧ ∀ d ∈ p.dests, d.origins.length ≤ 2 :=
  ⟨a.n.2, by have := a.n.1; omega, a.l9, a.d12.2, a.c6, fun d hd => by rcases a.dests.each d hd with ⟨o, e, _⟩ | ⟨o, q, e, _⟩ <;> rw [e] <;> simp⟩
end
end Go.Proofs.YtakolnmoieiicaaGreat

/- The walk of short.Best: a range over ways, within a range over origins. -/
import Derived.Test.YtlnnmjomdblciaaGreatShortA
import Derived.Test.YtlnnmjomdblciaaGreatIter
namespace Go.Proofs.YtlnnmjomdblciaaGreat
set_option linter.unusedSimpArgs false
set_option linter.unusedVariables false
open Go.RowKit

section
theorem along_any (p : Net) (h : Hd) (f : Int) (q : List Nat) (A : Option Addr) (c : Nat) (w : World) (hp : NetR w w.heap.size p h) (hg : Good p) (hr : Rd w w.heap.size 1 A q.length (nats q)) (hc : q.length ≤ c) (hcm : c ≤ maxLen) (hq : WayQ p f q) :
    Calls Tryz.prog 25 #[netV p h, .int .i64 f, .slice A q.length c] w (OrPost (wayR p f q) w) := by
  rw [← hq.eq hg]
  by_cases hpr : p.proto = 2
  · exact alongP_any p h f q A c w hp hg hpr hr hc hcm hq
  · exact alongV_any p h f q A c w hp hg hpr hr hc hcm hq
/-- The best so far. -/
def bestN (p : Net) (f : Int) (r : Rt) (L : List (List Nat)) : Rt := (L.map (wayR p f)).foldl bestStepR r
theorem bestN_snoc (p : Net) (f : Int) (r : Rt) (L : List (List Nat)) (q : List Nat) : bestN p f r (L ++ [q]) = bestStepR (bestN p f r L) (wayR p f q) := by unfold bestN; simp
/-- The best of what origins' ways make. -/
def bestO (p : Net) (f : Int) (u : Nat) (l : List Int) : Rt := (l.flatMap fun b => (waysN p f u b.toNat).map (wayR p f)).foldl bestStepR rtNone
theorem bestO_snoc (p : Net) (f : Int) (u : Nat) (l : List Int) (b : Int) : bestO p f u (l ++ [b]) = bestN p f (bestO p f u l) (waysN p f u b.toNat) := by
  unfold bestO bestN
  rw [List.flatMap_append, List.foldl_append]; simp
/-- What Best keeps. -/
structure BsI (p : Net) (h : Hd) (f : Int) (w : World) (Ds : List Nat) (r : Rt) (W : World) : Prop where
  below : Below w.heap.size w W
  plan : W.heap[w.heap.size]? = some (.cells (netCells p h) 31 (0, 0))
  fl : W.heap[w.heap.size + 1]? = some (.cells #[.int .i64 f] 3 (0, 0))
  out : ∃ (A : Option Addr) (c : Nat), W.heap[w.heap.size + 1 + 1]? = some (.cells #[.int .i64 r.kind, .int .i64 r.cost, .slice A r.path.length c] 24 (0, 0)) ∧ OwnOr W (w.heap.size + 3) A c r.path
  ok : RtOk r
  marks : ∀ D ∈ Ds, W.heap[D]? = some (.deferred (some []))
  markge : ∀ D ∈ Ds, w.heap.size ≤ D
section
variable {p : Net} {h : Hd} {f : Int} {w W W' : World} {Ds : List Nat} {r : Rt}
theorem BsI.begin (p : Net) (h : Hd) (f : Int) (w : World) : BsI p h f w [] rtNone (((w.alloc (.cells (netCells p h) 31)).alloc (.cells #[.int .i64 f] 3)).alloc (.cells #[.int .i64 0, .int .i64 0, .slice none 0 0] 24)) := by
  have hB := (((Bl.begin w).push (by simp) (.cells (netCells p h) 31)).push (by simp) (.cells #[.int .i64 f] 3)).push (by simp) (.cells #[.int .i64 0, .int .i64 0, .slice none 0 0] 24)
  exact ⟨hB.below, hB.at_ 0 _ rfl, hB.at_ 1 _ rfl, ⟨none, 0, hB.at_ 2 _ rfl, OwnOr.nil⟩, ok_none, (by intro D hD; cases hD), (by intro D hD; cases hD)⟩
theorem BsI.call (a : BsI p h f w Ds r W) (hb : Below W.heap.size W W') : BsI p h f w Ds r W' := by
  obtain ⟨A, c, hx, ho⟩ := a.out
  exact ⟨since_trans a.below hb, (hb.block _ (lt_heap a.plan)).trans a.plan, (hb.block _ (lt_heap a.fl)).trans a.fl, ⟨A, c, (hb.block _ (lt_heap hx)).trans hx, ho.call hb⟩, a.ok, fun D hD => (hb.block _ (Array.getElem?_eq_some_iff.1 (a.marks D hD)).1).trans (a.marks D hD), a.markge⟩
theorem BsI.net (a : BsI p h f w Ds r W) (hp : NetR w w.heap.size p h) : NetR W W.heap.size p h := hp.call a.below
theorem BsI.cells (a : BsI p h f w Ds r W) : W.cell? ⟨w.heap.size, 0, none⟩ = some (.int .i64 p.proto) ∧ W.cell? ⟨w.heap.size, 1, none⟩ = some (.int .i64 p.cap) ∧ W.cell? ⟨w.heap.size, 2, none⟩ = some (.int .i64 p.k) ∧ W.cell? ⟨w.heap.size, 3, none⟩ = some (.slice h.an p.nodes.length h.cn) ∧ W.cell? ⟨w.heap.size, 4, none⟩ = some (.slice h.al p.links.length h.cl) ∧ W.cell? ⟨w.heap.size, 5, none⟩ = some (.slice h.ad p.dests.length h.cd) ∧ W.cell? ⟨w.heap.size, 6, none⟩ = some (.slice h.ac p.checks.length h.cc) := ⟨cell_of_row W _ 0 _ _ _ a.plan, cell_of_row W _ 1 _ _ _ a.plan, cell_of_row W _ 2 _ _ _ a.plan, cell_of_row W _ 3 _ _ _ a.plan, cell_of_row W _ 4 _ _ _ a.plan, cell_of_row W _ 5 _ _ _ a.plan, cell_of_row W _ 6 _ _ _ a.plan⟩
end
theorem bs_iter {p : Net} {h : Hd} {f : Int} {w w5 : World} {Ds : List Nat} {r0 : Rt} {u b : Nat} (h5 : Below w.heap.size w w5) (hs : w.heap.size + 3 ≤ w5.heap.size) : IterI (fun L W => BsI p h f w Ds (bestN p f r0 L) W ∧ w5.heap.size ≤ W.heap.size) (fun q z W => q ∈ waysN p f u b ∧ WayP w.heap.size q z W) (KeepT w.heap.size) w.heap.size w5 w5 where
  keep := fun _ _ _ a hb => ⟨a.1.call hb, Nat.le_trans a.2 hb.size⟩
  rec_ := by
    rintro L W l r o ⟨a, hsz⟩ hle hl
    refine ⟨?_, by simpa [World.putObj] using hsz⟩
    obtain ⟨A, c, hx, ho⟩ := a.out
    have hne : ∀ (k : Nat) (ob : Obj), W.heap[k]? = some ob → ob.isCells = true ∨ (∃ d, ob = .deferred d) → (W.putObj l o).heap[k]? = some ob := fun k ob hk hc => (World.putObj_heap_other (fun e => by subst e; rw [hk] at hl; injection hl with hl; subst hl; rcases hc with hc | ⟨d, hc⟩ <;> cases hc)).trans hk
    exact ⟨below_putLoop a.below (by omega) o, hne _ _ a.plan (.inl rfl), hne _ _ a.fl (.inl rfl), ⟨A, c, hne _ _ hx (.inl rfl), ho.imp (fun h => h.putLoop hl o) id⟩, a.ok, fun D hD => hne _ _ (a.marks D hD) (.inr ⟨_, rfl⟩), a.markge⟩
  base := fun _ _ a => ⟨a.1.below.os.trans h5.os.symm, a.1.below.tape.trans h5.tape.symm, a.1.below.output.trans h5.output.symm, a.2, fun k hk => (a.1.below.block k hk).trans (h5.block k hk).symm⟩
  pre := fun q g W l r o h _ hl => ⟨h.1, h.2.1, h.2.2.1, h.2.2.2.1, h.2.2.2.2.putLoop hl o⟩
  trans := fun _ _ _ h k => h.trans k
  kp := fun W l r o hle hl => KeepT.putLoop (by omega) hl o
/-- One more way. -/
theorem bs_step {p : Net} {h : Hd} {f : Int} {w V w8 : World} {Ds : List Nat} {r y : Rt} {A A' : Option Addr} {c c' : Nat} (a : BsI p h f w Ds r V) (hx : V.heap[w.heap.size + 1 + 1]? = some (.cells #[.int .i64 r.kind, .int .i64 r.cost, .slice A r.path.length c] 24 (0, 0))) (hb : Below V.heap.size V w8) (ho : OwnOr w8 (w.heap.size + 3) A' c' y.path) (hy : RtOk y) :
    KeepsOthers V (((w8.setCell ⟨w.heap.size + 1 + 1, 0, none⟩ (.int .i64 y.kind)).setCell ⟨w.heap.size + 1 + 1, 1, none⟩ (.int .i64 y.cost)).setCell ⟨w.heap.size + 1 + 1, 2, none⟩ (.slice A' y.path.length c')) ∧
    KeepT w.heap.size V (((w8.setCell ⟨w.heap.size + 1 + 1, 0, none⟩ (.int .i64 y.kind)).setCell ⟨w.heap.size + 1 + 1, 1, none⟩ (.int .i64 y.cost)).setCell ⟨w.heap.size + 1 + 1, 2, none⟩ (.slice A' y.path.length c')) ∧
    BsI p h f w Ds y (((w8.setCell ⟨w.heap.size + 1 + 1, 0, none⟩ (.int .i64 y.kind)).setCell ⟨w.heap.size + 1 + 1, 1, none⟩ (.int .i64 y.cost)).setCell ⟨w.heap.size + 1 + 1, 2, none⟩ (.slice A' y.path.length c')) := by
  have hV := lt_heap hx
  have h8 : w8.heap[w.heap.size + 1 + 1]? = _ := (hb.block _ hV).trans hx
  have h9 := heap_setCell_same _ (w.heap.size + 1 + 1) 2 _ _ (.slice A' y.path.length c') (heap_setCell_same _ (w.heap.size + 1 + 1) 1 _ _ (.int .i64 y.cost) (heap_setCell_same w8 (w.heap.size + 1 + 1) 0 _ _ (.int .i64 y.kind) h8))
  have hfar : ∀ k, k ≠ w.heap.size + 1 + 1 → (((w8.setCell ⟨w.heap.size + 1 + 1, 0, none⟩ (.int .i64 y.kind)).setCell ⟨w.heap.size + 1 + 1, 1, none⟩ (.int .i64 y.cost)).setCell ⟨w.heap.size + 1 + 1, 2, none⟩ (.slice A' y.path.length c')).heap[k]? = w8.heap[k]? := fun k hk => by
    rw [Below.heap_setCell _ _ _ _ hk, Below.heap_setCell _ _ _ _ hk, Below.heap_setCell _ _ _ _ hk]
  have hb9 : Below w.heap.size V (((w8.setCell ⟨w.heap.size + 1 + 1, 0, none⟩ (.int .i64 y.kind)).setCell ⟨w.heap.size + 1 + 1, 1, none⟩ (.int .i64 y.cost)).setCell ⟨w.heap.size + 1 + 1, 2, none⟩ (.slice A' y.path.length c')) :=
    (((hb.mono (by omega : w.heap.size ≤ V.heap.size)).setCell (p := ⟨w.heap.size + 1 + 1, 0, none⟩) (by dsimp only; omega) _).setCell (p := ⟨w.heap.size + 1 + 1, 1, none⟩) (by dsimp only; omega) _).setCell (p := ⟨w.heap.size + 1 + 1, 2, none⟩) (by dsimp only; omega) _
  refine ⟨((⟨hb.size, fun k o hk _ => (hb.block k (Array.getElem?_eq_some_iff.1 hk).1).trans hk⟩ : KeepsOthers V w8).trans (KeepsOthers.setCell _ _ _)).trans (KeepsOthers.setCell _ _ _) |>.trans (KeepsOthers.setCell _ _ _), ⟨hb9, by simpa [World.setCell] using hb.size, fun k cs t fr hk ht => ?_⟩, ?_⟩
  · have hne : k ≠ w.heap.size + 1 + 1 := by
      rintro rfl
      rw [hx] at hk
      injection hk with hk
      injection hk with _ h2
      rcases ht with ht | ht <;> rw [ht] at h2 <;> exact absurd h2 (by decide)
    rw [hfar k hne, hb.block k (lt_heap hk)]
  · refine ⟨a.below.trans hb9, (hfar _ (by omega)).trans ((hb.block _ (lt_heap a.plan)).trans a.plan), (hfar _ (by omega)).trans ((hb.block _ (lt_heap a.fl)).trans a.fl), ⟨A', c', h9, ((ho.far (q := ⟨w.heap.size + 1 + 1, 0, none⟩) (by dsimp only; omega) _).far (q := ⟨w.heap.size + 1 + 1, 1, none⟩) (by dsimp only; omega) _).far (q := ⟨w.heap.size + 1 + 1, 2, none⟩) (by dsimp only; omega) _⟩, hy, fun D hD => ?_, a.markge⟩
    have hD1 := a.marks D hD
    have hne : D ≠ w.heap.size + 1 + 1 := by rintro rfl; rw [hx] at hD1; cases hD1
    exact (hfar _ hne).trans ((hb.block _ (Array.getElem?_eq_some_iff.1 hD1).1).trans hD1)
/-- The better of two. -/
theorem best2_ok {r x : Rt} (h1 : RtOk r) (h2 : RtOk x) : RtOk (bestStepR r x) := by unfold bestStepR; split <;> assumption
theorem ok_path {r : Rt} (h : RtOk r) : r.path.length ≤ 1000000 := by
  rcases h.kind with e | e | e
  · rw [h.k0 e]; simp [rtNone]
  · rw [(h.k1 e).2.2]; simp
  · have := (h.k2 e).2.1; omega
theorem two_best {w6 : World} {r x : Rt} {A A2 : Option Addr} {c c2 : Nat} (hr : RtR w6 w6.heap.size r A c) (hx : RtR w6 w6.heap.size x A2 c2) (h1 : RtOk r) (h2 : RtOk x) :
    Calls Tryz.prog 72 #[.slice (some ⟨w6.heap.size, 0, none⟩) 2 2] (w6.alloc (.cells #[.int .i64 r.kind, .int .i64 r.cost, .slice A r.path.length c, .int .i64 x.kind, .int .i64 x.cost, .slice A2 x.path.length c2] 24)) (OrPost (bestStepR r x) w6) := by
  refine (best_any [(r, (A, c)), (x, (A2, c2))] _ _ _ ⟨Rd.new rfl rfl, ?_⟩ (by simp) (by intro z hz; simp at hz; rcases hz with rfl | rfl; (exact ok_path h1); (exact ok_path h2))).mono ?_
  · intro z hz
    simp at hz
    rcases hz with rfl | rfl
    · exact (hr.alloc (Nat.le_refl _) _).more (by simp)
    · exact (hx.alloc (Nat.le_refl _) _).more (by simp)
  · rintro e w' ⟨A3, c3, h3, h4, _, h5⟩
    exact ⟨A3, c3, h3, .inl (h4.more (by simp)), ((Below.refl _ _).alloc (Nat.le_refl _) _).trans (h5.mono (by simp))⟩
theorem bs_leave {p : Net} {h : Hd} {f : Int} {w : World} {r : Rt} {F : Fence} {n : Nat} {fn : Func} {tmps : Array Value} {R : Ending → World → Prop} (hnil : ∀ W, BsI p h f w [] r W → LeavesInM F n Tryz.prog fn tmps R [] .returning W) : ∀ (Ds : List Nat) (W : World), Ds.Nodup → BsI p h f w Ds r W → LeavesInM F n Tryz.prog fn tmps R (Ds.map fun D => { target := .collected D, args := #[] }) .returning W
  | [], W, _, a => hnil W a
  | D :: Ds, W, hnd, a => by
    have hD := a.marks D (List.mem_cons_self ..)
    obtain ⟨hm, hnd'⟩ := List.nodup_cons.1 hnd
    refine ⟨by simp, .inl ⟨_, _, rfl, run_takeDeferred hD, ?_⟩⟩
    have hne : ∀ (k : Nat) (cs : Array Value) (t : TypeId) (fr : Nat × Nat), W.heap[k]? = some (.cells cs t fr) → (W.putObj D (.deferred none)).heap[k]? = some (.cells cs t fr) := fun k cs t fr hk => (World.putObj_heap_other (fun e => by subst e; rw [hk] at hD; cases hD)).trans hk
    obtain ⟨A, c, hx, ho⟩ := a.out
    have hDw : w.heap.size ≤ D := by
      rcases Nat.lt_or_ge D w.heap.size with hlt | hge
      · have h1 := hne _ _ _ _ a.plan
        exact a.markge D (List.mem_cons_self ..)
      · exact hge
    exact bs_leave hnil Ds _ hnd' ⟨below_putLoop a.below hDw _, hne _ _ _ _ a.plan, hne _ _ _ _ a.fl, ⟨A, c, hne _ _ _ _ hx, ho.imp (fun h => h.putNo hD rfl _) id⟩, a.ok, fun E hE => (World.putObj_heap_other (fun e => by subst e; exact hm hE)).trans (a.marks E (List.mem_cons_of_mem _ hE)), fun E hE => a.markge E (List.mem_cons_of_mem _ hE)⟩
attribute [local go_sem] Oper.semAt_some
attribute [local go_sem ↓] Go.wp_at_zero Go.wp_at_succ
set_option maxRecDepth 100000 in
set_option maxHeartbeats 4000000 in
theorem sbest_any (p : Net) (h : Hd) (f : Int) (d u : Nat) (w : World) (hp : NetR w w.heap.size p h) (hg : Good p) (h7 : p.nodes.length ≤ 7) (hd : d < p.dests.length) (hu : u < p.nodes.length) (hob : ∀ b ∈ orgOf p d, 0 ≤ b ∧ b < p.nodes.length) (hol : (orgOf p d).length ≤ 100) :
    Calls Tryz.prog 41 #[netV p h, .int .i64 f, .int .i64 (d : Int), .int .i64 (u : Int)] w (OrPost (bestO p f u (orgOf p d)) w) := by
  have HP := Lib.hid hp
  have HG := Lib.hid hg
  have I0 := Lib.hid (BsI.begin p h f w)
  obtain ⟨z, bd, od, hz, had, hbd, hdc, hor⟩ := hp.dest1 hd
  have hzo : orgOf p d = z.1.origins := by unfold orgOf; rw [Int.toNat_natCast, hz]
  rw [hzo] at hob hol ⊢
  have HOB := Lib.hid hob
  have HAD := Lib.hid had
  have HDC := Lib.hid (fun (wy : World) (hb : Below w.heap.size w wy) => (hb.cell (p := ⟨bd, od + d * 2 + 1, none⟩) hbd).trans hdc)
  have HOR := Lib.hid hor
  have hd0 : (0 : Int) ≤ (d : Int) := by omega
  have hd1 : (d : Int) < (p.dests.length : Int) := by omega
  clear hz hdc hor hp hg hbd had hzo hob
  unfold netV netVal
  refine (callsIn_wide (n := 5)).1 ?_
  refine callsIn_of_wp_marks Tryz.func41 rfl trivial ?_ rfl
  simp only [Tryz.ntmps41, List.size_toArray, List.length_cons, List.length_nil, Nat.reduceAdd, Nat.reduceSub, Array.replicate_succ, Array.replicate_zero, List.push_toArray, List.append_toArray, List.nil_append, List.cons_append]
  refine (wpIn_wide (n := 5)).2 ?_
  go_upto_region 1 with fail
  unfold netCells at I0
  try simp only [World.size_alloc]
  generalize (((w.alloc (.cells #[.int .i64 p.proto, .int .i64 p.cap, .int .i64 p.k, .slice h.an p.nodes.length h.cn, .slice h.al p.links.length h.cl, .slice h.ad p.dests.length h.cd, .slice h.ac p.checks.length h.cc] 31)).alloc (.cells #[.int .i64 f] 3)).alloc (.cells #[.int .i64 0, .int .i64 0, .slice none 0 0] 24)) = w3 at *
  obtain ⟨g0, g1, g2, g3, g4, g5, g6⟩ := I0.out.cells
  go_wp2_with fail
  refine (snode_in (I0.out.net HP.out) HG.out hu).mono ?_
  rintro e w4 ⟨rfl, hb4⟩
  have I4 := Lib.hid (I0.out.call hb4)
  clear hb4 g0 g1 g2 g3 g4 g5 g6
  obtain ⟨g0, g1, g2, g3, g4, g5, g6⟩ := I4.out.cells
  have hdc := HDC.out _ I4.out.below
  go_upto_region 2 with fail
  have had := HAD.out
  go_wp2_with fail
  clear had hdc g0 g1 g2 g3 g4 g5 g6 hd0 hd1
  refine wp_loop (fun a' W => ∃ (k : Nat) (Ds : List Nat) (u10 u35 u36 u37 u38 u39 u40 u41 u42 u43 u52 x18 x19 x20 x23 x24 x25 x26 x28 x30 x31 : Value), k ≤ z.1.origins.length ∧ a' = { tmps := #[.agg #[.int .i64 p.proto, .int .i64 p.cap, .int .i64 p.k, .slice h.an p.nodes.length h.cn, .slice h.al p.links.length h.cl, .slice h.ad p.dests.length h.cd, .slice h.ac p.checks.length h.cc], .int .i64 f, .int .i64 (d : Int), .int .i64 (u : Int), .pointer (some ⟨w.heap.size, 0, none⟩), .pointer (some ⟨w.heap.size + 1, 0, none⟩), undef, undef, .pointer (some ⟨w.heap.size + 1 + 1, 0, none⟩), undef, u10, undef, .agg #[.int .i64 p.proto, .int .i64 p.cap, .int .i64 p.k, .slice h.an p.nodes.length h.cn, .slice h.al p.links.length h.cl, .slice h.ad p.dests.length h.cd, .slice h.ac p.checks.length h.cc], .int .i64 (u : Int), .bool true, .bool false, .bool false, .int .i64 (d : Int), x18, x19, x20, .int .i64 (d : Int), .pointer (some ⟨w.heap.size, 5, none⟩), x23, x24, x25, x26, .pointer (some ⟨w.heap.size, 5, none⟩), x28, .int .i64 (d : Int), x30, x31, .slice z.2.1 z.1.origins.length z.2.2, .int .i64 (z.1.origins.length : Int), .int .i64 (k : Int), u35, u36, u37, u38, u39, u40, u41, u42, u43, undef, undef, undef, undef, undef, undef, undef, undef, u52], defers := Ds.map fun D => { target := .collected D, args := #[] } } ∧ Ds.Nodup ∧ BsI p h f w Ds (bestO p f u (z.1.origins.take k)) W) (fun a' _ => z.1.origins.length - (intOf (a'.tmps.getD 34 undef)).toNat) ?start ?round
  case start => exact ⟨0, [], _, _, _, _, _, _, _, _, _, _, _, _, _, _, _, _, _, _, _, _, _, by omega, rfl, List.Pairwise.nil, by simpa [bestO] using I4.out⟩
  case round =>
    rintro a' W ⟨k, Ds, u10, u35, u36, u37, u38, u39, u40, u41, u42, u43, u52, x18, x19, x20, x23, x24, x25, x26, x28, x30, x31, hk, rfl, hnd, hI⟩
    have IX := Lib.hid hI
    have HND := Lib.hid hnd
    clear hI hnd
    by_cases hlt : k < z.1.origins.length
    · obtain ⟨b0, hb0⟩ : ∃ b0, z.1.origins[k]? = some b0 := ⟨_, List.getElem?_eq_getElem hlt⟩
      obtain ⟨hb1, hb2⟩ := HOB.out b0 (List.mem_of_getElem? hb0)
      obtain ⟨b, rfl⟩ : ∃ b : Nat, b0 = b := ⟨b0.toNat, by omega⟩
      have hbN : b < p.nodes.length := by omega
      have hlt' : (k : Int) < (z.1.origins.length : Int) := by omega
      have hk0 : (0 : Int) ≤ (k : Int) := by omega
      obtain ⟨ba, bo, hza, -, hzc⟩ := (HOR.out.below IX.out.below (Nat.le_refl _)).one (i := k) (x := .int .i64 (b : Int)) (by simp [ints, hb0])
      obtain ⟨g0, g1, g2, g3, g4, g5, g6⟩ := IX.out.cells
      have gf := cell_of_row W _ 0 _ _ _ IX.out.fl
      have HT : Hid (z.1.origins.take (k + 1) = z.1.origins.take k ++ [((b : Nat) : Int)]) := Lib.hid (by rw [List.take_add_one, hb0]; rfl)
      clear hb0 hb1 hb2
      go_upto_region 5 with fail
      have HZA := Lib.hid hza
      clear hza hzc hlt' hk0
      go_wp2_with fail
      refine (all_any p h f b u W).mono ?_
      rintro e w5 ⟨rfl, rfl⟩
      have x1 : ((W.alloc (.cells (wkCells p h f b) 93)).alloc (.cells #[.int .i64 (u : Int)] 3)).heap[W.heap.size]? = some (.cells (wkCells p h f b) 93 (0, 0)) := (Below.heap_alloc _ _ _ (by simp)).trans (heap_alloc_new _ _)
      have x2 : ((W.alloc (.cells (wkCells p h f b) 93)).alloc (.cells #[.int .i64 (u : Int)] 3)).heap[W.heap.size + 1]? = some (.cells #[.int .i64 (u : Int)] 3 (0, 0)) := by
        have := heap_alloc_new (W.alloc (.cells (wkCells p h f b) 93)) (.cells #[.int .i64 (u : Int)] 3)
        rwa [World.size_alloc] at this
      have hbel5 : Below W.heap.size W ((W.alloc (.cells (wkCells p h f b) 93)).alloc (.cells #[.int .i64 (u : Int)] 3)) := ((Below.refl _ _).alloc (Nat.le_refl _) _).alloc (by simp) _
      have I5 := Lib.hid (IX.out.call hbel5)
      have hs5 : W.heap.size < ((W.alloc (.cells (wkCells p h f b) 93)).alloc (.cells #[.int .i64 (u : Int)] 3)).heap.size := by simp; omega
      have h35 : w.heap.size + 3 ≤ ((W.alloc (.cells (wkCells p h f b) 93)).alloc (.cells #[.int .i64 (u : Int)] 3)).heap.size := by
        obtain ⟨A, c, hx, -⟩ := IX.out.out
        have := lt_heap hx
        simp; omega
      have HIT := Lib.hid (all_iter (n0 := w.heap.size) HG.out (HP.out.below I5.out.below (Nat.le_refl _)) I5.out.below.size f u b hu x1 x2 10000000 (waysN_len p f u b (by have := HG.out.n12; omega) h7))
      clear x1 x2 hbel5 g0 g1 g2 g3 g4 g5 g6 gf
      generalize ((W.alloc (.cells (wkCells p h f b) 93)).alloc (.cells #[.int .i64 (u : Int)] 3)) = w5 at *
      generalize W.heap.size = bW at *
      go_wp2_with fail
      refine (wpIn_wide (n := 4)).1 ?_
      refine wp_iter (enc := fun z : WayZ => #[wayV z]) (Pre := fun q z W => q ∈ waysN p f u b ∧ WayP w.heap.size q z W) (Kp := KeepT w.heap.size) (w0 := w5) rfl (by
        intro W args
        have e1 : ¬ (Tryz.f92.name = "runtime.NumGoroutine") := by decide +kernel
        have e2 : ¬ (Tryz.f92.body = none) := fun e => by cases e
        simp [callFunc, go_sem, e1, e2]) HIT.out (Below.refl _ _) (fun _ => rfl) (fun L W => BsI p h f w Ds (bestN p f (bestO p f u (z.1.origins.take k)) L) W ∧ w5.heap.size ≤ W.heap.size) (bs_iter I5.out.below h35) ⟨I5.out, Nat.le_refl _⟩
        (fun zz => { tmps := #[.agg #[.int .i64 p.proto, .int .i64 p.cap, .int .i64 p.k, .slice h.an p.nodes.length h.cn, .slice h.al p.links.length h.cl, .slice h.ad p.dests.length h.cd, .slice h.ac p.checks.length h.cc], .int .i64 f, .int .i64 (d : Int), .int .i64 (u : Int), .pointer (some ⟨w.heap.size, 0, none⟩), .pointer (some ⟨w.heap.size + 1, 0, none⟩), undef, undef, .pointer (some ⟨w.heap.size + 1 + 1, 0, none⟩), undef, .int .i64 (b : Int), wayV zz, .agg #[.int .i64 p.proto, .int .i64 p.cap, .int .i64 p.k, .slice h.an p.nodes.length h.cn, .slice h.al p.links.length h.cl, .slice h.ad p.dests.length h.cd, .slice h.ac p.checks.length h.cc], .int .i64 (u : Int), .bool true, .bool false, .bool false, .int .i64 (d : Int), x18, x19, x20, .int .i64 (d : Int), .pointer (some ⟨w.heap.size, 5, none⟩), x23, x24, x25, x26, .pointer (some ⟨w.heap.size, 5, none⟩), x28, .int .i64 (d : Int), x30, x31, .slice (some ⟨ba, bo, none⟩) z.1.origins.length z.2.2, .int .i64 (z.1.origins.length : Int), .int .i64 (k : Int), .bool true, .pointer (some ⟨ba, bo + k, none⟩), .int .i64 (b : Int), .agg #[.int .i64 p.proto, .int .i64 p.cap, .int .i64 p.k, .slice h.an p.nodes.length h.cn, .slice h.al p.links.length h.cl, .slice h.ad p.dests.length h.cd, .slice h.ac p.checks.length h.cc], .int .i64 f, .int .i64 (b : Int), .agg #[.int .i64 p.proto, .int .i64 p.cap, .int .i64 p.k, .slice h.an p.nodes.length h.cn, .slice h.al p.links.length h.cl, .slice h.ad p.dests.length h.cd, .slice h.ac p.checks.length h.cc, .int .i64 f, .int .i64 (b : Int)], .int .i64 (u : Int), .func (.func 92) #[] #[.pointer (some ⟨bW, 0, none⟩), .pointer (some ⟨bW + 1, 0, none⟩)], wayV zz, undef, undef, undef, undef, undef, undef, undef, u52], defers := [] }) ?assign ?body ?done
      case assign =>
        intro l zz V K hK
        gi_wp2
        exact hK
      case body =>
        intro l L q zz V hI hq hLN
        have hIb := hI.1
        obtain ⟨g0, g1, g2, g3, g4, g5, g6⟩ := hIb.cells
        have gf := cell_of_row V _ 0 _ _ _ hIb.fl
        obtain ⟨A, c, hx, hown⟩ := hIb.out
        obtain ⟨o0, o1, o2⟩ := results_best hx
        have HX := Lib.hid hx
        have HSZ := Lib.hid (lt_heap hx)
        have HWQ := Lib.hid (show WayQ p f q from ⟨b, u, hbN, hu, (mem_waysN HG.out.lksOk hu q).1 hq.1⟩)
        have HRW := Lib.hid (wayR_holds HG.out.netG f q).1
        have HIB := Lib.hid hIb
        have HOW := Lib.hid hown
        have HST := Lib.hid (fun w8 A' c' hb ho => bs_step (w8 := w8) (A' := A') (c' := c') hIb hx hb ho (show RtOk (bestStepR _ (wayR p f q)) from best2_ok hIb.ok (wayR_holds HG.out.netG f q).1))
        have HSZ5 := Lib.hid hI.2
        obtain ⟨hz1, hz12, hzn, hzo⟩ := hq.2
        have HAL : Hid (∀ wy, Below V.heap.size V wy → Calls Tryz.prog 25 #[netV p h, .int .i64 f, wayV zz] wy (OrPost (wayR p f q) wy)) := Lib.hid (fun wy hb => by
          unfold wayV; rw [hz1]
          exact along_any p h f q _ _ wy ((hIb.net HP.out).call hb) HG.out ((hzo.rd).below hb (Nat.le_refl _) |>.more hb.size) hzo.2.1 hzo.2.2.1 HWQ.out)
        clear hI hq hIb hx hown hz1 hz12 hzn hzo hLN
        unfold netV netVal at HAL
        refine wpIn_block ?_
        refine wpIn_region_round (by kernel_rfl) (noDefer_at (by kernel_rfl)) ?_
        refine take_in (i := 3) (v := ?_) rfl rfl (by kernel_rfl) (by kernel_rfl) (by kernel_rfl) (fun _ _ _ h => h) ⟨Or.inl ⟨by rfl, fun w => ?_⟩, fun w => by rfl⟩ ?_
        rotate_left
        · go_simp
          try (with_reducible rfl)
        try simp only [Act.put, List.setIfInBounds_toArray, List.set_cons_zero, List.set_cons_succ]
        -- ORDERS
        refine wpAnyIn_ready (rs := [0, 1, 2]) (by kernel_rfl) (by simp) ?_
        refine cons_in rfl (fun f' hf' => trivial) (by intro c hc; cases hc) (by rfl) (fun K hK => ?_) (cons_in rfl (fun f' hf' => trivial) (by intro c hc; cases hc) (by rfl) (fun K hK => ?_) (cons_in rfl (fun f' hf' => trivial) (by intro c hc; cases hc) (by rfl) (fun K hK => ?_) AllReadyIn.nil))
        · skip
          go_simp
          refine hK _ _ ?_
          clear hK K
          try simp only [Act.put, List.setIfInBounds_toArray, List.set_cons_zero, List.set_cons_succ]
          refine wpAnyIn_ready (rs := [1, 2]) (by kernel_rfl) (by simp) ?_
          refine cons_in rfl (fun f' hf' => trivial) (by intro c hc; cases hc) (by rfl) (fun K hK => ?_) (cons_in rfl (fun f' hf' => trivial) (by intro c hc; cases hc) (by rfl) (fun K hK => ?_) AllReadyIn.nil)
          · skip
            go_simp
            refine hK _ _ ?_
            clear hK K
            try simp only [Act.put, List.setIfInBounds_toArray, List.set_cons_zero, List.set_cons_succ]
            refine wpAnyIn_ready (rs := [2]) (by kernel_rfl) (by simp) ?_
            refine cons_in rfl (fun f' hf' => trivial) (by intro c hc; cases hc) (by rfl) (fun K hK => ?_) AllReadyIn.nil
            · skip
              go_simp
              refine hK _ _ ?_
              clear hK K
              try simp only [Act.put, List.setIfInBounds_toArray, List.set_cons_zero, List.set_cons_succ]
              refine wpAnyIn_ready (rs := [4]) (by kernel_rfl) (by simp) ?_
              refine cons_in rfl (fun f' hf' => trivial) (by intro c hc; cases hc) (by rfl) (fun K hK => ?_) AllReadyIn.nil
              · skip
                go_simp
                gi_at_call 25
                refine (callsIn_wide.2 (HAL.out _ (Below.refl _ _).drew)).mono ?_
                rintro e w6 ⟨A2, c2, rfl, ho6, hb6⟩
                have HB6 := Lib.hid (since_trans (Below.refl _ V).drew hb6)
                unfold rtV
                refine hK _ _ ?_
                clear hK K
                try simp only [Act.put, List.setIfInBounds_toArray, List.set_cons_zero, List.set_cons_succ]
                obtain ⟨o0, o1, o2⟩ := results_best ((hb6.block _ HSZ.out).trans HX.out)
                refine wpAnyIn_ready (rs := [5]) (by kernel_rfl) (by simp) ?_
                refine cons_in rfl (fun f' hf' => trivial) (by intro c hc; cases hc) (by rfl) (fun K hK => ?_) AllReadyIn.nil
                go_simp
                refine hK _ _ ?_
                clear hK K
                try simp only [Act.put, List.setIfInBounds_toArray, List.set_cons_zero, List.set_cons_succ]
                refine wpAnyIn_ready (rs := [6]) (by kernel_rfl) (by simp) ?_
                refine cons_in rfl (fun f' hf' => trivial) (by intro c hc; cases hc) (by rfl) (fun K hK => ?_) AllReadyIn.nil
                go_simp
                refine (callsIn_wide.2 (two_best (r := bestN p f (bestO p f u (z.1.origins.take k)) L) (x := wayR p f q) ((HOW.out.call HB6.out).rt _ _) (ho6.rt _ _) HIB.out.ok HRW.out)).mono ?_
                rintro e w8 ⟨A3, c3, rfl, ho8, hb8⟩
                have HB8 := Lib.hid (since_trans HB6.out hb8)
                unfold rtV
                refine hK _ _ ?_
                clear hK K
                try simp only [Act.put, List.setIfInBounds_toArray, List.set_cons_zero, List.set_cons_succ]
                have h8 := (HB8.out.block _ HSZ.out).trans HX.out
                obtain ⟨o0, o1, o2⟩ := results_best h8
                have f0 := frozen_of_row w8 _ 0 _ _ h8; have f1 := frozen_of_row w8 _ 1 _ _ h8; have f2 := frozen_of_row w8 _ 2 _ _ h8
                have HF := Lib.hid (HST.out w8 A3 c3 HB8.out (ho8.more (by have := HSZ.out; have := HB6.out.size; omega)))
                clear h8 hb8 ho8 hb6 ho6
                refine wpAnyIn_ready (rs := [7]) (by kernel_rfl) (by simp) ?_
                refine cons_in rfl (fun f' hf' => trivial) (by intro c hc; cases hc) (by rfl) (fun K hK => ?_) AllReadyIn.nil
                go_simp
                refine hK _ _ ?_
                clear hK K
                have hsn := bestN_snoc p f (bestO p f u (z.1.origins.take k)) L q
                have h5s := Nat.le_trans HSZ5.out HF.out.2.1.size
                exact ⟨rfl, rfl, HF.out.1, HF.out.2.1, by rw [hsn]; exact HF.out.2.2, h5s⟩
          · skip
            go_simp
            refine hK _ _ ?_
            clear hK K
            try simp only [Act.put, List.setIfInBounds_toArray, List.set_cons_zero, List.set_cons_succ]
            refine wpAnyIn_ready (rs := [1]) (by kernel_rfl) (by simp) ?_
            refine cons_in rfl (fun f' hf' => trivial) (by intro c hc; cases hc) (by rfl) (fun K hK => ?_) AllReadyIn.nil
            · skip
              go_simp
              refine hK _ _ ?_
              clear hK K
              try simp only [Act.put, List.setIfInBounds_toArray, List.set_cons_zero, List.set_cons_succ]
              refine wpAnyIn_ready (rs := [4]) (by kernel_rfl) (by simp) ?_
              refine cons_in rfl (fun f' hf' => trivial) (by intro c hc; cases hc) (by rfl) (fun K hK => ?_) AllReadyIn.nil
              · skip
                go_simp
                gi_at_call 25
                refine (callsIn_wide.2 (HAL.out _ (Below.refl _ _).drew)).mono ?_
                rintro e w6 ⟨A2, c2, rfl, ho6, hb6⟩
                have HB6 := Lib.hid (since_trans (Below.refl _ V).drew hb6)
                unfold rtV
                refine hK _ _ ?_
                clear hK K
                try simp only [Act.put, List.setIfInBounds_toArray, List.set_cons_zero, List.set_cons_succ]
                obtain ⟨o0, o1, o2⟩ := results_best ((hb6.block _ HSZ.out).trans HX.out)
                refine wpAnyIn_ready (rs := [5]) (by kernel_rfl) (by simp) ?_
                refine cons_in rfl (fun f' hf' => trivial) (by intro c hc; cases hc) (by rfl) (fun K hK => ?_) AllReadyIn.nil
                go_simp
                refine hK _ _ ?_
                clear hK K
                try simp only [Act.put, List.setIfInBounds_toArray, List.set_cons_zero, List.set_cons_succ]
                refine wpAnyIn_ready (rs := [6]) (by kernel_rfl) (by simp) ?_
                refine cons_in rfl (fun f' hf' => trivial) (by intro c hc; cases hc) (by rfl) (fun K hK => ?_) AllReadyIn.nil
                go_simp
                refine (callsIn_wide.2 (two_best (r := bestN p f (bestO p f u (z.1.origins.take k)) L) (x := wayR p f q) ((HOW.out.call HB6.out).rt _ _) (ho6.rt _ _) HIB.out.ok HRW.out)).mono ?_
                rintro e w8 ⟨A3, c3, rfl, ho8, hb8⟩
                have HB8 := Lib.hid (since_trans HB6.out hb8)
                unfold rtV
                refine hK _ _ ?_
                clear hK K
                try simp only [Act.put, List.setIfInBounds_toArray, List.set_cons_zero, List.set_cons_succ]
                have h8 := (HB8.out.block _ HSZ.out).trans HX.out
                obtain ⟨o0, o1, o2⟩ := results_best h8
                have f0 := frozen_of_row w8 _ 0 _ _ h8; have f1 := frozen_of_row w8 _ 1 _ _ h8; have f2 := frozen_of_row w8 _ 2 _ _ h8
                have HF := Lib.hid (HST.out w8 A3 c3 HB8.out (ho8.more (by have := HSZ.out; have := HB6.out.size; omega)))
                clear h8 hb8 ho8 hb6 ho6
                refine wpAnyIn_ready (rs := [7]) (by kernel_rfl) (by simp) ?_
                refine cons_in rfl (fun f' hf' => trivial) (by intro c hc; cases hc) (by rfl) (fun K hK => ?_) AllReadyIn.nil
                go_simp
                refine hK _ _ ?_
                clear hK K
                have hsn := bestN_snoc p f (bestO p f u (z.1.origins.take k)) L q
                have h5s := Nat.le_trans HSZ5.out HF.out.2.1.size
                exact ⟨rfl, rfl, HF.out.1, HF.out.2.1, by rw [hsn]; exact HF.out.2.2, h5s⟩
        · skip
          go_simp
          refine hK _ _ ?_
          clear hK K
          try simp only [Act.put, List.setIfInBounds_toArray, List.set_cons_zero, List.set_cons_succ]
          refine wpAnyIn_ready (rs := [0, 2]) (by kernel_rfl) (by simp) ?_
          refine cons_in rfl (fun f' hf' => trivial) (by intro c hc; cases hc) (by rfl) (fun K hK => ?_) (cons_in rfl (fun f' hf' => trivial) (by intro c hc; cases hc) (by rfl) (fun K hK => ?_) AllReadyIn.nil)
          · skip
            go_simp
            refine hK _ _ ?_
            clear hK K
            try simp only [Act.put, List.setIfInBounds_toArray, List.set_cons_zero, List.set_cons_succ]
            refine wpAnyIn_ready (rs := [2]) (by kernel_rfl) (by simp) ?_
            refine cons_in rfl (fun f' hf' => trivial) (by intro c hc; cases hc) (by rfl) (fun K hK => ?_) AllReadyIn.nil
            · skip
              go_simp
              refine hK _ _ ?_
              clear hK K
              try simp only [Act.put, List.setIfInBounds_toArray, List.set_cons_zero, List.set_cons_succ]
              refine wpAnyIn_ready (rs := [4]) (by kernel_rfl) (by simp) ?_
              refine cons_in rfl (fun f' hf' => trivial) (by intro c hc; cases hc) (by rfl) (fun K hK => ?_) AllReadyIn.nil
              · skip
                go_simp
                gi_at_call 25
                refine (callsIn_wide.2 (HAL.out _ (Below.refl _ _).drew)).mono ?_
                rintro e w6 ⟨A2, c2, rfl, ho6, hb6⟩
                have HB6 := Lib.hid (since_trans (Below.refl _ V).drew hb6)
                unfold rtV
                refine hK _ _ ?_
                clear hK K
                try simp only [Act.put, List.setIfInBounds_toArray, List.set_cons_zero, List.set_cons_succ]
                obtain ⟨o0, o1, o2⟩ := results_best ((hb6.block _ HSZ.out).trans HX.out)
                refine wpAnyIn_ready (rs := [5]) (by kernel_rfl) (by simp) ?_
                refine cons_in rfl (fun f' hf' => trivial) (by intro c hc; cases hc) (by rfl) (fun K hK => ?_) AllReadyIn.nil
                go_simp
                refine hK _ _ ?_
                clear hK K
                try simp only [Act.put, List.setIfInBounds_toArray, List.set_cons_zero, List.set_cons_succ]
                refine wpAnyIn_ready (rs := [6]) (by kernel_rfl) (by simp) ?_
                refine cons_in rfl (fun f' hf' => trivial) (by intro c hc; cases hc) (by rfl) (fun K hK => ?_) AllReadyIn.nil
                go_simp
                refine (callsIn_wide.2 (two_best (r := bestN p f (bestO p f u (z.1.origins.take k)) L) (x := wayR p f q) ((HOW.out.call HB6.out).rt _ _) (ho6.rt _ _) HIB.out.ok HRW.out)).mono ?_
                rintro e w8 ⟨A3, c3, rfl, ho8, hb8⟩
                have HB8 := Lib.hid (since_trans HB6.out hb8)
                unfold rtV
                refine hK _ _ ?_
                clear hK K
                try simp only [Act.put, List.setIfInBounds_toArray, List.set_cons_zero, List.set_cons_succ]
                have h8 := (HB8.out.block _ HSZ.out).trans HX.out
                obtain ⟨o0, o1, o2⟩ := results_best h8
                have f0 := frozen_of_row w8 _ 0 _ _ h8; have f1 := frozen_of_row w8 _ 1 _ _ h8; have f2 := frozen_of_row w8 _ 2 _ _ h8
                have HF := Lib.hid (HST.out w8 A3 c3 HB8.out (ho8.more (by have := HSZ.out; have := HB6.out.size; omega)))
                clear h8 hb8 ho8 hb6 ho6
                refine wpAnyIn_ready (rs := [7]) (by kernel_rfl) (by simp) ?_
                refine cons_in rfl (fun f' hf' => trivial) (by intro c hc; cases hc) (by rfl) (fun K hK => ?_) AllReadyIn.nil
                go_simp
                refine hK _ _ ?_
                clear hK K
                have hsn := bestN_snoc p f (bestO p f u (z.1.origins.take k)) L q
                have h5s := Nat.le_trans HSZ5.out HF.out.2.1.size
                exact ⟨rfl, rfl, HF.out.1, HF.out.2.1, by rw [hsn]; exact HF.out.2.2, h5s⟩
          · skip
            go_simp
            refine hK _ _ ?_
            clear hK K
            try simp only [Act.put, List.setIfInBounds_toArray, List.set_cons_zero, List.set_cons_succ]
            refine wpAnyIn_ready (rs := [0, 4]) (by kernel_rfl) (by simp) ?_
            refine cons_in rfl (fun f' hf' => trivial) (by intro c hc; cases hc) (by rfl) (fun K hK => ?_) (cons_in rfl (fun f' hf' => trivial) (by intro c hc; cases hc) (by rfl) (fun K hK => ?_) AllReadyIn.nil)
            · skip
              go_simp
              refine hK _ _ ?_
              clear hK K
              try simp only [Act.put, List.setIfInBounds_toArray, List.set_cons_zero, List.set_cons_succ]
              refine wpAnyIn_ready (rs := [4]) (by kernel_rfl) (by simp) ?_
              refine cons_in rfl (fun f' hf' => trivial) (by intro c hc; cases hc) (by rfl) (fun K hK => ?_) AllReadyIn.nil
              · skip
                go_simp
                gi_at_call 25
                refine (callsIn_wide.2 (HAL.out _ (Below.refl _ _).drew)).mono ?_
                rintro e w6 ⟨A2, c2, rfl, ho6, hb6⟩
                have HB6 := Lib.hid (since_trans (Below.refl _ V).drew hb6)
                unfold rtV
                refine hK _ _ ?_
                clear hK K
                try simp only [Act.put, List.setIfInBounds_toArray, List.set_cons_zero, List.set_cons_succ]
                obtain ⟨o0, o1, o2⟩ := results_best ((hb6.block _ HSZ.out).trans HX.out)
                refine wpAnyIn_ready (rs := [5]) (by kernel_rfl) (by simp) ?_
                refine cons_in rfl (fun f' hf' => trivial) (by intro c hc; cases hc) (by rfl) (fun K hK => ?_) AllReadyIn.nil
                go_simp
                refine hK _ _ ?_
                clear hK K
                try simp only [Act.put, List.setIfInBounds_toArray, List.set_cons_zero, List.set_cons_succ]
                refine wpAnyIn_ready (rs := [6]) (by kernel_rfl) (by simp) ?_
                refine cons_in rfl (fun f' hf' => trivial) (by intro c hc; cases hc) (by rfl) (fun K hK => ?_) AllReadyIn.nil
                go_simp
                refine (callsIn_wide.2 (two_best (r := bestN p f (bestO p f u (z.1.origins.take k)) L) (x := wayR p f q) ((HOW.out.call HB6.out).rt _ _) (ho6.rt _ _) HIB.out.ok HRW.out)).mono ?_
                rintro e w8 ⟨A3, c3, rfl, ho8, hb8⟩
                have HB8 := Lib.hid (since_trans HB6.out hb8)
                unfold rtV
                refine hK _ _ ?_
                clear hK K
                try simp only [Act.put, List.setIfInBounds_toArray, List.set_cons_zero, List.set_cons_succ]
                have h8 := (HB8.out.block _ HSZ.out).trans HX.out
                obtain ⟨o0, o1, o2⟩ := results_best h8
                have f0 := frozen_of_row w8 _ 0 _ _ h8; have f1 := frozen_of_row w8 _ 1 _ _ h8; have f2 := frozen_of_row w8 _ 2 _ _ h8
                have HF := Lib.hid (HST.out w8 A3 c3 HB8.out (ho8.more (by have := HSZ.out; have := HB6.out.size; omega)))
                clear h8 hb8 ho8 hb6 ho6
                refine wpAnyIn_ready (rs := [7]) (by kernel_rfl) (by simp) ?_
                refine cons_in rfl (fun f' hf' => trivial) (by intro c hc; cases hc) (by rfl) (fun K hK => ?_) AllReadyIn.nil
                go_simp
                refine hK _ _ ?_
                clear hK K
                have hsn := bestN_snoc p f (bestO p f u (z.1.origins.take k)) L q
                have h5s := Nat.le_trans HSZ5.out HF.out.2.1.size
                exact ⟨rfl, rfl, HF.out.1, HF.out.2.1, by rw [hsn]; exact HF.out.2.2, h5s⟩
            · skip
              go_simp
              gi_at_call 25
              refine (callsIn_wide.2 (HAL.out _ (Below.refl _ _).drew)).mono ?_
              rintro e w6 ⟨A2, c2, rfl, ho6, hb6⟩
              have HB6 := Lib.hid (since_trans (Below.refl _ V).drew hb6)
              unfold rtV
              refine hK _ _ ?_
              clear hK K
              try simp only [Act.put, List.setIfInBounds_toArray, List.set_cons_zero, List.set_cons_succ]
              obtain ⟨o0, o1, o2⟩ := results_best ((hb6.block _ HSZ.out).trans HX.out)
              refine wpAnyIn_ready (rs := [0]) (by kernel_rfl) (by simp) ?_
              refine cons_in rfl (fun f' hf' => trivial) (by intro c hc; cases hc) (by rfl) (fun K hK => ?_) AllReadyIn.nil
              · skip
                go_simp
                refine hK _ _ ?_
                clear hK K
                try simp only [Act.put, List.setIfInBounds_toArray, List.set_cons_zero, List.set_cons_succ]
                refine wpAnyIn_ready (rs := [5]) (by kernel_rfl) (by simp) ?_
                refine cons_in rfl (fun f' hf' => trivial) (by intro c hc; cases hc) (by rfl) (fun K hK => ?_) AllReadyIn.nil
                go_simp
                refine hK _ _ ?_
                clear hK K
                try simp only [Act.put, List.setIfInBounds_toArray, List.set_cons_zero, List.set_cons_succ]
                refine wpAnyIn_ready (rs := [6]) (by kernel_rfl) (by simp) ?_
                refine cons_in rfl (fun f' hf' => trivial) (by intro c hc; cases hc) (by rfl) (fun K hK => ?_) AllReadyIn.nil
                go_simp
                refine (callsIn_wide.2 (two_best (r := bestN p f (bestO p f u (z.1.origins.take k)) L) (x := wayR p f q) ((HOW.out.call HB6.out).rt _ _) (ho6.rt _ _) HIB.out.ok HRW.out)).mono ?_
                rintro e w8 ⟨A3, c3, rfl, ho8, hb8⟩
                have HB8 := Lib.hid (since_trans HB6.out hb8)
                unfold rtV
                refine hK _ _ ?_
                clear hK K
                try simp only [Act.put, List.setIfInBounds_toArray, List.set_cons_zero, List.set_cons_succ]
                have h8 := (HB8.out.block _ HSZ.out).trans HX.out
                obtain ⟨o0, o1, o2⟩ := results_best h8
                have f0 := frozen_of_row w8 _ 0 _ _ h8; have f1 := frozen_of_row w8 _ 1 _ _ h8; have f2 := frozen_of_row w8 _ 2 _ _ h8
                have HF := Lib.hid (HST.out w8 A3 c3 HB8.out (ho8.more (by have := HSZ.out; have := HB6.out.size; omega)))
                clear h8 hb8 ho8 hb6 ho6
                refine wpAnyIn_ready (rs := [7]) (by kernel_rfl) (by simp) ?_
                refine cons_in rfl (fun f' hf' => trivial) (by intro c hc; cases hc) (by rfl) (fun K hK => ?_) AllReadyIn.nil
                go_simp
                refine hK _ _ ?_
                clear hK K
                have hsn := bestN_snoc p f (bestO p f u (z.1.origins.take k)) L q
                have h5s := Nat.le_trans HSZ5.out HF.out.2.1.size
                exact ⟨rfl, rfl, HF.out.1, HF.out.2.1, by rw [hsn]; exact HF.out.2.2, h5s⟩
        · skip
          go_simp
          refine hK _ _ ?_
          clear hK K
          try simp only [Act.put, List.setIfInBounds_toArray, List.set_cons_zero, List.set_cons_succ]
          refine wpAnyIn_ready (rs := [0, 1]) (by kernel_rfl) (by simp) ?_
          refine cons_in rfl (fun f' hf' => trivial) (by intro c hc; cases hc) (by rfl) (fun K hK => ?_) (cons_in rfl (fun f' hf' => trivial) (by intro c hc; cases hc) (by rfl) (fun K hK => ?_) AllReadyIn.nil)
          · skip
            go_simp
            refine hK _ _ ?_
            clear hK K
            try simp only [Act.put, List.setIfInBounds_toArray, List.set_cons_zero, List.set_cons_succ]
            refine wpAnyIn_ready (rs := [1]) (by kernel_rfl) (by simp) ?_
            refine cons_in rfl (fun f' hf' => trivial) (by intro c hc; cases hc) (by rfl) (fun K hK => ?_) AllReadyIn.nil
            · skip
              go_simp
              refine hK _ _ ?_
              clear hK K
              try simp only [Act.put, List.setIfInBounds_toArray, List.set_cons_zero, List.set_cons_succ]
              refine wpAnyIn_ready (rs := [4]) (by kernel_rfl) (by simp) ?_
              refine cons_in rfl (fun f' hf' => trivial) (by intro c hc; cases hc) (by rfl) (fun K hK => ?_) AllReadyIn.nil
              · skip
                go_simp
                gi_at_call 25
                refine (callsIn_wide.2 (HAL.out _ (Below.refl _ _).drew)).mono ?_
                rintro e w6 ⟨A2, c2, rfl, ho6, hb6⟩
                have HB6 := Lib.hid (since_trans (Below.refl _ V).drew hb6)
                unfold rtV
                refine hK _ _ ?_
                clear hK K
                try simp only [Act.put, List.setIfInBounds_toArray, List.set_cons_zero, List.set_cons_succ]
                obtain ⟨o0, o1, o2⟩ := results_best ((hb6.block _ HSZ.out).trans HX.out)
                refine wpAnyIn_ready (rs := [5]) (by kernel_rfl) (by simp) ?_
                refine cons_in rfl (fun f' hf' => trivial) (by intro c hc; cases hc) (by rfl) (fun K hK => ?_) AllReadyIn.nil
                go_simp
                refine hK _ _ ?_
                clear hK K
                try simp only [Act.put, List.setIfInBounds_toArray, List.set_cons_zero, List.set_cons_succ]
                refine wpAnyIn_ready (rs := [6]) (by kernel_rfl) (by simp) ?_
                refine cons_in rfl (fun f' hf' => trivial) (by intro c hc; cases hc) (by rfl) (fun K hK => ?_) AllReadyIn.nil
                go_simp
                refine (callsIn_wide.2 (two_best (r := bestN p f (bestO p f u (z.1.origins.take k)) L) (x := wayR p f q) ((HOW.out.call HB6.out).rt _ _) (ho6.rt _ _) HIB.out.ok HRW.out)).mono ?_
                rintro e w8 ⟨A3, c3, rfl, ho8, hb8⟩
                have HB8 := Lib.hid (since_trans HB6.out hb8)
                unfold rtV
                refine hK _ _ ?_
                clear hK K
                try simp only [Act.put, List.setIfInBounds_toArray, List.set_cons_zero, List.set_cons_succ]
                have h8 := (HB8.out.block _ HSZ.out).trans HX.out
                obtain ⟨o0, o1, o2⟩ := results_best h8
                have f0 := frozen_of_row w8 _ 0 _ _ h8; have f1 := frozen_of_row w8 _ 1 _ _ h8; have f2 := frozen_of_row w8 _ 2 _ _ h8
                have HF := Lib.hid (HST.out w8 A3 c3 HB8.out (ho8.more (by have := HSZ.out; have := HB6.out.size; omega)))
                clear h8 hb8 ho8 hb6 ho6
                refine wpAnyIn_ready (rs := [7]) (by kernel_rfl) (by simp) ?_
                refine cons_in rfl (fun f' hf' => trivial) (by intro c hc; cases hc) (by rfl) (fun K hK => ?_) AllReadyIn.nil
                go_simp
                refine hK _ _ ?_
                clear hK K
                have hsn := bestN_snoc p f (bestO p f u (z.1.origins.take k)) L q
                have h5s := Nat.le_trans HSZ5.out HF.out.2.1.size
                exact ⟨rfl, rfl, HF.out.1, HF.out.2.1, by rw [hsn]; exact HF.out.2.2, h5s⟩
          · skip
            go_simp
            refine hK _ _ ?_
            clear hK K
            try simp only [Act.put, List.setIfInBounds_toArray, List.set_cons_zero, List.set_cons_succ]
            refine wpAnyIn_ready (rs := [0, 4]) (by kernel_rfl) (by simp) ?_
            refine cons_in rfl (fun f' hf' => trivial) (by intro c hc; cases hc) (by rfl) (fun K hK => ?_) (cons_in rfl (fun f' hf' => trivial) (by intro c hc; cases hc) (by rfl) (fun K hK => ?_) AllReadyIn.nil)
            · skip
              go_simp
              refine hK _ _ ?_
              clear hK K
              try simp only [Act.put, List.setIfInBounds_toArray, List.set_cons_zero, List.set_cons_succ]
              refine wpAnyIn_ready (rs := [4]) (by kernel_rfl) (by simp) ?_
              refine cons_in rfl (fun f' hf' => trivial) (by intro c hc; cases hc) (by rfl) (fun K hK => ?_) AllReadyIn.nil
              · skip
                go_simp
                gi_at_call 25
                refine (callsIn_wide.2 (HAL.out _ (Below.refl _ _).drew)).mono ?_
                rintro e w6 ⟨A2, c2, rfl, ho6, hb6⟩
                have HB6 := Lib.hid (since_trans (Below.refl _ V).drew hb6)
                unfold rtV
                refine hK _ _ ?_
                clear hK K
                try simp only [Act.put, List.setIfInBounds_toArray, List.set_cons_zero, List.set_cons_succ]
                obtain ⟨o0, o1, o2⟩ := results_best ((hb6.block _ HSZ.out).trans HX.out)
                refine wpAnyIn_ready (rs := [5]) (by kernel_rfl) (by simp) ?_
                refine cons_in rfl (fun f' hf' => trivial) (by intro c hc; cases hc) (by rfl) (fun K hK => ?_) AllReadyIn.nil
                go_simp
                refine hK _ _ ?_
                clear hK K
                try simp only [Act.put, List.setIfInBounds_toArray, List.set_cons_zero, List.set_cons_succ]
                refine wpAnyIn_ready (rs := [6]) (by kernel_rfl) (by simp) ?_
                refine cons_in rfl (fun f' hf' => trivial) (by intro c hc; cases hc) (by rfl) (fun K hK => ?_) AllReadyIn.nil
                go_simp
                refine (callsIn_wide.2 (two_best (r := bestN p f (bestO p f u (z.1.origins.take k)) L) (x := wayR p f q) ((HOW.out.call HB6.out).rt _ _) (ho6.rt _ _) HIB.out.ok HRW.out)).mono ?_
                rintro e w8 ⟨A3, c3, rfl, ho8, hb8⟩
                have HB8 := Lib.hid (since_trans HB6.out hb8)
                unfold rtV
                refine hK _ _ ?_
                clear hK K
                try simp only [Act.put, List.setIfInBounds_toArray, List.set_cons_zero, List.set_cons_succ]
                have h8 := (HB8.out.block _ HSZ.out).trans HX.out
                obtain ⟨o0, o1, o2⟩ := results_best h8
                have f0 := frozen_of_row w8 _ 0 _ _ h8; have f1 := frozen_of_row w8 _ 1 _ _ h8; have f2 := frozen_of_row w8 _ 2 _ _ h8
                have HF := Lib.hid (HST.out w8 A3 c3 HB8.out (ho8.more (by have := HSZ.out; have := HB6.out.size; omega)))
                clear h8 hb8 ho8 hb6 ho6
                refine wpAnyIn_ready (rs := [7]) (by kernel_rfl) (by simp) ?_
                refine cons_in rfl (fun f' hf' => trivial) (by intro c hc; cases hc) (by rfl) (fun K hK => ?_) AllReadyIn.nil
                go_simp
                refine hK _ _ ?_
                clear hK K
                have hsn := bestN_snoc p f (bestO p f u (z.1.origins.take k)) L q
                have h5s := Nat.le_trans HSZ5.out HF.out.2.1.size
                exact ⟨rfl, rfl, HF.out.1, HF.out.2.1, by rw [hsn]; exact HF.out.2.2, h5s⟩
            · skip
              go_simp
              gi_at_call 25
              refine (callsIn_wide.2 (HAL.out _ (Below.refl _ _).drew)).mono ?_
              rintro e w6 ⟨A2, c2, rfl, ho6, hb6⟩
              have HB6 := Lib.hid (since_trans (Below.refl _ V).drew hb6)
              unfold rtV
              refine hK _ _ ?_
              clear hK K
              try simp only [Act.put, List.setIfInBounds_toArray, List.set_cons_zero, List.set_cons_succ]
              obtain ⟨o0, o1, o2⟩ := results_best ((hb6.block _ HSZ.out).trans HX.out)
              refine wpAnyIn_ready (rs := [0]) (by kernel_rfl) (by simp) ?_
              refine cons_in rfl (fun f' hf' => trivial) (by intro c hc; cases hc) (by rfl) (fun K hK => ?_) AllReadyIn.nil
              · skip
                go_simp
                refine hK _ _ ?_
                clear hK K
                try simp only [Act.put, List.setIfInBounds_toArray, List.set_cons_zero, List.set_cons_succ]
                refine wpAnyIn_ready (rs := [5]) (by kernel_rfl) (by simp) ?_
                refine cons_in rfl (fun f' hf' => trivial) (by intro c hc; cases hc) (by rfl) (fun K hK => ?_) AllReadyIn.nil
                go_simp
                refine hK _ _ ?_
                clear hK K
                try simp only [Act.put, List.setIfInBounds_toArray, List.set_cons_zero, List.set_cons_succ]
                refine wpAnyIn_ready (rs := [6]) (by kernel_rfl) (by simp) ?_
                refine cons_in rfl (fun f' hf' => trivial) (by intro c hc; cases hc) (by rfl) (fun K hK => ?_) AllReadyIn.nil
                go_simp
                refine (callsIn_wide.2 (two_best (r := bestN p f (bestO p f u (z.1.origins.take k)) L) (x := wayR p f q) ((HOW.out.call HB6.out).rt _ _) (ho6.rt _ _) HIB.out.ok HRW.out)).mono ?_
                rintro e w8 ⟨A3, c3, rfl, ho8, hb8⟩
                have HB8 := Lib.hid (since_trans HB6.out hb8)
                unfold rtV
                refine hK _ _ ?_
                clear hK K
                try simp only [Act.put, List.setIfInBounds_toArray, List.set_cons_zero, List.set_cons_succ]
                have h8 := (HB8.out.block _ HSZ.out).trans HX.out
                obtain ⟨o0, o1, o2⟩ := results_best h8
                have f0 := frozen_of_row w8 _ 0 _ _ h8; have f1 := frozen_of_row w8 _ 1 _ _ h8; have f2 := frozen_of_row w8 _ 2 _ _ h8
                have HF := Lib.hid (HST.out w8 A3 c3 HB8.out (ho8.more (by have := HSZ.out; have := HB6.out.size; omega)))
                clear h8 hb8 ho8 hb6 ho6
                refine wpAnyIn_ready (rs := [7]) (by kernel_rfl) (by simp) ?_
                refine cons_in rfl (fun f' hf' => trivial) (by intro c hc; cases hc) (by rfl) (fun K hK => ?_) AllReadyIn.nil
                go_simp
                refine hK _ _ ?_
                clear hK K
                have hsn := bestN_snoc p f (bestO p f u (z.1.origins.take k)) L q
                have h5s := Nat.le_trans HSZ5.out HF.out.2.1.size
                exact ⟨rfl, rfl, HF.out.1, HF.out.2.1, by rw [hsn]; exact HF.out.2.2, h5s⟩
        -- END ORDERS
      case done =>
        intro V hI hd
        have HI := Lib.hid hI.1
        have HD := Lib.hid hd
        have HV := Lib.hid hI.2
        clear hI hd
        dsimp only
        go_wp2_with fail
        have hfr : ∀ D ∈ Ds, D < w5.heap.size := fun D hD => (Array.getElem?_eq_some_iff.1 (I5.out.marks D hD)).1
        rw [← HZA.out]
        refine ⟨⟨k + 1, w5.heap.size :: Ds, _, _, _, _, _, _, _, _, _, _, _, _, _, _, _, _, _, _, _, _, _, by omega, rfl, List.nodup_cons.2 ⟨fun hm => absurd (hfr _ hm) (by omega), HND.out⟩, ?_⟩, ?_⟩
        · have e1 := bestO_snoc p f u (z.1.origins.take k) (b : Int)
          rw [← HT.out, Int.toNat_natCast] at e1
          rw [e1]
          have hi := HI.out
          refine ⟨hi.below, hi.plan, hi.fl, hi.out, hi.ok, fun D hD => ?_, fun D hD => ?_⟩
          · rcases List.mem_cons.1 hD with rfl | hD
            · exact HD.out
            · exact hi.marks D hD
          · rcases List.mem_cons.1 hD with rfl | hD
            · omega
            · exact hi.markge D hD
        · simp [intOf]; omega
    · have hke : k = z.1.origins.length := by omega
      subst hke
      obtain ⟨g0, g1, g2, g3, g4, g5, g6⟩ := IX.out.cells
      go_wp2_with fail
      have hi := IX.out
      rw [List.take_length] at hi
      refine bs_leave (fun W' a => ?_) Ds W HND.out hi
      obtain ⟨A, c, hx, ho⟩ := a.out
      obtain ⟨o0, o1, o2⟩ := results_best hx
      exact ⟨rtV (bestO p f u z.1.origins) A c, by simp [results, Tryz.results41, go_sem, rtV, o0, o1, o2], A, c, rfl, ho.more (by omega), a.below⟩
end
end Go.Proofs.YtlnnmjomdblciaaGreat

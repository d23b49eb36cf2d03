/- What round.Run answers. -/
import Derived.Test.YtablbagdnmbbfaaGreatRunW
namespace Go.Proofs.YtablbagdnmbbfaaGreat
set_option linter.unusedSimpArgs false
set_option linter.unusedVariables false
open Go.RowKit

attribute [local go_sem] Oper.semAt_some
theorem rounds_any (p : Net) (h : Hd) (f d : Int) (w : World) :
    Calls Tryz.prog 48 #[netV p h, .int .i64 f, .int .i64 d] w fun e w' => e = .returned (.func (.func 84) #[] #[.pointer (some ⟨w.heap.size, 0, none⟩), .pointer (some ⟨w.heap.size + 1 + 1, 0, none⟩), .pointer (some ⟨w.heap.size + 1, 0, none⟩)]) ∧ w' = ((w.alloc (.cells #[.int .i64 p.proto, .int .i64 p.cap, .int .i64 p.k, .slice h.an p.nodes.length h.cn, .slice h.al p.links.length h.cl, .slice h.ad p.dests.length h.cd, .slice h.ac p.checks.length h.cc] 30)).alloc (.cells #[.int .i64 f] 3)).alloc (.cells #[.int .i64 d] 3) := by
  unfold netV netVal
  go_enter Tryz.func48, Tryz.ntmps48
  go_wp2
  go_ret
  exact ⟨by rfl, by rfl⟩
theorem Turned.refl (l bm bo : Nat) (W : World) : Turned l bm bo W W := ⟨rfl, rfl, rfl, rfl, fun _ _ _ _ => rfl⟩
theorem Turned.trans {l bm bo : Nat} {W W1 W2 : World} (a : Turned l bm bo W W1) (b : Turned l bm bo W1 W2) : Turned l bm bo W W2 :=
  ⟨b.os.trans a.os, b.tape.trans a.tape, b.output.trans a.output, b.size.trans a.size, fun k h1 h2 h3 => (b.rest k h1 h2 h3).trans (a.rest k h1 h2 h3)⟩
theorem Turned.put {l bm bo : Nat} (W : World) (o : Obj) : Turned l bm bo W (W.putObj l o) :=
  ⟨rfl, rfl, rfl, by simp [World.putObj], fun k h1 _ _ => World.putObj_heap_other h1⟩
theorem Turned.set {l bm bo : Nat} (W : World) (q : Addr) (hq : q.block = bm ∨ q.block = bo) (v : Value) : Turned l bm bo W (W.setCell q v) :=
  ⟨rfl, rfl, rfl, by simp [World.setCell], fun k _ h2 h3 => Below.heap_setCell _ _ _ _ (by rcases hq with e | e <;> omega)⟩
theorem begin_round {P : Program} {l bm bo : Nat} {r : Loop} {W : World} (h : W.heap[l]? = some (.loop r)) (hr : r.state = .ready) :
    ∃ W2, Sem.run P (Instr.beginRound l) W = .ok () W2 ∧ W2.heap[l]? = some (.loop { r with state := .busy }) ∧ (∀ k, k ≠ l → W2.heap[k]? = W.heap[k]?) ∧ Turned l bm bo W W2 :=
  ⟨_, run_beginRound h hr, World.putObj_heap_same (Array.getElem?_eq_some_iff.1 h).1, fun _ hk => World.putObj_heap_other hk, Turned.put _ _⟩
theorem end_round {P : Program} {l bm bo : Nat} {r : Loop} {W : World} (jump : Option Code) (h : W.heap[l]? = some (.loop r)) :
    ∃ W2, Sem.run P (Instr.endRound l jump) W = .ok (.bool jump.isNone) W2 ∧ W2.heap[l]? = some (.loop { r with state := if jump.isNone then .ready else .done, pending := jump }) ∧ (∀ k, k ≠ l → W2.heap[k]? = W.heap[k]?) ∧ Turned l bm bo W W2 :=
  ⟨_, run_endRound jump h, World.putObj_heap_same (Array.getElem?_eq_some_iff.1 h).1, fun _ hk => World.putObj_heap_other hk, Turned.put _ _⟩
theorem go_round_end {P : Program} {l bm bo : Nat} {r : Loop} {W W2 : World} {k x0 y0 x : Value} (h00 : W.heap[l]? = some (.loop r)) (hrc2 : W2.heap[l]? = some (.loop { r with state := .busy })) (hr : r.state = .ready) (hp : r.pending = none) (hbm : W2.heap[bm]? = some (.cells #[x0] 3 (0, 0))) (hbo : W2.heap[bo]? = some (.cells #[y0] 37 (0, 0)))
    (ht : Turned l bm bo W W2) (n1 : l ≠ bm) (n2 : l ≠ bo) (n3 : bm ≠ bo) :
    ∃ W4, Sem.run P (Instr.endRound l none) ((W2.setCell ⟨bo, 0, none⟩ x).setCell ⟨bm, 0, none⟩ k) = .ok (.bool true) W4 ∧ W4.heap[l]? = some (.loop r) ∧ W4.heap[bm]? = some (.cells #[k] 3 (0, 0)) ∧ W4.heap[bo]? = some (.cells #[x] 37 (0, 0)) ∧ Turned l bm bo W W4 := by
  have h1 : ((W2.setCell ⟨bo, 0, none⟩ x).setCell ⟨bm, 0, none⟩ k).heap[l]? = some (.loop { r with state := .busy }) := by
    rw [Below.heap_setCell _ _ _ _ n1, Below.heap_setCell _ _ _ _ n2]; exact hrc2
  obtain ⟨W4, e1, e2, e3, e4⟩ := end_round (P := P) (bm := bm) (bo := bo) none h1
  refine ⟨W4, e1, ?_, ?_, ?_, (ht.trans ((Turned.set _ ⟨bo, 0, none⟩ (.inr rfl) _).trans (Turned.set _ ⟨bm, 0, none⟩ (.inl rfl) _))).trans e4⟩
  · rw [e2]
    cases r
    simp at hr hp
    subst hr hp
    rfl
  · rw [e3 _ (Ne.symm n1)]
    have := heap_setCell_same (W2.setCell ⟨bo, 0, none⟩ x) bm 0 #[x0] _ k ((Below.heap_setCell _ _ _ _ n3).trans hbm)
    exact this
  · rw [e3 _ (Ne.symm n2), Below.heap_setCell _ _ _ _ (Ne.symm n3)]
    exact heap_setCell_same W2 bo 0 #[y0] _ x hbo
theorem stop_round_end {P : Program} {l bm bo : Nat} {r : Loop} {W W2 : World} (pend : Code) (h00 : W.heap[l]? = some (.loop r)) (hrc2 : W2.heap[l]? = some (.loop { r with state := .busy })) (ht : Turned l bm bo W W2) (n2 : l ≠ bo) :
    ∃ W4, Sem.run P (Instr.endRound l (some pend)) W2 = .ok (.bool false) W4 ∧ W4.heap[l]? = some (.loop { r with state := .done, pending := some pend }) ∧ W4.heap[bo]? = W2.heap[bo]? ∧ Turned l bm bo W W4 := by
  obtain ⟨W4, e1, e2, e3, e4⟩ := end_round (P := P) (bm := bm) (bo := bo) (some pend) hrc2
  exact ⟨W4, e1, e2, e3 _ (Ne.symm n2), ht.trans e4⟩
theorem end_loop {P : Program} {l : Nat} {r : Loop} {W : World} (h : W.heap[l]? = some (.loop r)) (hb : r.state ≠ .busy) :
    ∃ W2, Sem.run P (Instr.endLoop l) W = .ok r.pending W2 ∧ (∀ k, k ≠ l → W2.heap[k]? = W.heap[k]?) ∧ Turned l l l W W2 :=
  ⟨_, run_endLoop h hb, fun _ hk => World.putObj_heap_other hk, Turned.put _ _⟩
/-- What is handed back, behind the loop. -/
theorem runX_end {w w6 W' W4 : World} {L : List Rt} {Z : List RtZ} {A : Option Addr} {c bo : Nat} (h6 : w.heap.size + 6 = w6.heap.size) (hbo : bo < w6.heap.size) (ho : W'.heap[bo]? = some (.cells #[.slice A Z.length c] 37 (0, 0))) (hZ : Z.map (·.1) = L) (hR : RowsAt W' (w6.heap.size + 2) Z A c)
    (hb : Below w.heap.size w W') (ht : Turned (w6.heap.size + 1) (w6.heap.size + 1) (w6.heap.size + 1) W' W4) (hd : W'.heap[w6.heap.size]? = some (.deferred (some []))) :
    W4.cell? ⟨bo, 0, none⟩ = some (.slice A Z.length c) ∧ W4.heap[w6.heap.size]? = some (.deferred (some [])) ∧ (W4.putObj w6.heap.size (.deferred none)).cell? ⟨bo, 0, none⟩ = some (.slice A Z.length c) ∧ StsPost w L (.returned (.slice A Z.length c)) (W4.putObj w6.heap.size (.deferred none)) := by
  have h1 : W4.heap[bo]? = some (.cells #[.slice A Z.length c] 37 (0, 0)) := (ht.rest _ (by omega) (by omega) (by omega)).trans ho
  have h2 : (W4.putObj w6.heap.size (.deferred none)).heap[bo]? = some (.cells #[.slice A Z.length c] 37 (0, 0)) := (World.putObj_heap_other (by omega)).trans h1
  have ht2 : Turned w6.heap.size w6.heap.size w6.heap.size W4 (W4.putObj w6.heap.size (.deferred none)) := Turned.put _ _
  refine ⟨cell_of_row _ _ 0 _ _ _ h1, (ht.rest _ (by omega) (by omega) (by omega)).trans hd, cell_of_row _ _ 0 _ _ _ h2, Z, A, c, rfl, hZ, ?_⟩
  refine RowsAt.lw (RowsAt.more (B := w6.heap.size + 2) ?_ (by omega)) (ht2.below (ht.below hb (by omega) (by omega) (by omega)) (by omega) (by omega) (by omega))
  exact hR.keep fun k hk => (ht2.rest k (by omega) (by omega) (by omega)).trans (ht.rest k (by omega) (by omega) (by omega))
/-- A range over a closure, at an activation of its own. -/
theorem wpIn_range_clo {n : Nat} {P : Program} {g : Operand} {ps : Array Tmp} {assign body : Code} {Q : Exit → Act → World → Prop} {a : Act} {w : World} {k : FuncId} {caps : Array Value}  (hg : a.eval g = .func (.func k) #[] caps)
    (hinv : ∀ (W : World) (args : Array Value), Sem.run P (callFunc k args) W = Result.ok (Next.enter k args) W)
    (h : ∀ fn, CallsIn Fence.wide (n - 1) P k (#[.func (.yield (w.heap.size + 1)) #[] #[]] ++ caps) ((w.alloc (.deferred (some []))).alloc (.loop { state := .ready, pending := none, fn, tmps := a.tmps, params := ps, assign, body, defers := w.heap.size })) (rangePost Fence.wide n P (w.heap.size + 1) Q { a with defers := [{ target := .collected w.heap.size, args := #[] }] ++ a.defers })) :
    (Code.rangeFunc g ps assign body).wpIn Fence.wide n P Q a w := by
  refine wpIn_rangeFunc ?_
  intro fn hfn
  rw [show Fence.wide.round = none from rfl]
  refine ⟨w.heap.size + 1, [{ target := .collected w.heap.size, args := #[] }], (w.alloc (.deferred (some []))).alloc (.loop { state := .ready, pending := none, fn, tmps := a.tmps, params := ps, assign, body, defers := w.heap.size }), { target := .fn (.func k) caps, args := #[.func (.yield (w.heap.size + 1)) #[] #[]] }, (w.alloc (.deferred (some []))).alloc (.loop { state := .ready, pending := none, fn, tmps := a.tmps, params := ps, assign, body, defers := w.heap.size }), k,
    #[.func (.yield (w.heap.size + 1)) #[] #[]] ++ caps, (w.alloc (.deferred (some []))).alloc (.loop { state := .ready, pending := none, fn, tmps := a.tmps, params := ps, assign, body, defers := w.heap.size }), run_enterLoop_outer _ _ _ _ _, ?_, ?_, ?_, ?_, ?_⟩
  · simp only [resolve, hg]; simp [go_sem]
  · intro _ _; trivial
  · simp only [invoke]; exact hinv _ _
  · intro hx; exact absurd hx (by decide)
  · have h2 := h fn
    with_reducible exact h2
set_option maxRecDepth 100000 in
set_option maxHeartbeats 4000000 in
theorem runX_any (p : Net) (h : Hd) (f d : Int) (m : Nat) (hm : m ≤ 1000) (w : World) (hp : NetR w w.heap.size p h) (hg : Good p) (hd : placeB d p.dests.length = true) :
    Calls Tryz.prog 28 #[netV p h, .int .i64 f, .int .i64 d, .int .i64 (m : Int)] w (StsPost w (stL p (runF p f d m))) := by
  obtain ⟨R, hR, hS⟩ := stop_ex (p := p) (f := f) (d := d) hg.netG
  have HP := Lib.hid hp
  have HG := Lib.hid hg
  have HD := Lib.hid hd
  have HS := Lib.hid hS
  clear hp hg hd hS
  unfold netV netVal
  refine (callsIn_wide (n := 4)).1 ?_
  refine callsIn_of_wp_marks Tryz.func28 rfl trivial ?_ rfl
  simp only [Tryz.ntmps28, List.size_toArray, List.length_cons, List.length_nil, Nat.reduceAdd, Nat.reduceSub, Array.replicate_succ, Array.replicate_zero, List.push_toArray, List.append_toArray, List.nil_append, List.cons_append]
  gi_wp2_with (refine ⟨trivial, ?_⟩; gi_at_call 48; refine (callsIn_wide.2 (rounds_any p h f d _)).mono ?_; rintro e w6 ⟨rfl, rfl⟩)
  generalize hw6 : ((((((w.alloc (.cells #[.int .i64 p.proto, .int .i64 p.cap, .int .i64 p.k, .slice h.an p.nodes.length h.cn, .slice h.al p.links.length h.cl, .slice h.ad p.dests.length h.cd, .slice h.ac p.checks.length h.cc] 30)).alloc (.cells #[.int .i64 (m : Int)] 3)).alloc (.cells #[.slice none 0 0] 37)).alloc (.cells #[.int .i64 p.proto, .int .i64 p.cap, .int .i64 p.k, .slice h.an p.nodes.length h.cn, .slice h.al p.links.length h.cl, .slice h.ad p.dests.length h.cd, .slice h.ac p.checks.length h.cc] 30)).alloc (.cells #[.int .i64 f] 3)).alloc (.cells #[.int .i64 d] 3)) = w6
  have hB6 : Bl w w6 [.cells (netCells p h) 30, .cells #[.int .i64 (m : Int)] 3, .cells #[.slice none 0 0] 37, .cells (netCells p h) 30, .cells #[.int .i64 f] 3, .cells #[.int .i64 d] 3] := by
    subst hw6
    exact ((((((Bl.begin w).push (by simp) _).push (by simp) _).push (by simp) _).push (by simp) _).push (by simp) _).push (by simp) _
  have hs6 : w6.heap.size = w.heap.size + 6 := by subst hw6; simp
  have B6 := Lib.hid hB6
  try simp only [World.size_alloc]
  have HS6 := Lib.hid hs6
  clear hB6 hw6 hs6
  refine wpIn_range_clo (k := 84) (caps := #[.pointer (some ⟨w.heap.size + 1 + 1 + 1, 0, none⟩), .pointer (some ⟨w.heap.size + 1 + 1 + 1 + 1 + 1, 0, none⟩), .pointer (some ⟨w.heap.size + 1 + 1 + 1 + 1, 0, none⟩)]) (by rfl) (by
    intro W args
    have e1 : ¬ (Tryz.f84.name = "runtime.NumGoroutine") := by decide +kernel
    have e2 : ¬ (Tryz.f84.body = none) := fun e => by cases e
    simp [callFunc, go_sem, e1, e2]) fun fn => ?_
  refine (run_core p h f d m hm w HP.out HG.out HD.out R HS.out _ (.exit 0) rfl rfl rfl w6 (w.heap.size + 1 + 1 + 1) (w.heap.size + 1 + 1 + 1 + 1 + 1) (w.heap.size + 1 + 1 + 1 + 1) (w.heap.size + 1) (w.heap.size + 1 + 1) B6.out.below (by omega) (by omega) (by have := HS6.out; omega) (by have := HS6.out; omega) (B6.out.at_ 3 _ rfl) (B6.out.at_ 5 _ rfl) (B6.out.at_ 4 _ rfl) (B6.out.at_ 1 _ rfl) (B6.out.at_ 2 _ rfl) (by omega) ?hgo ?hstop).mono ?fin
  case hgo =>
    intro A' n' c' k o W hk0 hk1 ho hbm hbo hrc
    obtain ⟨A0, n0, c0, rfl⟩ := ho
    obtain ⟨W2, hbr, hrc2, hot2, ht2⟩ := begin_round (P := Tryz.prog) (bm := w.heap.size + 1) (bo := w.heap.size + 1 + 1) hrc rfl
    have hbm2 := (hot2 (w.heap.size + 1) (by have := HS6.out; omega)).trans hbm
    have hbo2 := (hot2 (w.heap.size + 1 + 1) (by have := HS6.out; omega)).trans hbo
    have cm := cell_of_row W2 _ 0 _ _ _ hbm2
    have fm := frozen_of_row W2 _ 0 _ _ hbm2
    have co := cell_of_row W2 _ 0 _ _ _ hbo2
    have fo := frozen_of_row W2 _ 0 _ _ hbo2
    have hwr : wrap64 (k - 1) = k - 1 := by unfold wrap64; omega
    have HRC := Lib.hid hrc2
    have HR0 := Lib.hid hrc
    have HOT := Lib.hid hot2
    have HT := Lib.hid ht2
    have HBM := Lib.hid hbm2
    have HBO := Lib.hid hbo2
    clear hrc2 hot2 ht2 hbm2 hbo2 hbm hbo hrc
    refine roundIn_of_wpIn trivial ?_
    dsimp only
    simp only [List.zip_toArray, List.zip_cons_cons, List.zip_nil_left, List.zip_nil_right, List.foldl_toArray, List.foldl_toArray', List.foldl_cons, List.foldl_nil, List.setIfInBounds_toArray, List.set_cons_succ, List.set_cons_zero, List.size_toArray, List.length_cons, List.length_nil]
    gi_wp2
    have HS6o := HS6.out
    obtain ⟨W4, e1, e2, e3, e4, e5⟩ := go_round_end (P := Tryz.prog) (x := .slice A' n' c') (k := .int .i64 (k - 1)) HR0.out HRC.out rfl rfl HBM.out HBO.out HT.out (by omega) (by omega) (by omega)
    exact ⟨_, W4, e1, rfl, e2, e3, e4, e5⟩
  case hstop =>
    intro A' n' c' k W hk0 hk1 hbm hrc
    obtain ⟨W2, hbr, hrc2, hot2, ht2⟩ := begin_round (P := Tryz.prog) (bm := w.heap.size + 1) (bo := w.heap.size + 1 + 1) hrc rfl
    have hbm2 := (hot2 (w.heap.size + 1) (by have := HS6.out; omega)).trans hbm
    have cm := cell_of_row W2 _ 0 _ _ _ hbm2
    have hbo2 := hot2 (w.heap.size + 1 + 1) (by have := HS6.out; omega)
    have HRC := Lib.hid hrc2
    have HR0 := Lib.hid hrc
    have HT := Lib.hid ht2
    have HBO := Lib.hid hbo2
    clear hrc2 hot2 ht2 hbm2 hbm hrc hbo2
    refine roundIn_of_wpIn trivial ?_
    dsimp only
    simp only [List.zip_toArray, List.zip_cons_cons, List.zip_nil_left, List.zip_nil_right, List.foldl_toArray, List.foldl_toArray', List.foldl_cons, List.foldl_nil, List.setIfInBounds_toArray, List.set_cons_succ, List.set_cons_zero, List.size_toArray, List.length_cons, List.length_nil]
    gi_wp2
    have HS6o := HS6.out
    obtain ⟨W4, e1, e2, e3, e4⟩ := stop_round_end (P := Tryz.prog) (.exit 0) HR0.out HRC.out HT.out (by omega)
    exact ⟨_, W4, e1, rfl, e2, e3.trans HBO.out, e4⟩
  case fin =>
    rintro e W' ⟨⟨v, rfl⟩, (⟨g, hb⟩ | x)⟩
    · obtain ⟨W4, e1, e2, e3⟩ := end_loop (P := Tryz.prog) g.rc (by simp)
      obtain ⟨Z, A, c, ho, hr⟩ := g.out
      obtain ⟨hZ, hR⟩ := hr (by omega)
      have hRm : R ≤ m := by have := g.le; omega
      have hZm : Z.map (·.1) = stL p (runF p f d m) := by
        rw [hZ, Nat.add_sub_cancel]
        have := stop_stays HG.out.lksOk HS.out.stop (m - R)
        rw [← this, show R + (m - R) = m by omega]
      obtain ⟨q1, q2, q3, q4⟩ := runX_end HS6.out.symm (by have := HS6.out; omega) ho hZm hR hb e3 g.df
      have HF := Lib.hid q4
      have HDF := Lib.hid q2
      clear ho hr hZ hR hRm hZm e2 e3 g hb q4 q2
      refine ⟨none, W4, e1, ?_⟩
      dsimp only
      gi_wp2
      refine ⟨by simp, .inl ⟨_, _, rfl, run_takeDeferred HDF.out, ?_⟩⟩
      exact ⟨.slice A Z.length c, by simp [results, Tryz.results28, go_sem, q3], HF.out⟩
    · obtain ⟨W4, e1, e2, e3⟩ := end_loop (P := Tryz.prog) x.rc (by simp)
      obtain ⟨Z, A, c, ho, hZ, hR⟩ := x.out
      obtain ⟨q1, q2, q3, q4⟩ := runX_end HS6.out.symm (by have := HS6.out; omega) ho hZ hR x.below e3 x.df
      have HF := Lib.hid q4
      have HDF := Lib.hid q2
      clear ho hZ hR e2 e3 x q4 q2
      refine ⟨some (.exit 0), W4, e1, ?_⟩
      dsimp only
      gi_wp2
      refine ⟨by simp, .inl ⟨_, _, rfl, run_takeDeferred HDF.out, ?_⟩⟩
      exact ⟨.slice A Z.length c, by simp [results, Tryz.results28, go_sem, q3], HF.out⟩
end Go.Proofs.YtablbagdnmbbfaaGreat

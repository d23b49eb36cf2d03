/- The walk of round.Run: a range over a function. -/
import Derived.Test.YtablbagdnmbbfaaGreatRoundV
import Derived.RangeFuncNested
import Derived.RangeFuncBound
import Derived.RangeFuncCalls
import Derived.RangeFuncLeaves
import Derived.Shelf.Abstract
import Derived.Shelf.RegionOpen
import Derived.OwnWalkIn
import Derived.TacticsInMore
import Derived.LoopNIn
import Derived.LoopIn
namespace Go.Proofs.YtablbagdnmbbfaaGreat
set_option linter.unusedSimpArgs false
set_option linter.unusedVariables false
open Go.RowKit

attribute [local go_sem] Oper.semAt_some
/-- Routes in rows from block B on. -/
structure RowsAt (W : World) (B : Nat) (Z : List RtZ) (A : Option Addr) (c : Nat) : Prop where
  row : Own W B 53 3 A Z.length c (Z.flatMap rtCells)
  za : c = 0 → A = none
  each : ∀ z ∈ Z, OwnOr W B z.2.1 z.2.2 z.1.path
theorem Own.keepFrom {w w' : World} {B s n c : Nat} {e : TypeId} {A : Option Addr} {xs : List Value} (h : Own w B e s A n c xs) (hk : ∀ k, B ≤ k → w'.heap[k]? = w.heap[k]?) : Own w' B e s A n c xs := by
  obtain ⟨h1, h2, h3, h4, hb, h5⟩ := h
  refine ⟨h1, h2, h3, h4, hb, fun hc => ?_⟩
  obtain ⟨g, off, cur, rfl, hh, r⟩ := h5 hc
  exact ⟨g, off, cur, rfl, (hk g (hb g rfl)).trans hh, r⟩
section
variable {W W' w0 w1 : World} {B : Nat} {Z : List RtZ} {A : Option Addr} {c : Nat}
theorem LW.rows (a : LW w0 W Z A c) : RowsAt W w0.heap.size Z A c := ⟨a.row, a.za, a.each⟩
theorem RowsAt.lw (a : RowsAt W w0.heap.size Z A c) (hb : Below w0.heap.size w0 W) : LW w0 W Z A c := ⟨hb, a.row, a.za, a.each⟩
theorem RowsAt.call (a : RowsAt W B Z A c) (hb : Below W.heap.size W W') : RowsAt W' B Z A c := ⟨a.row.call hb, a.za, fun z hz => (a.each z hz).call hb⟩
theorem RowsAt.more {B' : Nat} (a : RowsAt W B Z A c) (hB : B' ≤ B) : RowsAt W B' Z A c := ⟨a.row.more hB, a.za, fun z hz => (a.each z hz).more hB⟩
theorem RowsAt.rts (a : RowsAt W B Z A c) : RtsR W W.heap.size Z A := ⟨a.row.rd, fun z hz => (a.each z hz).rt _ _⟩
theorem RowsAt.keep (a : RowsAt W B Z A c) (hk : ∀ k, B ≤ k → W'.heap[k]? = W.heap[k]?) : RowsAt W' B Z A c := ⟨a.row.keepFrom hk, a.za, fun z hz => (a.each z hz).imp (fun h => h.keepFrom hk) id⟩
end
/-- What the iterator has captured, and what was there. -/
structure RunJ (w : World) (p : Net) (h : Hd) (f d : Int) (bp bd bf n0 : Nat) (W : World) : Prop where
  below : Below w.heap.size w W
  plan : W.heap[bp]? = some (.cells (netCells p h) 30 (0, 0))
  dst : W.heap[bd]? = some (.cells #[.int .i64 d] 3 (0, 0))
  fl : W.heap[bf]? = some (.cells #[.int .i64 f] 3 (0, 0))
  size : n0 ≤ W.heap.size
section
variable {w W W' : World} {p : Net} {h : Hd} {f d : Int} {bp bd bf n0 : Nat}
theorem RunJ.call (a : RunJ w p h f d bp bd bf n0 W) (hb : Below W.heap.size W W') : RunJ w p h f d bp bd bf n0 W' :=
  ⟨since_trans a.below hb, (hb.block _ (lt_heap a.plan)).trans a.plan, (hb.block _ (lt_heap a.dst)).trans a.dst, (hb.block _ (lt_heap a.fl)).trans a.fl, Nat.le_trans a.size hb.size⟩
theorem RunJ.all (a : RunJ w p h f d bp bd bf n0 W) : (W.cell? ⟨bp, 0, none⟩ = some (.int .i64 p.proto) ∧ W.cell? ⟨bp, 1, none⟩ = some (.int .i64 p.cap) ∧ W.cell? ⟨bp, 2, none⟩ = some (.int .i64 p.k) ∧ W.cell? ⟨bp, 3, none⟩ = some (.slice h.an p.nodes.length h.cn) ∧ W.cell? ⟨bp, 4, none⟩ = some (.slice h.al p.links.length h.cl) ∧ W.cell? ⟨bp, 5, none⟩ = some (.slice h.ad p.dests.length h.cd) ∧ W.cell? ⟨bp, 6, none⟩ = some (.slice h.ac p.checks.length h.cc)) ∧ W.cell? ⟨bd, 0, none⟩ = some (.int .i64 d) ∧ W.cell? ⟨bf, 0, none⟩ = some (.int .i64 f) :=
  ⟨⟨cell_of_row W _ 0 _ _ _ a.plan, cell_of_row W _ 1 _ _ _ a.plan, cell_of_row W _ 2 _ _ _ a.plan, cell_of_row W _ 3 _ _ _ a.plan, cell_of_row W _ 4 _ _ _ a.plan, cell_of_row W _ 5 _ _ _ a.plan, cell_of_row W _ 6 _ _ _ a.plan⟩, cell_of_row W _ 0 _ _ _ a.dst, cell_of_row W _ 0 _ _ _ a.fl⟩
end
/-- Ahead of round r, k rounds from the last one. -/
def RunRel (w : World) (p : Net) (h : Hd) (f d : Int) (bp bd bf n0 R : Nat) (G : Nat → World → Prop) (k : Nat) (s : Value) (W : World) : Prop :=
  ∃ (r : Nat) (Z : List RtZ) (A : Option Addr) (c : Nat), r + k = R ∧ s = .slice A Z.length c ∧ Z.map (·.1) = stL p (runF p f d r) ∧ RowsAt W n0 Z A c ∧ G r W ∧ RunJ w p h f d bp bd bf n0 W

set_option maxRecDepth 100000 in
set_option maxHeartbeats 4000000 in
theorem rounds1_any (p : Net) (h : Hd) (f d : Int) (w : World) (hp : NetR w w.heap.size p h) (hg : Good p) (hd : placeB d p.dests.length = true) (R : Nat) (hS : Stop p f d R) (l bp bd bf n0 : Nat) (G : Nat → World → Prop) (X : World → Prop)
    (hG : ∀ r W W', G r W → Below W.heap.size W W' → G r W')
    (hY : ∀ (r : Nat) (Z : List RtZ) (A : Option Addr) (c : Nat) (W : World), G r W → RunJ w p h f d bp bd bf n0 W → RowsAt W n0 Z A c → Z.map (·.1) = stL p (runF p f d r) → r ≤ R →
      YieldAt Fence.wide 2 Tryz.prog l #[.slice A Z.length c] W fun e W' => (e = .returned (.bool true) ∧ G (r + 1) W' ∧ RunJ w p h f d bp bd bf n0 W' ∧ ∀ k, n0 ≤ k → W'.heap[k]? = W.heap[k]?) ∨ (e = .returned (.bool false) ∧ X W'))
    (W : World) (hJ : RunJ w p h f d bp bd bf n0 W) (h0 : G 0 W) :
    CallsIn Fence.wide 3 Tryz.prog 84 #[.func (.yield l) #[] #[], .pointer (some ⟨bp, 0, none⟩), .pointer (some ⟨bd, 0, none⟩), .pointer (some ⟨bf, 0, none⟩)] W fun e W' => (∃ v, e = .returned v) ∧ (G (R + 1) W' ∨ X W') := by
  have HP := Lib.hid hp
  have HG := Lib.hid hg
  have HD := Lib.hid hd
  have HS := Lib.hid hS
  have HY := Lib.hid hY
  have HGc := Lib.hid hG
  have HJ := Lib.hid hJ
  have H0 := Lib.hid h0
  clear hp hg hd hS hY hG
  obtain ⟨⟨g0, g1, g2, g3, g4, g5, g6⟩, g7, g8⟩ := hJ.all
  clear hJ h0
  refine callsIn_of_wp Tryz.func84 rfl trivial ?_ rfl
  simp only [Tryz.ntmps84, List.size_toArray, List.length_cons, List.length_nil, Nat.reduceAdd, Nat.reduceSub, Array.replicate_succ, Array.replicate_zero, List.push_toArray, List.append_toArray, List.nil_append, List.cons_append]
  gi_wp2_with (refine ⟨trivial, ?_⟩; gi_at_call 34; refine (callsIn_wide.2 (start_any p h d W (HP.out.call HJ.out.below) HG.out HD.out)).mono ?_; rintro e W1 ⟨Z, A, c, rfl, hZ, hL⟩)
  have J1 := Lib.hid (HJ.out.call hL.below)
  have R1 := Lib.hid (show RowsAt W1 n0 Z A c from hL.rows.more HJ.out.size)
  have G1 := Lib.hid (HGc.out 0 _ _ H0.out hL.below)
  have HZ := Lib.hid hZ
  clear g0 g1 g2 g3 g4 g5 g6 g7 g8 hZ hL
  gi_loopw [5] (fun s wr => ∃ k, RunRel w p h f d bp bd bf n0 R G k s wr) (fun s wr => leastOf (fun k => RunRel w p h f d bp bd bf n0 R G k s wr))
  case atStart => exact ⟨R, 0, Z, A, c, by omega, rfl, HZ.out, R1.out, G1.out, J1.out⟩
  case round =>
    obtain ⟨r, Z', A', c', hrk, hs, hZ', hR', hG', hJ'⟩ := (leastOf_spec hrel).1
    have HLE := Lib.hid (leastOf_spec hrel).2
    generalize hkk : leastOf (fun k => RunRel w p h f d bp bd bf n0 R G k u5 wr) = k at *
    have HKK := Lib.hid hkk
    clear hkk hrel
    subst hs
    obtain ⟨fn, tmps, assign, body, hy, hR⟩ := HY.out r Z' A' c' wr hG' hJ' hR' hZ' (by omega)
    have HR := Lib.hid hR
    have HRK := Lib.hid hrk
    have HZ' := Lib.hid hZ'
    have HRW := Lib.hid hR'
    have hZ12 : Z'.length ≤ 12 := by have := congrArg List.length hZ'; rw [List.length_map, stL_len] at this; have := HG.out.n12.2; omega
    clear hR hrk hZ' hR' hG' hJ'
    gi_wp2
    refine HR.out.mono ?_
    rintro e W2 (⟨rfl, hG2, hJ2, hk2⟩ | ⟨rfl, hX⟩)
    · have G2 := Lib.hid hG2
      have J2 := Lib.hid hJ2
      have R2 := Lib.hid (HRW.out.keep hk2)
      obtain ⟨⟨g0, g1, g2, g3, g4, g5, g6⟩, g7, g8⟩ := hJ2.all
      clear hG2 hJ2 hk2 hy
      have NG := Lib.hid HG.out.netG
      gi_wp2_with (refine ⟨trivial, ?_⟩; gi_at_call 22; refine (callsIn_wide.2 (stepR_any p h f d (runF p f d r) Z' A' c' W2 (HP.out.call J2.out.below) HG.out HD.out R2.out.rts HZ'.out (run_fits NG.out r))).mono ?_; rintro e W3 ⟨Y, A3, c3, rfl, hY3, hL3⟩)
      have HY3 := Lib.hid (show Y.map (·.1) = stL p (runF p f d (r + 1)) from hY3)
      have J3 := Lib.hid (J2.out.call hL3.below)
      have R3 := Lib.hid (R2.out.call hL3.below)
      have Y3 := Lib.hid (show RowsAt W3 n0 Y A3 c3 from hL3.rows.more J2.out.size)
      have G3 := Lib.hid (HGc.out _ _ _ G2.out hL3.below)
      have hY12 : Y.length ≤ 12 := by have := congrArg List.length hY3; rw [List.length_map, stL_len] at this; have := HG.out.n12.2; omega
      clear hY3 hL3 g0 g1 g2 g3 g4 g5 g6 g7 g8
      gi_wp2_with (refine ⟨trivial, ?_⟩; gi_at_call 23; refine (callsIn_wide.2 (sameR_any Z' Y A' A3 c' c3 W3 R3.out.rts Y3.out.rts (by omega) (by omega))).mono ?_; rintro e W4 ⟨rfl, hb4⟩; rw [HZ'.out, HY3.out])
      · rename_i hsame
        have hrR : r = R := by
          have h1 := HRK.out
          rcases Nat.lt_or_eq_of_le (show r ≤ R by omega) with h2 | h2
          · exact absurd hsame (HS.out.least r h2)
          · exact h2
        have GF := Lib.hid (HGc.out _ _ _ G3.out hb4)
        rw [hrR] at GF
        clear hsame hrR
        refine bodyPost_ret (results_none rfl _ _ _) rfl ?_
        exact ⟨⟨_, rfl⟩, .inl GF.out⟩
      · rename_i hsame
        have hrR : r ≠ R := fun e => hsame (by rw [e]; exact HS.out.stop)
        have h1 := HRK.out
        have hrel' : RunRel w p h f d bp bd bf n0 R G (k - 1) (.slice A3 Y.length c3) W4 := ⟨r + 1, Y, A3, c3, by omega, rfl, HY3.out, Y3.out.call hb4, HGc.out _ _ _ G3.out hb4, J3.out.call hb4⟩
        refine ⟨⟨_, hrel'⟩, ?_⟩
        have h2 := (leastOf_spec (p := fun k => RunRel w p h f d bp bd bf n0 R G k (.slice A3 Y.length c3) W4) ⟨_, hrel'⟩).2 _ hrel'
        rw [HKK.out]
        omega
    · have HX := Lib.hid hX
      clear hX hy
      gi_wp2
      go_end0
      exact ⟨⟨_, rfl⟩, .inr HX.out⟩

/-- Only the loop's record and two boxes differ. -/
structure Turned (l bm bo : Nat) (W W' : World) : Prop where
  os : W'.os = W.os
  tape : W'.tape = W.tape
  output : W'.output = W.output
  size : W'.heap.size = W.heap.size
  rest : ∀ k, k ≠ l → k ≠ bm → k ≠ bo → W'.heap[k]? = W.heap[k]?
theorem Turned.below {l bm bo : Nat} {W W' : World} {n : Nat} {w : World} (t : Turned l bm bo W W') (hb : Below n w W) (h1 : n ≤ l) (h2 : n ≤ bm) (h3 : n ≤ bo) : Below n w W' :=
  ⟨t.os.trans hb.os, t.tape.trans hb.tape, t.output.trans hb.output, by rw [t.size]; exact hb.size, fun k hk => (t.rest k (by omega) (by omega) (by omega)).trans (hb.block k hk)⟩
/-- Between two rounds: r have gone on. -/
structure RunG (p : Net) (f d : Int) (m : Nat) (l bm bo D n0 : Nat) (rec : Loop) (r : Nat) (W : World) : Prop where
  rc : W.heap[l]? = some (.loop rec)
  many : W.heap[bm]? = some (.cells #[.int .i64 ((m : Int) - r)] 3 (0, 0))
  out : ∃ (Z : List RtZ) (A : Option Addr) (c : Nat), W.heap[bo]? = some (.cells #[.slice A Z.length c] 37 (0, 0)) ∧ (0 < r → Z.map (·.1) = stL p (runF p f d (r - 1)) ∧ RowsAt W n0 Z A c)
  df : W.heap[D]? = some (.deferred (some []))
  le : r ≤ m + 1
/-- A round has left by the break. -/
structure RunX (p : Net) (f d : Int) (m : Nat) (l bo D n0 : Nat) (rec : Loop) (pend : Code) (w : World) (W : World) : Prop where
  rc : W.heap[l]? = some (.loop { rec with state := .done, pending := some pend })
  out : ∃ (Z : List RtZ) (A : Option Addr) (c : Nat), W.heap[bo]? = some (.cells #[.slice A Z.length c] 37 (0, 0)) ∧ Z.map (·.1) = stL p (runF p f d m) ∧ RowsAt W n0 Z A c
  df : W.heap[D]? = some (.deferred (some []))
  below : Below w.heap.size w W
theorem run_core (p : Net) (h : Hd) (f d : Int) (m : Nat) (hm : m ≤ 1000) (w : World) (hp : NetR w w.heap.size p h) (hg : Good p) (hd : placeB d p.dests.length = true) (R : Nat) (hS : Stop p f d R) (rec : Loop) (pend : Code) (hs1 : rec.state = .ready) (hs2 : rec.pending = none) (hs3 : rec.params.size = 1) (w6 : World)
    (bp bd bf bm bo : Nat) (hw6 : Below w.heap.size w w6) (h1 : w.heap.size ≤ bm) (h2 : w.heap.size ≤ bo) (hbm : bm < w6.heap.size) (hbo : bo < w6.heap.size)
    (hpl : w6.heap[bp]? = some (.cells (netCells p h) 30 (0, 0))) (hdl : w6.heap[bd]? = some (.cells #[.int .i64 d] 3 (0, 0))) (hfl : w6.heap[bf]? = some (.cells #[.int .i64 f] 3 (0, 0)))
    (hml : w6.heap[bm]? = some (.cells #[.int .i64 (m : Int)] 3 (0, 0))) (hol : w6.heap[bo]? = some (.cells #[.slice none 0 0] 37 (0, 0)))
    (hne : bp ≠ bm ∧ bp ≠ bo ∧ bd ≠ bm ∧ bd ≠ bo ∧ bf ≠ bm ∧ bf ≠ bo ∧ bm ≠ bo)
    (hgo : ∀ (A' : Option Addr) (n' c' : Nat) (k : Int) (o : Value) (W : World), 0 ≤ k → k ≤ 1000 → (∃ A n c, o = .slice A n c) → W.heap[bm]? = some (.cells #[.int .i64 k] 3 (0, 0)) → W.heap[bo]? = some (.cells #[o] 37 (0, 0)) → W.heap[w6.heap.size + 1]? = some (.loop rec) →
      RoundIn Fence.wide 2 Tryz.prog (w6.heap.size + 1) rec.fn ((rec.params.zip #[.slice A' n' c']).foldl (fun tmps (t, a) => tmps.setIfInBounds t a) rec.tmps) rec.assign rec.body W fun e W' => e = .returned (.bool true) ∧ W'.heap[w6.heap.size + 1]? = some (.loop rec) ∧ W'.heap[bm]? = some (.cells #[.int .i64 (k - 1)] 3 (0, 0)) ∧ W'.heap[bo]? = some (.cells #[.slice A' n' c'] 37 (0, 0)) ∧ Turned (w6.heap.size + 1) bm bo W W')
    (hstop : ∀ (A' : Option Addr) (n' c' : Nat) (k : Int) (W : World), k < 0 → -10 ≤ k → W.heap[bm]? = some (.cells #[.int .i64 k] 3 (0, 0)) → W.heap[w6.heap.size + 1]? = some (.loop rec) →
      RoundIn Fence.wide 2 Tryz.prog (w6.heap.size + 1) rec.fn ((rec.params.zip #[.slice A' n' c']).foldl (fun tmps (t, a) => tmps.setIfInBounds t a) rec.tmps) rec.assign rec.body W fun e W' => e = .returned (.bool false) ∧ W'.heap[w6.heap.size + 1]? = some (.loop { rec with state := .done, pending := some pend }) ∧ W'.heap[bo]? = W.heap[bo]? ∧ Turned (w6.heap.size + 1) bm bo W W') :
    CallsIn Fence.wide 3 Tryz.prog 84 #[.func (.yield (w6.heap.size + 1)) #[] #[], .pointer (some ⟨bp, 0, none⟩), .pointer (some ⟨bd, 0, none⟩), .pointer (some ⟨bf, 0, none⟩)] ((w6.alloc (.deferred (some []))).alloc (.loop rec))
      fun e W' => (∃ v, e = .returned v) ∧ ((RunG p f d m (w6.heap.size + 1) bm bo w6.heap.size (w6.heap.size + 2) rec (R + 1) W' ∧ Below w.heap.size w W') ∨ RunX p f d m (w6.heap.size + 1) bo w6.heap.size (w6.heap.size + 2) rec pend w W') := by
  obtain ⟨n1, n2, n3, n4, n5, n6, n7⟩ := hne
  have hbw := hw6.size
  have hold : ∀ k, k < w6.heap.size → ((w6.alloc (.deferred (some []))).alloc (.loop rec)).heap[k]? = w6.heap[k]? := fun k hk => (Below.heap_alloc _ _ k (by simp; omega)).trans (Below.heap_alloc _ _ k hk)
  have hbel : Below w.heap.size w ((w6.alloc (.deferred (some []))).alloc (.loop rec)) := (hw6.alloc hbw _).alloc (by simp; omega) _
  have hJ0 : RunJ w p h f d bp bd bf (w6.heap.size + 2) ((w6.alloc (.deferred (some []))).alloc (.loop rec)) :=
    ⟨hbel, (hold _ (lt_heap hpl)).trans hpl, (hold _ (lt_heap hdl)).trans hdl, (hold _ (lt_heap hfl)).trans hfl, by simp⟩
  have hrec0 : ((w6.alloc (.deferred (some []))).alloc (.loop rec)).heap[w6.heap.size + 1]? = some (.loop rec) := by
    have := World.alloc_heap_new (w6.alloc (.deferred (some []))) (.loop rec); rwa [World.size_alloc] at this
  have hdf0 : ((w6.alloc (.deferred (some []))).alloc (.loop rec)).heap[w6.heap.size]? = some (.deferred (some [])) := (Below.heap_alloc _ _ _ (by simp)).trans (World.alloc_heap_new w6 _)
  refine (rounds1_any p h f d w hp hg hd R hS (w6.heap.size + 1) bp bd bf (w6.heap.size + 2)
    (fun r W => RunG p f d m (w6.heap.size + 1) bm bo w6.heap.size (w6.heap.size + 2) rec r W ∧ Below w.heap.size w W)
    (RunX p f d m (w6.heap.size + 1) bo w6.heap.size (w6.heap.size + 2) rec pend w) ?_ ?_ _ hJ0 ⟨⟨hrec0, ?_, ⟨[], none, 0, (hold _ hbo).trans hol, fun h => absurd h (Nat.lt_irrefl 0)⟩, hdf0, Nat.zero_le _⟩, hbel⟩).mono ?_
  · rintro r W W' ⟨g, hb0⟩ hb
    obtain ⟨Z, A, c, ho, hr⟩ := g.out
    exact ⟨⟨(hb.block _ (lt_heap g.rc)).trans g.rc, (hb.block _ (lt_heap g.many)).trans g.many, ⟨Z, A, c, (hb.block _ (lt_heap ho)).trans ho, fun h => ⟨(hr h).1, (hr h).2.call hb⟩⟩, (hb.block _ (lt_heap g.df)).trans g.df, g.le⟩, since_trans hb0 hb⟩
  · rintro r Z A c W ⟨g, hb0⟩ hJ hR hZ hrR
    obtain ⟨Z0, A0, c0, ho, hr0⟩ := g.out
    refine ⟨_, _, _, _, run_yield g.rc (by rw [hs3]; rfl), ?_⟩
    by_cases hk : (m : Int) - r < 0
    · have hrm : r = m + 1 := by have := g.le; omega
      refine (hstop A Z.length c ((m : Int) - r) W hk (by omega) g.many g.rc).mono ?_
      rintro e W' ⟨rfl, q1, q2, q3⟩
      have hr1 := hr0 (by omega)
      refine .inr ⟨rfl, q1, ⟨Z0, A0, c0, q2.trans ho, ?_, ?_⟩, (q3.rest _ (by omega) (by omega) (by omega)).trans g.df, q3.below hb0 (by omega) h1 h2⟩
      · rw [hr1.1, hrm]; rfl
      · exact hr1.2.keep fun k hk => q3.rest k (by omega) (by omega) (by omega)
    · refine (hgo A Z.length c ((m : Int) - r) (.slice A0 Z0.length c0) W (by omega) (by omega) ⟨_, _, _, rfl⟩ g.many ho g.rc).mono ?_
      rintro e W' ⟨rfl, q1, q2, q3, q4⟩
      have hkeep : ∀ k, w6.heap.size + 2 ≤ k → W'.heap[k]? = W.heap[k]? := fun k hk => q4.rest k (by omega) (by omega) (by omega)
      have l1 := lt_heap hpl
      have l2 := lt_heap hdl
      have l3 := lt_heap hfl
      refine .inl ⟨rfl, ⟨⟨q1, ?_, ⟨Z, A, c, q3, fun _ => ⟨by rw [hZ]; rfl, hR.keep hkeep⟩⟩, (q4.rest _ (by omega) (by omega) (by omega)).trans g.df, by omega⟩, q4.below hb0 (by omega) h1 h2⟩,
        ⟨q4.below hb0 (by omega) h1 h2, (q4.rest _ (by omega) n1 n2).trans hJ.plan, (q4.rest _ (by omega) n3 n4).trans hJ.dst, (q4.rest _ (by omega) n5 n6).trans hJ.fl, by rw [q4.size]; exact hJ.size⟩, hkeep⟩
      rw [q2, show (m : Int) - r - 1 = (m : Int) - ((r + 1 : Nat) : Int) by omega]
  · rw [show (m : Int) - ((0 : Nat) : Int) = m by omega]; exact (hold _ hbm).trans hml
  · rintro e W' ⟨hv, hq⟩
    exact ⟨hv, hq⟩
end Go.Proofs.YtablbagdnmbbfaaGreat

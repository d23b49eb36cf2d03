/- The walk of round.Run: a range over a function. What round.Run answers. -/
import Derived.Test.YtifjppkgbalcpaaGreatRoundV
import Derived.RangeFuncNested
import Derived.RangeFuncBound
import Derived.RangeFuncCalls
import Derived.RangeFuncLeaves
import Derived.Shelf.Abstract
import Derived.Shelf.RegionOpen
import Derived.OwnWalkIn
import Derived.TacticsInMore
import Derived.LoopNIn
import Derived.LoopIn
namespace Go.Proofs.YtifjppkgbalcpaaGreat
set_option linter.unusedSimpArgs false
set_option linter.unusedVariables false
open Go.RowKit

section
attribute [local go_sem] Oper.semAt_some
/-- Routes in rows from block B on. -/
structure RowsAt (W : World) (B : Nat) (Z : List RtZ) (A : Option Addr) (c : Nat) : Prop where
  row : Own W B 36 3 A Z.length c (Z.flatMap rtCells)
  za : c = 0 → A = none
  each : ∀ z ∈ Z, OwnOr W B z.2.1 z.2.2 z.1.path
theorem Own.keepFrom {w w' : World} {B s n c : Nat} {e : TypeId} {A : Option Addr} {xs : List Value} (h : Own w B e s A n c xs) (hk : ∀ k, B ≤ k → w'.heap[k]? = w.heap[k]?) : Own w' B e s A n c xs := by
  obtain ⟨h1, h2, h3, h4, hb, h5⟩ := h
  refine ⟨h1, h2, h3, h4, hb, fun hc => ?_⟩
  obtain ⟨g, off, cur, rfl, hh, r⟩ := h5 hc
  exact ⟨g, off, cur, rfl, (hk g (hb g rfl)).trans hh, r⟩
section
variable {W W' w0 w1 : World} {B : Nat} {Z : List RtZ} {A : Option Addr} {c : Nat}
theorem LW.rows (a : LW w0 W Z A c) : RowsAt W w0.heap.size Z A c := ⟨a.row, a.za, a.each⟩
theorem RowsAt.lw (a : RowsAt W w0.heap.size Z A c) (hb : Below w0.heap.size w0 W) : LW w0 W Z A c := ⟨hb, a.row, a.za, a.each⟩
theorem RowsAt.call (a : RowsAt W B Z A c) (hb : Below W.heap.size W W') : RowsAt W' B Z A c := ⟨a.row.call hb, a.za, fun z hz => (a.each z hz).call hb⟩
theorem RowsAt.more {B' : Nat} (a : RowsAt W B Z A c) (hB : B' ≤ B) : RowsAt W B' Z A c := ⟨a.row.more hB, a.za, fun z hz => (a.each z hz).more hB⟩
theorem RowsAt.rts (a : RowsAt W B Z A c) : RtsR W W.heap.size Z A := ⟨a.row.rd, fun z hz => (a.each z hz).rt _ _⟩
theorem RowsAt.keep (a : RowsAt W B Z A c) (hk : ∀ k, B ≤ k → W'.heap[k]? = W.heap[k]?) : RowsAt W' B Z A c := ⟨a.row.keepFrom hk, a.za, fun z hz => (a.each z hz).imp (fun h => h.keepFrom hk) id⟩
end
/-- What the iterator has captured, and what was there. -/
structure RunJ (w : World) (p : Net) (h : Hd) (f d : Int) (bp bd bf n0 : Nat) (W : World) : Prop where
  below : Below w.heap.size w W
  plan : W.heap[bp]? = some (.cells (netCells p h) 29 (0, 0))
  dst : W.heap[bd]? = some (.cells #[.int .i64 d] 3 (0, 0))
  fl : W.heap[bf]? = some (.cells #[.int .i64 f] 3 (0, 0))
  size : n0 ≤ W.heap.size
section
variable {w W W' : World} {p : Net} {h : Hd} {f d : Int} {bp bd bf n0 : Nat}
theorem RunJ.call (a : RunJ w p h f d bp bd bf n0 W) (hb : Below W.heap.size W W') : RunJ w p h f d bp bd bf n0 W' :=
  ⟨since_trans a.below hb, (hb.block _ (lt_heap a.plan)).trans a.plan, (hb.block _ (lt_heap a.dst)).trans a.dst, (hb.block _ (lt_heap a.fl)).trans a.fl, Nat.le_trans a.size hb.size⟩
theorem RunJ.all (a : RunJ w p h f d bp bd bf n0 W) : (W.cell? ⟨bp, 0, none⟩ = some (.int .i64 p.proto) ∧ W.cell? ⟨bp, 1, none⟩ = some (.int .i64 p.cap) ∧ W.cell? ⟨bp, 2, none⟩ = some (.int .i64 p.k) ∧ W.cell? ⟨bp, 3, none⟩ = some (.slice h.an p.nodes.length h.cn) ∧ W.cell? ⟨bp, 4, none⟩ = some (.slice h.al p.links.length h.cl) ∧ W.cell? ⟨bp, 5, none⟩ = some (.slice h.ad p.dests.length h.cd) ∧ W.cell? ⟨bp, 6, none⟩ = some (.slice h.ac p.checks.length h.cc)) ∧ W.cell? ⟨bd, 0, none⟩ = some (.int .i64 d) ∧ W.cell? ⟨bf, 0, none⟩ = some (.int .i64 f) :=
  ⟨⟨cell_of_row W _ 0 _ _ _ a.plan, cell_of_row W _ 1 _ _ _ a.plan, cell_of_row W _ 2 _ _ _ a.plan, cell_of_row W _ 3 _ _ _ a.plan, cell_of_row W _ 4 _ _ _ a.plan, cell_of_row W _ 5 _ _ _ a.plan, cell_of_row W _ 6 _ _ _ a.plan⟩, cell_of_row W _ 0 _ _ _ a.dst, cell_of_row W _ 0 _ _ _ a.fl⟩
end
/-- Ahead of round r, k rounds from the last one. -/
def RunRel (w : World) (p : Net) (h : Hd) (f d : Int) (bp bd bf n0 R : Nat) (G : Nat → World → Prop) (k : Nat) (s : Value) (W : World) : Prop :=
  ∃ (r : Nat) (Z : List RtZ) (A : Option Addr) (c : Nat), r + k = R ∧ s = .slice A Z.length c ∧ Z.map (·.1) = stL p (runF p f d r) ∧ RowsAt W n0 Z A c ∧ G r W ∧ RunJ w p h f d bp bd bf n0 W

set_option maxRecDepth 100000 in
set_option maxHeartbeats 4000000 in
theorem rounds1_any (p : Net) (h : Hd) (f d : Int) (w : World) (hp : NetR w w.heap.size p h) (hg : Good p) (hd : placeB d p.dests.length = true) (R : Nat) (hS : Stop p f d R) (l bp bd bf n0 : Nat) (G : Nat → World → Prop) (X : World → Prop)
    (hG : ∀ r W W', G r W → Below W.heap.size W W' → G r W')
    (hY : ∀ (r : Nat) (Z : List RtZ) (A : Option Addr) (c : Nat) (W : World), G r W → RunJ w p h f d bp bd bf n0 W → RowsAt W n0 Z A c → Z.map (·.1) = stL p (runF p f d r) → r ≤ R →
      YieldAt Fence.wide 2 Tryz.prog l #[.slice A Z.length c] W fun e W' => (e = .returned (.bool true) ∧ G (r + 1) W' ∧ RunJ w p h f d bp bd bf n0 W' ∧ ∀ k, n0 ≤ k → W'.heap[k]? = W.heap[k]?) ∨ (e = .returned (.bool false) ∧ X W'))
    (W : World) (hJ : RunJ w p h f d bp bd bf n0 W) (h0 : G 0 W) :
    CallsIn Fence.wide 3 Tryz.prog 48 #[.func (.yield l) #[] #[], .pointer (some ⟨bp, 0, none⟩), .pointer (some ⟨bd, 0, none⟩), .pointer (some ⟨bf, 0, none⟩)] W fun e W' => (∃ v, e = .returned v) ∧ (G (R + 1) W' ∨ X W') := by
  have HP := Lib.hid hp
  have HG := Lib.hid hg
  have HD := Lib.hid hd
  have HS := Lib.hid hS
  have HY := Lib.hid hY
  have HGc := Lib.hid hG
  have HJ := Lib.hid hJ
  have H0 := Lib.hid h0
  clear hp hg hd hS hY hG
  obtain ⟨⟨g0, g1, g2, g3, g4, g5, g6⟩, g7, g8⟩ := hJ.all
  clear hJ h0
  refine callsIn_of_wp Tryz.func48 rfl trivial ?_ rfl
  simp only [Tryz.ntmps48, List.size_toArray, List.length_cons, List.length_nil, Nat.reduceAdd, Nat.reduceSub, Array.replicate_succ, Array.replicate_zero, List.push_toArray, List.append_toArray, List.nil_append, List.cons_append]
  gi_wp2_with (refine ⟨trivial, ?_⟩; gi_at_call 19; refine (callsIn_wide.2 (start_any p h d W (HP.out.call HJ.out.below) HG.out HD.out)).mono ?_; rintro e W1 ⟨Z, A, c, rfl, hZ, hL⟩)
  have J1 := Lib.hid (HJ.out.call hL.below)
  have R1 := Lib.hid (show RowsAt W1 n0 Z A c from hL.rows.more HJ.out.size)
  have G1 := Lib.hid (HGc.out 0 _ _ H0.out hL.below)
  have HZ := Lib.hid hZ
  clear g0 g1 g2 g3 g4 g5 g6 g7 g8 hZ hL
  gi_loopw [5] (fun s wr => ∃ k, RunRel w p h f d bp bd bf n0 R G k s wr) (fun s wr => leastOf (fun k => RunRel w p h f d bp bd bf n0 R G k s wr))
  case atStart => exact ⟨R, 0, Z, A, c, by omega, rfl, HZ.out, R1.out, G1.out, J1.out⟩
  case round =>
    obtain ⟨r, Z', A', c', hrk, hs, hZ', hR', hG', hJ'⟩ := (leastOf_spec hrel).1
    have HLE := Lib.hid (leastOf_spec hrel).2
    generalize hkk : leastOf (fun k => RunRel w p h f d bp bd bf n0 R G k u5 wr) = k at *
    have HKK := Lib.hid hkk
    clear hkk hrel
    subst hs
    obtain ⟨fn, tmps, assign, body, hy, hR⟩ := HY.out r Z' A' c' wr hG' hJ' hR' hZ' (by omega)
    have HR := Lib.hid hR
    have HRK := Lib.hid hrk
    have HZ' := Lib.hid hZ'
    have HRW := Lib.hid hR'
    have hZ12 : Z'.length ≤ 12 := by have := congrArg List.length hZ'; rw [List.length_map, stL_len] at this; have := HG.out.n12.2; omega
    clear hR hrk hZ' hR' hG' hJ'
    gi_wp2
    refine HR.out.mono ?_
    rintro e W2 (⟨rfl, hG2, hJ2, hk2⟩ | ⟨rfl, hX⟩)
    · have G2 := Lib.hid hG2
      have J2 := Lib.hid hJ2
      have R2 := Lib.hid (HRW.out.keep hk2)
      obtain ⟨⟨g0, g1, g2, g3, g4, g5, g6⟩, g7, g8⟩ := hJ2.all
      clear hG2 hJ2 hk2 hy
      have NG := Lib.hid HG.out.netG
      gi_wp2_with (refine ⟨trivial, ?_⟩; gi_at_call 18; refine (callsIn_wide.2 (stepR_any p h f d (runF p f d r) Z' A' c' W2 (HP.out.call J2.out.below) HG.out HD.out R2.out.rts HZ'.out (run_fits NG.out r))).mono ?_; rintro e W3 ⟨Y, A3, c3, rfl, hY3, hL3⟩)
      have HY3 := Lib.hid (show Y.map (·.1) = stL p (runF p f d (r + 1)) from hY3)
      have J3 := Lib.hid (J2.out.call hL3.below)
      have R3 := Lib.hid (R2.out.call hL3.below)
      have Y3 := Lib.hid (show RowsAt W3 n0 Y A3 c3 from hL3.rows.more J2.out.size)
      have G3 := Lib.hid (HGc.out _ _ _ G2.out hL3.below)
      have hY12 : Y.length ≤ 12 := by have := congrArg List.length hY3; rw [List.length_map, stL_len] at this; have := HG.out.n12.2; omega
      clear hY3 hL3 g0 g1 g2 g3 g4 g5 g6 g7 g8
      gi_wp2_with (refine ⟨trivial, ?_⟩; gi_at_call 20; refine (callsIn_wide.2 (sameR_any Z' Y A' A3 c' c3 W3 R3.out.rts Y3.out.rts (by omega) (by omega))).mono ?_; rintro e W4 ⟨rfl, hb4⟩; rw [HZ'.out, HY3.out])
      · rename_i hsame
        have hrR : r = R := by
          have h1 := HRK.out
          rcases Nat.lt_or_eq_of_le (show r ≤ R by omega) with h2 | h2
          · exact absurd hsame (HS.out.least r h2)
          · exact h2
        have GF := Lib.hid (HGc.out _ _ _ G3.out hb4)
        rw [hrR] at GF
        clear hsame hrR
        refine bodyPost_ret (results_none rfl _ _ _) rfl ?_
        exact ⟨⟨_, rfl⟩, .inl GF.out⟩
      · rename_i hsame
        have hrR : r ≠ R := fun e => hsame (by rw [e]; exact HS.out.stop)
        have h1 := HRK.out
        have hrel' : RunRel w p h f d bp bd bf n0 R G (k - 1) (.slice A3 Y.length c3) W4 := ⟨r + 1, Y, A3, c3, by omega, rfl, HY3.out, Y3.out.call hb4, HGc.out _ _ _ G3.out hb4, J3.out.call hb4⟩
        refine ⟨⟨_, hrel'⟩, ?_⟩
        have h2 := (leastOf_spec (p := fun k => RunRel w p h f d bp bd bf n0 R G k (.slice A3 Y.length c3) W4) ⟨_, hrel'⟩).2 _ hrel'
        rw [HKK.out]
        omega
    · have HX := Lib.hid hX
      clear hX hy
      gi_wp2
      go_end0
      exact ⟨⟨_, rfl⟩, .inr HX.out⟩

/-- Only the loop's record and two boxes differ. -/
structure Turned (l bm bo : Nat) (W W' : World) : Prop where
  os : W'.os = W.os
  tape : W'.tape = W.tape
  output : W'.output = W.output
  size : W'.heap.size = W.heap.size
  rest : ∀ k, k ≠ l → k ≠ bm → k ≠ bo → W'.heap[k]? = W.heap[k]?
theorem Turned.below {l bm bo : Nat} {W W' : World} {n : Nat} {w : World} (t : Turned l bm bo W W') (hb : Below n w W) (h1 : n ≤ l) (h2 : n ≤ bm) (h3 : n ≤ bo) : Below n w W' :=
  ⟨t.os.trans hb.os, t.tape.trans hb.tape, t.output.trans hb.output, by rw [t.size]; exact hb.size, fun k hk => (t.rest k (by omega) (by omega) (by omega)).trans (hb.block k hk)⟩
/-- Between two rounds: r have gone on. -/
structure RunG (p : Net) (f d : Int) (m : Nat) (l bm bo D n0 : Nat) (rec : Loop) (r : Nat) (W : World) : Prop where
  rc : W.heap[l]? = some (.loop rec)
  many : W.heap[bm]? = some (.cells #[.int .i64 ((m : Int) - r)] 3 (0, 0))
  out : ∃ (Z : List RtZ) (A : Option Addr) (c : Nat), W.heap[bo]? = some (.cells #[.slice A Z.length c] 32 (0, 0)) ∧ (0 < r → Z.map (·.1) = stL p (runF p f d (r - 1)) ∧ RowsAt W n0 Z A c)
  df : W.heap[D]? = some (.deferred (some []))
  le : r ≤ m + 1
/-- A round has left by the break. -/
structure RunX (p : Net) (f d : Int) (m : Nat) (l bo D n0 : Nat) (rec : Loop) (pend : Code) (w : World) (W : World) : Prop where
  rc : W.heap[l]? = some (.loop { rec with state := .done, pending := some pend })
  out : ∃ (Z : List RtZ) (A : Option Addr) (c : Nat), W.heap[bo]? = some (.cells #[.slice A Z.length c] 32 (0, 0)) ∧ Z.map (·.1) = stL p (runF p f d m) ∧ RowsAt W n0 Z A c
  df : W.heap[D]? = some (.deferred (some []))
  below : Below w.heap.size w W
theorem run_core (p : Net) (h : Hd) (f d : Int) (m : Nat) (hm : m ≤ 1000) (w : World) (hp : NetR w w.heap.size p h) (hg : Good p) (hd : placeB d p.dests.length = true) (R : Nat) (hS : Stop p f d R) (rec : Loop) (pend : Code) (hs1 : rec.state = .ready) (hs2 : rec.pending = none) (hs3 : rec.params.size = 1) (w6 : World)
    (bp bd bf bm bo : Nat) (hw6 : Below w.heap.size w w6) (h1 : w.heap.size ≤ bm) (h2 : w.heap.size ≤ bo) (hbm : bm < w6.heap.size) (hbo : bo < w6.heap.size)
    (hpl : w6.heap[bp]? = some (.cells (netCells p h) 29 (0, 0))) (hdl : w6.heap[bd]? = some (.cells #[.int .i64 d] 3 (0, 0))) (hfl : w6.heap[bf]? = some (.cells #[.int .i64 f] 3 (0, 0)))
    (hml : w6.heap[bm]? = some (.cells #[.int .i64 (m : Int)] 3 (0, 0))) (hol : w6.heap[bo]? = some (.cells #[.slice none 0 0] 32 (0, 0)))
    (hne : bp ≠ bm ∧ bp ≠ bo ∧ bd ≠ bm ∧ bd ≠ bo ∧ bf ≠ bm ∧ bf ≠ bo ∧ bm ≠ bo)
    (hgo : ∀ (A' : Option Addr) (n' c' : Nat) (k : Int) (o : Value) (W : World), 0 ≤ k → k ≤ 1000 → (∃ A n c, o = .slice A n c) → W.heap[bm]? = some (.cells #[.int .i64 k] 3 (0, 0)) → W.heap[bo]? = some (.cells #[o] 32 (0, 0)) → W.heap[w6.heap.size + 1]? = some (.loop rec) →
      RoundIn Fence.wide 2 Tryz.prog (w6.heap.size + 1) rec.fn ((rec.params.zip #[.slice A' n' c']).foldl (fun tmps (t, a) => tmps.setIfInBounds t a) rec.tmps) rec.assign rec.body W fun e W' => e = .returned (.bool true) ∧ W'.heap[w6.heap.size + 1]? = some (.loop rec) ∧ W'.heap[bm]? = some (.cells #[.int .i64 (k - 1)] 3 (0, 0)) ∧ W'.heap[bo]? = some (.cells #[.slice A' n' c'] 32 (0, 0)) ∧ Turned (w6.heap.size + 1) bm bo W W')
    (hstop : ∀ (A' : Option Addr) (n' c' : Nat) (k : Int) (W : World), k < 0 → -10 ≤ k → W.heap[bm]? = some (.cells #[.int .i64 k] 3 (0, 0)) → W.heap[w6.heap.size + 1]? = some (.loop rec) →
      RoundIn Fence.wide 2 Tryz.prog (w6.heap.size + 1) rec.fn ((rec.params.zip #[.slice A' n' c']).foldl (fun tmps (t, a) => tmps.setIfInBounds t a) rec.tmps) rec.assign rec.body W fun e W' => e = .returned (.bool false) ∧ W'.heap[w6.heap.size + 1]? = some (.loop { rec with state := .done, pending := some pend }) ∧ W'.heap[bo]? = W.heap[bo]? ∧ Turned (w6.heap.size + 1) bm bo W W') :
    CallsIn Fence.wide 3 Tryz.prog 48 #[.func (.yield (w6.heap.size + 1)) #[] #[], .pointer (some ⟨bp, 0, none⟩), .pointer (some ⟨bd, 0, none⟩), .pointer (some ⟨bf, 0, none⟩)] ((w6.alloc (.deferred (some []))).alloc (.loop rec))
      fun e W' => (∃ v, e = .returned v) ∧ ((RunG p f d m (w6.heap.size + 1) bm bo w6.heap.size (w6.heap.size + 2) rec (R + 1) W' ∧ Below w.heap.size w W') ∨ RunX p f d m (w6.heap.size + 1) bo w6.heap.size (w6.heap.size + 2) rec pend w W') := by
  obtain ⟨n1, n2, n3, n4, n5, n6, n7⟩ := hne
  have hbw := hw6.size
  have hold : ∀ k, k < w6.heap.size → ((w6.alloc (.deferred (some []))).alloc (.loop rec)).heap[k]? = w6.heap[k]? := fun k hk => (Below.heap_alloc _ _ k (by simp; omega)).trans (Below.heap_alloc _ _ k hk)
  have hbel : Below w.heap.size w ((w6.alloc (.deferred (some []))).alloc (.loop rec)) := (hw6.alloc hbw _).alloc (by simp; omega) _
  have hJ0 : RunJ w p h f d bp bd bf (w6.heap.size + 2) ((w6.alloc (.deferred (some []))).alloc (.loop rec)) :=
    ⟨hbel, (hold _ (lt_heap hpl)).trans hpl, (hold _ (lt_heap hdl)).trans hdl, (hold _ (lt_heap hfl)).trans hfl, by simp⟩
  have hrec0 : ((w6.alloc (.deferred (some []))).alloc (.loop rec)).heap[w6.heap.size + 1]? = some (.loop rec) := by
    have := World.alloc_heap_new (w6.alloc (.deferred (some []))) (.loop rec); rwa [World.size_alloc] at this
  have hdf0 : ((w6.alloc (.deferred (some []))).alloc (.loop rec)).heap[w6.heap.size]? = some (.deferred (some [])) := (Below.heap_alloc _ _ _ (by simp)).trans (World.alloc_heap_new w6 _)
  refine (rounds1_any p h f d w hp hg hd R hS (w6.heap.size + 1) bp bd bf (w6.heap.size + 2)
    (fun r W => RunG p f d m (w6.heap.size + 1) bm bo w6.heap.size (w6.heap.size + 2) rec r W ∧ Below w.heap.size w W)
    (RunX p f d m (w6.heap.size + 1) bo w6.heap.size (w6.heap.size + 2) rec pend w) ?_ ?_ _ hJ0 ⟨⟨hrec0, ?_, ⟨[], none, 0, (hold _ hbo).trans hol, fun h => absurd h (Nat.lt_irrefl 0)⟩, hdf0, Nat.zero_le _⟩, hbel⟩).mono ?_
  · rintro r W W' ⟨g, hb0⟩ hb
    obtain ⟨Z, A, c, ho, hr⟩ := g.out
    exact ⟨⟨(hb.block _ (lt_heap g.rc)).trans g.rc, (hb.block _ (lt_heap g.many)).trans g.many, ⟨Z, A, c, (hb.block _ (lt_heap ho)).trans ho, fun h => ⟨(hr h).1, (hr h).2.call hb⟩⟩, (hb.block _ (lt_heap g.df)).trans g.df, g.le⟩, since_trans hb0 hb⟩
  · rintro r Z A c W ⟨g, hb0⟩ hJ hR hZ hrR
    obtain ⟨Z0, A0, c0, ho, hr0⟩ := g.out
    refine ⟨_, _, _, _, run_yield g.rc (by rw [hs3]; rfl), ?_⟩
    by_cases hk : (m : Int) - r < 0
    · have hrm : r = m + 1 := by have := g.le; omega
      refine (hstop A Z.length c ((m : Int) - r) W hk (by omega) g.many g.rc).mono ?_
      rintro e W' ⟨rfl, q1, q2, q3⟩
      have hr1 := hr0 (by omega)
      refine .inr ⟨rfl, q1, ⟨Z0, A0, c0, q2.trans ho, ?_, ?_⟩, (q3.rest _ (by omega) (by omega) (by omega)).trans g.df, q3.below hb0 (by omega) h1 h2⟩
      · rw [hr1.1, hrm]; rfl
      · exact hr1.2.keep fun k hk => q3.rest k (by omega) (by omega) (by omega)
    · refine (hgo A Z.length c ((m : Int) - r) (.slice A0 Z0.length c0) W (by omega) (by omega) ⟨_, _, _, rfl⟩ g.many ho g.rc).mono ?_
      rintro e W' ⟨rfl, q1, q2, q3, q4⟩
      have hkeep : ∀ k, w6.heap.size + 2 ≤ k → W'.heap[k]? = W.heap[k]? := fun k hk => q4.rest k (by omega) (by omega) (by omega)
      have l1 := lt_heap hpl
      have l2 := lt_heap hdl
      have l3 := lt_heap hfl
      refine .inl ⟨rfl, ⟨⟨q1, ?_, ⟨Z, A, c, q3, fun _ => ⟨by rw [hZ]; rfl, hR.keep hkeep⟩⟩, (q4.rest _ (by omega) (by omega) (by omega)).trans g.df, by omega⟩, q4.below hb0 (by omega) h1 h2⟩,
        ⟨q4.below hb0 (by omega) h1 h2, (q4.rest _ (by omega) n1 n2).trans hJ.plan, (q4.rest _ (by omega) n3 n4).trans hJ.dst, (q4.rest _ (by omega) n5 n6).trans hJ.fl, by rw [q4.size]; exact hJ.size⟩, hkeep⟩
      rw [q2, show (m : Int) - r - 1 = (m : Int) - ((r + 1 : Nat) : Int) by omega]
  · rw [show (m : Int) - ((0 : Nat) : Int) = m by omega]; exact (hold _ hbm).trans hml
  · rintro e W' ⟨hv, hq⟩
    exact ⟨hv, hq⟩
end

section
attribute [local go_sem] Oper.semAt_some
theorem rounds_any (p : Net) (h : Hd) (f d : Int) (w : World) :
    Calls Tryz.prog 29 #[netV p h, .int .i64 f, .int .i64 d] w fun e w' => e = .returned (.func (.func 48) #[] #[.pointer (some ⟨w.heap.size, 0, none⟩), .pointer (some ⟨w.heap.size + 1 + 1, 0, none⟩), .pointer (some ⟨w.heap.size + 1, 0, none⟩)]) ∧ w' = ((w.alloc (.cells #[.int .i64 p.proto, .int .i64 p.cap, .int .i64 p.k, .slice h.an p.nodes.length h.cn, .slice h.al p.links.length h.cl, .slice h.ad p.dests.length h.cd, .slice h.ac p.checks.length h.cc] 29)).alloc (.cells #[.int .i64 f] 3)).alloc (.cells #[.int .i64 d] 3) := by
  unfold netV netVal
  go_enter Tryz.func29, Tryz.ntmps29
  go_wp2
  go_ret
  exact ⟨by rfl, by rfl⟩
theorem Turned.refl (l bm bo : Nat) (W : World) : Turned l bm bo W W := ⟨rfl, rfl, rfl, rfl, fun _ _ _ _ => rfl⟩
theorem Turned.trans {l bm bo : Nat} {W W1 W2 : World} (a : Turned l bm bo W W1) (b : Turned l bm bo W1 W2) : Turned l bm bo W W2 :=
  ⟨b.os.trans a.os, b.tape.trans a.tape, b.output.trans a.output, b.size.trans a.size, fun k h1 h2 h3 => (b.rest k h1 h2 h3).trans (a.rest k h1 h2 h3)⟩
theorem Turned.put {l bm bo : Nat} (W : World) (o : Obj) : Turned l bm bo W (W.putObj l o) :=
  ⟨rfl, rfl, rfl, by simp [World.putObj], fun k h1 _ _ => World.putObj_heap_other h1⟩
theorem Turned.set {l bm bo : Nat} (W : World) (q : Addr) (hq : q.block = bm ∨ q.block = bo) (v : Value) : Turned l bm bo W (W.setCell q v) :=
  ⟨rfl, rfl, rfl, by simp [World.setCell], fun k _ h2 h3 => Below.heap_setCell _ _ _ _ (by rcases hq with e | e <;> omega)⟩
theorem begin_round {P : Program} {l bm bo : Nat} {r : Loop} {W : World} (h : W.heap[l]? = some (.loop r)) (hr : r.state = .ready) :
    ∃ W2, Sem.run P (Instr.beginRound l) W = .ok () W2 ∧ W2.heap[l]? = some (.loop { r with state := .busy }) ∧ (∀ k, k ≠ l → W2.heap[k]? = W.heap[k]?) ∧ Turned l bm bo W W2 :=
  ⟨_, run_beginRound h hr, World.putObj_heap_same (Array.getElem?_eq_some_iff.1 h).1, fun _ hk => World.putObj_heap_other hk, Turned.put _ _⟩
theorem end_round {P : Program} {l bm bo : Nat} {r : Loop} {W : World} (jump : Option Code) (h : W.heap[l]? = some (.loop r)) :
    ∃ W2, Sem.run P (Instr.endRound l jump) W = .ok (.bool jump.isNone) W2 ∧ W2.heap[l]? = some (.loop { r with state := if jump.isNone then .ready else .done, pending := jump }) ∧ (∀ k, k ≠ l → W2.heap[k]? = W.heap[k]?) ∧ Turned l bm bo W W2 :=
  ⟨_, run_endRound jump h, World.putObj_heap_same (Array.getElem?_eq_some_iff.1 h).1, fun _ hk => World.putObj_heap_other hk, Turned.put _ _⟩
theorem go_round_end {P : Program} {l bm bo : Nat} {r : Loop} {W W2 : World} {k x0 y0 x : Value} (h00 : W.heap[l]? = some (.loop r)) (hrc2 : W2.heap[l]? = some (.loop { r with state := .busy })) (hr : r.state = .ready) (hp : r.pending = none) (hbm : W2.heap[bm]? = some (.cells #[x0] 3 (0, 0))) (hbo : W2.heap[bo]? = some (.cells #[y0] 32 (0, 0)))
    (ht : Turned l bm bo W W2) (n1 : l ≠ bm) (n2 : l ≠ bo) (n3 : bm ≠ bo) :
    ∃ W4, Sem.run P (Instr.endRound l none) ((W2.setCell ⟨bo, 0, none⟩ x).setCell ⟨bm, 0, none⟩ k) = .ok (.bool true) W4 ∧ W4.heap[l]? = some (.loop r) ∧ W4.heap[bm]? = some (.cells #[k] 3 (0, 0)) ∧ W4.heap[bo]? = some (.cells #[x] 32 (0, 0)) ∧ Turned l bm bo W W4 := by
  have h1 : ((W2.setCell ⟨bo, 0, none⟩ x).setCell ⟨bm, 0, none⟩ k).heap[l]? = some (.loop { r with state := .busy }) := by
    rw [Below.heap_setCell _ _ _ _ n1, Below.heap_setCell _ _ _ _ n2]; exact hrc2
  obtain ⟨W4, e1, e2, e3, e4⟩ := end_round (P := P) (bm := bm) (bo := bo) none h1
  refine ⟨W4, e1, ?_, ?_, ?_, (ht.trans ((Turned.set _ ⟨bo, 0, none⟩ (.inr rfl) _).trans (Turned.set _ ⟨bm, 0, none⟩ (.inl rfl) _))).trans e4⟩
  · rw [e2]
    cases r
    simp at hr hp
    subst hr hp
    rfl
  · rw [e3 _ (Ne.symm n1)]
    have := heap_setCell_same (W2.setCell ⟨bo, 0, none⟩ x) bm 0 #[x0] _ k ((Below.heap_setCell _ _ _ _ n3).trans hbm)
    exact this
  · rw [e3 _ (Ne.symm n2), Below.heap_setCell _ _ _ _ (Ne.symm n3)]
    exact heap_setCell_same W2 bo 0 #[y0] _ x hbo
theorem stop_round_end {P : Program} {l bm bo : Nat} {r : Loop} {W W2 : World} (pend : Code) (h00 : W.heap[l]? = some (.loop r)) (hrc2 : W2.heap[l]? = some (.loop { r with state := .busy })) (ht : Turned l bm bo W W2) (n2 : l ≠ bo) :
    ∃ W4, Sem.run P (Instr.endRound l (some pend)) W2 = .ok (.bool false) W4 ∧ W4.heap[l]? = some (.loop { r with state := .done, pending := some pend }) ∧ W4.heap[bo]? = W2.heap[bo]? ∧ Turned l bm bo W W4 := by
  obtain ⟨W4, e1, e2, e3, e4⟩ := end_round (P := P) (bm := bm) (bo := bo) (some pend) hrc2
  exact ⟨W4, e1, e2, e3 _ (Ne.symm n2), ht.trans e4⟩
theorem end_loop {P : Program} {l : Nat} {r : Loop} {W : World} (h : W.heap[l]? = some (.loop r)) (hb : r.state ≠ .busy) :
    ∃ W2, Sem.run P (Instr.endLoop l) W = .ok r.pending W2 ∧ (∀ k, k ≠ l → W2.heap[k]? = W.heap[k]?) ∧ Turned l l l W W2 :=
  ⟨_, run_endLoop h hb, fun _ hk => World.putObj_heap_other hk, Turned.put _ _⟩
/-- What is handed back, behind the loop. -/
theorem runX_end {w w6 W' W4 : World} {L : List Rt} {Z : List RtZ} {A : Option Addr} {c bo : Nat} (h6 : w.heap.size + 6 = w6.heap.size) (hbo : bo < w6.heap.size) (ho : W'.heap[bo]? = some (.cells #[.slice A Z.length c] 32 (0, 0))) (hZ : Z.map (·.1) = L) (hR : RowsAt W' (w6.heap.size + 2) Z A c)
    (hb : Below w.heap.size w W') (ht : Turned (w6.heap.size + 1) (w6.heap.size + 1) (w6.heap.size + 1) W' W4) (hd : W'.heap[w6.heap.size]? = some (.deferred (some []))) :
    W4.cell? ⟨bo, 0, none⟩ = some (.slice A Z.length c) ∧ W4.heap[w6.heap.size]? = some (.deferred (some [])) ∧ (W4.putObj w6.heap.size (.deferred none)).cell? ⟨bo, 0, none⟩ = some (.slice A Z.length c) ∧ StsPost w L (.returned (.slice A Z.length c)) (W4.putObj w6.heap.size (.deferred none)) := by
  have h1 : W4.heap[bo]? = some (.cells #[.slice A Z.length c] 32 (0, 0)) := (ht.rest _ (by omega) (by omega) (by omega)).trans ho
  have h2 : (W4.putObj w6.heap.size (.deferred none)).heap[bo]? = some (.cells #[.slice A Z.length c] 32 (0, 0)) := (World.putObj_heap_other (by omega)).trans h1
  have ht2 : Turned w6.heap.size w6.heap.size w6.heap.size W4 (W4.putObj w6.heap.size (.deferred none)) := Turned.put _ _
  refine ⟨cell_of_row _ _ 0 _ _ _ h1, (ht.rest _ (by omega) (by omega) (by omega)).trans hd, cell_of_row _ _ 0 _ _ _ h2, Z, A, c, rfl, hZ, ?_⟩
  refine RowsAt.lw (RowsAt.more (B := w6.heap.size + 2) ?_ (by omega)) (ht2.below (ht.below hb (by omega) (by omega) (by omega)) (by omega) (by omega) (by omega))
  exact hR.keep fun k hk => (ht2.rest k (by omega) (by omega) (by omega)).trans (ht.rest k (by omega) (by omega) (by omega))
/-- A range over a closure, at an activation of its own. -/
theorem wpIn_range_clo {n : Nat} {P : Program} {g : Operand} {ps : Array Tmp} {assign body : Code} {Q : Exit → Act → World → Prop} {a : Act} {w : World} {k : FuncId} {caps : Array Value}  (hg : a.eval g = .func (.func k) #[] caps)
    (hinv : ∀ (W : World) (args : Array Value), Sem.run P (callFunc k args) W = Result.ok (Next.enter k args) W)
    (h : ∀ fn, CallsIn Fence.wide (n - 1) P k (#[.func (.yield (w.heap.size + 1)) #[] #[]] ++ caps) ((w.alloc (.deferred (some []))).alloc (.loop { state := .ready, pending := none, fn, tmps := a.tmps, params := ps, assign, body, defers := w.heap.size })) (rangePost Fence.wide n P (w.heap.size + 1) Q { a with defers := [{ target := .collected w.heap.size, args := #[] }] ++ a.defers })) :
    (Code.rangeFunc g ps assign body).wpIn Fence.wide n P Q a w := by
  refine wpIn_rangeFunc ?_
  intro fn hfn
  rw [show Fence.wide.round = none from rfl]
  refine ⟨w.heap.size + 1, [{ target := .collected w.heap.size, args := #[] }], (w.alloc (.deferred (some []))).alloc (.loop { state := .ready, pending := none, fn, tmps := a.tmps, params := ps, assign, body, defers := w.heap.size }), { target := .fn (.func k) caps, args := #[.func (.yield (w.heap.size + 1)) #[] #[]] }, (w.alloc (.deferred (some []))).alloc (.loop { state := .ready, pending := none, fn, tmps := a.tmps, params := ps, assign, body, defers := w.heap.size }), k,
    #[.func (.yield (w.heap.size + 1)) #[] #[]] ++ caps, (w.alloc (.deferred (some []))).alloc (.loop { state := .ready, pending := none, fn, tmps := a.tmps, params := ps, assign, body, defers := w.heap.size }), run_enterLoop_outer _ _ _ _ _, ?_, ?_, ?_, ?_, ?_⟩
  · simp only [resolve, hg]; simp [go_sem]
  · intro _ _; trivial
  · simp only [invoke]; exact hinv _ _
  · intro hx; exact absurd hx (by decide)
  · have h2 := h fn
    with_reducible exact h2
set_option maxRecDepth 100000 in
set_option maxHeartbeats 4000000 in
theorem runX_any (p : Net) (h : Hd) (f d : Int) (m : Nat) (hm : m ≤ 1000) (w : World) (hp : NetR w w.heap.size p h) (hg : Good p) (hd : placeB d p.dests.length = true) :
    Calls Tryz.prog 12 #[netV p h, .int .i64 f, .int .i64 d, .int .i64 (m : Int)] w (StsPost w (stL p (runF p f d m))) := by
  obtain ⟨R, hR, hS⟩ := stop_ex (p := p) (f := f) (d := d) hg.netG
  have HP := Lib.hid hp
  have HG := Lib.hid hg
  have HD := Lib.hid hd
  have HS := Lib.hid hS
  clear hp hg hd hS
  unfold netV netVal
  refine (callsIn_wide (n := 4)).1 ?_
  refine callsIn_of_wp_marks Tryz.func12 rfl trivial ?_ rfl
  simp only [Tryz.ntmps12, List.size_toArray, List.length_cons, List.length_nil, Nat.reduceAdd, Nat.reduceSub, Array.replicate_succ, Array.replicate_zero, List.push_toArray, List.append_toArray, List.nil_append, List.cons_append]
  gi_wp2_with (refine ⟨trivial, ?_⟩; gi_at_call 29; refine (callsIn_wide.2 (rounds_any p h f d _)).mono ?_; rintro e w6 ⟨rfl, rfl⟩)
  generalize hw6 : ((((((w.alloc (.cells #[.int .i64 p.proto, .int .i64 p.cap, .int .i64 p.k, .slice h.an p.nodes.length h.cn, .slice h.al p.links.length h.cl, .slice h.ad p.dests.length h.cd, .slice h.ac p.checks.length h.cc] 29)).alloc (.cells #[.int .i64 (m : Int)] 3)).alloc (.cells #[.slice none 0 0] 32)).alloc (.cells #[.int .i64 p.proto, .int .i64 p.cap, .int .i64 p.k, .slice h.an p.nodes.length h.cn, .slice h.al p.links.length h.cl, .slice h.ad p.dests.length h.cd, .slice h.ac p.checks.length h.cc] 29)).alloc (.cells #[.int .i64 f] 3)).alloc (.cells #[.int .i64 d] 3)) = w6
  have hB6 : Bl w w6 [.cells (netCells p h) 29, .cells #[.int .i64 (m : Int)] 3, .cells #[.slice none 0 0] 32, .cells (netCells p h) 29, .cells #[.int .i64 f] 3, .cells #[.int .i64 d] 3] := by
    subst hw6
    exact ((((((Bl.begin w).push (by simp) _).push (by simp) _).push (by simp) _).push (by simp) _).push (by simp) _).push (by simp) _
  have hs6 : w6.heap.size = w.heap.size + 6 := by subst hw6; simp
  have B6 := Lib.hid hB6
  try simp only [World.size_alloc]
  have HS6 := Lib.hid hs6
  clear hB6 hw6 hs6
  refine wpIn_range_clo (k := 48) (caps := #[.pointer (some ⟨w.heap.size + 1 + 1 + 1, 0, none⟩), .pointer (some ⟨w.heap.size + 1 + 1 + 1 + 1 + 1, 0, none⟩), .pointer (some ⟨w.heap.size + 1 + 1 + 1 + 1, 0, none⟩)]) (by rfl) (by
    intro W args
    have e1 : ¬ (Tryz.f48.name = "runtime.NumGoroutine") := by decide +kernel
    have e2 : ¬ (Tryz.f48.body = none) := fun e => by cases e
    simp [callFunc, go_sem, e1, e2]) fun fn => ?_
  refine (run_core p h f d m hm w HP.out HG.out HD.out R HS.out _ (.exit 0) rfl rfl rfl w6 (w.heap.size + 1 + 1 + 1) (w.heap.size + 1 + 1 + 1 + 1 + 1) (w.heap.size + 1 + 1 + 1 + 1) (w.heap.size + 1) (w.heap.size + 1 + 1) B6.out.below (by omega) (by omega) (by have := HS6.out; omega) (by have := HS6.out; omega) (B6.out.at_ 3 _ rfl) (B6.out.at_ 5 _ rfl) (B6.out.at_ 4 _ rfl) (B6.out.at_ 1 _ rfl) (B6.out.at_ 2 _ rfl) (by omega) ?hgo ?hstop).mono ?fin
  case hgo =>
    intro A' n' c' k o W hk0 hk1 ho hbm hbo hrc
    obtain ⟨A0, n0, c0, rfl⟩ := ho
    obtain ⟨W2, hbr, hrc2, hot2, ht2⟩ := begin_round (P := Tryz.prog) (bm := w.heap.size + 1) (bo := w.heap.size + 1 + 1) hrc rfl
    have hbm2 := (hot2 (w.heap.size + 1) (by have := HS6.out; omega)).trans hbm
    have hbo2 := (hot2 (w.heap.size + 1 + 1) (by have := HS6.out; omega)).trans hbo
    have cm := cell_of_row W2 _ 0 _ _ _ hbm2
    have fm := frozen_of_row W2 _ 0 _ _ hbm2
    have co := cell_of_row W2 _ 0 _ _ _ hbo2
    have fo := frozen_of_row W2 _ 0 _ _ hbo2
    have hwr : wrap64 (k - 1) = k - 1 := by unfold wrap64; omega
    have HRC := Lib.hid hrc2
    have HR0 := Lib.hid hrc
    have HOT := Lib.hid hot2
    have HT := Lib.hid ht2
    have HBM := Lib.hid hbm2
    have HBO := Lib.hid hbo2
    clear hrc2 hot2 ht2 hbm2 hbo2 hbm hbo hrc
    refine roundIn_of_wpIn trivial ?_
    dsimp only
    simp only [List.zip_toArray, List.zip_cons_cons, List.zip_nil_left, List.zip_nil_right, List.foldl_toArray, List.foldl_toArray', List.foldl_cons, List.foldl_nil, List.setIfInBounds_toArray, List.set_cons_succ, List.set_cons_zero, List.size_toArray, List.length_cons, List.length_nil]
    gi_wp2
    have HS6o := HS6.out
    obtain ⟨W4, e1, e2, e3, e4, e5⟩ := go_round_end (P := Tryz.prog) (x := .slice A' n' c') (k := .int .i64 (k - 1)) HR0.out HRC.out rfl rfl HBM.out HBO.out HT.out (by omega) (by omega) (by omega)
    exact ⟨_, W4, e1, rfl, e2, e3, e4, e5⟩
  case hstop =>
    intro A' n' c' k W hk0 hk1 hbm hrc
    obtain ⟨W2, hbr, hrc2, hot2, ht2⟩ := begin_round (P := Tryz.prog) (bm := w.heap.size + 1) (bo := w.heap.size + 1 + 1) hrc rfl
    have hbm2 := (hot2 (w.heap.size + 1) (by have := HS6.out; omega)).trans hbm
    have cm := cell_of_row W2 _ 0 _ _ _ hbm2
    have hbo2 := hot2 (w.heap.size + 1 + 1) (by have := HS6.out; omega)
    have HRC := Lib.hid hrc2
    have HR0 := Lib.hid hrc
    have HT := Lib.hid ht2
    have HBO := Lib.hid hbo2
    clear hrc2 hot2 ht2 hbm2 hbm hrc hbo2
    refine roundIn_of_wpIn trivial ?_
    dsimp only
    simp only [List.zip_toArray, List.zip_cons_cons, List.zip_nil_left, List.zip_nil_right, List.foldl_toArray, List.foldl_toArray', List.foldl_cons, List.foldl_nil, List.setIfInBounds_toArray, List.set_cons_succ, List.set_cons_zero, List.size_toArray, List.length_cons, List.length_nil]
    gi_wp2
    have HS6o := HS6.out
    obtain ⟨W4, e1, e2, e3, e4⟩ := stop_round_end (P := Tryz.prog) (.exit 0) HR0.out HRC.out HT.out (by omega)
    exact ⟨_, W4, e1, rfl, e2, e3.trans HBO.out, e4⟩
  case fin =>
    rintro e W' ⟨⟨v, rfl⟩, (⟨g, hb⟩ | x)⟩
    · obtain ⟨W4, e1, e2, e3⟩ := end_loop (P := Tryz.prog) g.rc (by simp)
      obtain ⟨Z, A, c, ho, hr⟩ := g.out
      obtain ⟨hZ, hR⟩ := hr (by omega)
      have hRm : R ≤ m := by have := g.le; omega
      have hZm : Z.map (·.1) = stL p (runF p f d m) := by
        rw [hZ, Nat.add_sub_cancel]
        have := stop_stays HG.out.lksOk HS.out.stop (m - R)
        rw [← this, show R + (m - R) = m by omega]
      obtain ⟨q1, q2, q3, q4⟩ := runX_end HS6.out.symm (by have := HS6.out; omega) ho hZm hR hb e3 g.df
      have HF := Lib.hid q4
      have HDF := Lib.hid q2
      clear ho hr hZ hR hRm hZm e2 e3 g hb q4 q2
      refine ⟨none, W4, e1, ?_⟩
      dsimp only
      gi_wp2
      refine ⟨by simp, .inl ⟨_, _, rfl, run_takeDeferred HDF.out, ?_⟩⟩
      exact ⟨.slice A Z.length c, by simp [results, Tryz.results12, go_sem, q3], HF.out⟩
    · obtain ⟨W4, e1, e2, e3⟩ := end_loop (P := Tryz.prog) x.rc (by simp)
      obtain ⟨Z, A, c, ho, hZ, hR⟩ := x.out
      obtain ⟨q1, q2, q3, q4⟩ := runX_end HS6.out.symm (by have := HS6.out; omega) ho hZ hR x.below e3 x.df
      have HF := Lib.hid q4
      have HDF := Lib.hid q2
      clear ho hZ hR e2 e3 x q4 q2
      refine ⟨some (.exit 0), W4, e1, ?_⟩
      dsimp only
      gi_wp2
      refine ⟨by simp, .inl ⟨_, _, rfl, run_takeDeferred HDF.out, ?_⟩⟩
      exact ⟨.slice A Z.length c, by simp [results, Tryz.results12, go_sem, q3], HF.out⟩
end
end Go.Proofs.YtifjppkgbalcpaaGreat

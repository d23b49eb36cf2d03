/- The walks of stable.Is, Enough and Solve, at a network that may be. -/
import Derived.Test.YtakolnmoieiicaaGreatRoundV
import Derived.WalkMore
namespace Go.Proofs.YtakolnmoieiicaaGreat
set_option linter.unusedSimpArgs false
set_option linter.unusedVariables false
open Go.RowKit

theorem enoughN_any (p : Net) (h : Hd) (w : World) (hp : NetR w w.heap.size p h) (hg : Good p) :
    Calls Tryz.prog 7 #[netV p h] w fun e w' => e = .returned (.int .i64 ((p.nodes.length : Int) + 1)) ∧ Below w.heap.size w w' := by
  have HA := Lib.hid (AtRight.begin hp)
  have HG := Lib.hid hg
  have hn12 := hg.n12
  clear hp hg
  unfold netV netVal
  go_enter Tryz.func7, Tryz.ntmps7
  go_wp2_with fail
  refine (right_any p h _ HA.out.net HG.out.small HG.out.names).mono ?_
  rintro e w1 ⟨rfl, hb1⟩
  rw [HG.out.right]
  have HA1 := Lib.hid (HA.out.call hb1)
  obtain ⟨c0, c1, c2, c3, c4, c5, c6⟩ := HA1.out.all
  clear hb1
  go_wp2
  go_ret
  exact ⟨ret_int (by first | rfl | omega), HA1.out.below⟩

theorem isX_any (p : Net) (h : Hd) (f d : Int) (l : St) (Z : List RtZ) (A : Option Addr) (c : Nat) (w : World) (hp : NetR w w.heap.size p h) (hg : Good p) (hd : placeB d p.dests.length = true) (hl : RtsR w w.heap.size Z A) (hZ : Z.map (·.1) = stL p l) (hf : FitsF p l) :
    Calls Tryz.prog 14 #[netV p h, .int .i64 f, .int .i64 d, .slice A Z.length c] w fun e w' => e = .returned (.bool (decide (stL p l = stL p (stepF p f d l)))) ∧ Below w.heap.size w w' := by
  have HA := Lib.hid (AtRight.begin hp)
  have HG := Lib.hid hg
  have HD := Lib.hid hd
  have HL := Lib.hid ((hl.alloc (Nat.le_refl _) (.cells (netCells p h) 30)).more (B' := (w.alloc (.cells (netCells p h) 30)).heap.size) (by rw [World.size_alloc]; exact Nat.le_succ _))
  have HZ := Lib.hid hZ
  have HF := Lib.hid hf
  have hn12 := hg.n12
  have HZl : Hid (Z.length = p.nodes.length) := Lib.hid (by have := congrArg List.length hZ; rw [List.length_map, stL_len] at this; exact this)
  have hZ12 : Z.length ≤ 12 := by have := HZl.out; omega
  clear hp hg hd hl hZ hf
  unfold netV netVal
  go_enter Tryz.func14, Tryz.ntmps14
  go_wp2_with fail
  refine (stepR_any p h f d l Z A c _ HA.out.net HG.out HD.out HL.out HZ.out HF.out).mono ?_
  rintro e w1 ⟨Y, A1, c1, rfl, hY, hLW⟩
  have HA1 := Lib.hid (HA.out.call hLW.below)
  have HY := Lib.hid hY
  have LY := Lib.hid hLW
  have L1 := Lib.hid (HL.out.call hLW.below)
  have hY12 : 0 < Y.length ∧ Y.length ≤ 12 := by have := congrArg List.length hY; rw [List.length_map, stL_len] at this; omega
  have hY0 : (0 : Int) < (Y.length : Int) := by omega
  clear hY hLW
  go_wp2_with fail
  refine (sameR_any Z Y A A1 c c1 _ L1.out LY.out.rts (by omega) (by omega)).mono ?_
  rintro e w2 ⟨rfl, hb2⟩
  rw [HZ.out, HY.out]
  have HA2 := Lib.hid (HA1.out.call hb2)
  clear hb2
  go_wp2
  go_ret
  exact ⟨rfl, HA2.out.below⟩

/-- What Solve answers: R rounds are the least behind which a round changes nothing. -/
def SolvePost (p : Net) (f d : Int) (b : Int) (R : Nat) (w : World) (e : Ending) (w' : World) : Prop :=
  ((R : Int) + 1 ≤ b ∧ ∃ (Z : List RtZ) (A : Option Addr) (c : Nat), e = .returned (.tuple #[.slice A Z.length c, .int .i64 R, .int .i64 0]) ∧ Z.map (·.1) = stL p (runF p f d R) ∧ LW w w' Z A c) ∨
  (b < (R : Int) + 1 ∧ e = .returned (.tuple #[.slice none 0 0, .int .i64 0, .int .i64 70]) ∧ Below w.heap.size w w')
set_option maxHeartbeats 4000000 in
theorem solve_any (p : Net) (h : Hd) (f d b : Int) (R : Nat) (w : World) (hp : NetR w w.heap.size p h) (hg : Good p) (hd : placeB d p.dests.length = true) (hS : Stop p f d R) (hR : R ≤ p.nodes.length) :
    Calls Tryz.prog 10 #[netV p h, .int .i64 f, .int .i64 d, .int .i64 b] w (SolvePost p f d b R w) := by
  have HA := Lib.hid (AtRight.begin hp)
  have HG := Lib.hid hg
  have HD := Lib.hid hd
  have HS := Lib.hid hS
  have hn12 := hg.n12
  clear hp hg hd hS
  unfold netV netVal
  go_enter Tryz.func10, Tryz.ntmps10
  go_wp2_with fail
  go_wp2_with fail
  go_wp2_with fail
  go_wp2_with fail
  go_wp2_with fail
  go_wp2_with fail
  go_wp2_with fail
  go_wp2_with fail
  go_wp2_with fail
  go_wp2_with fail
  go_wp2_with fail
  go_wp2_with fail
  go_wp2_with fail
  go_step3
  go_wp2_with fail
  refine (start_any p h d _ HA.out.net HG.out HD.out).mono ?_
  rintro e w1 ⟨Y, A1, c1, rfl, hY, hLW⟩
  have HA1 := Lib.hid (HA.out.call hLW.below)
  have HY := Lib.hid hY
  have LY := Lib.hid hLW
  have hY12 : 0 < Y.length ∧ Y.length ≤ 12 := by have := congrArg List.length hY; rw [List.length_map, stL_len] at this; omega
  have hY0 : ((Y.length : Int) == 0) = false := by rw [beq_eq_false_iff_ne]; omega
  obtain ⟨g0, g1, g2, g3, g4, g5, g6⟩ := HA1.out.all
  have hLb := hLW.below
  have NG := Lib.hid HG.out.netG
  clear hY hLW
  go_wp2_with fail
  go_step3
  go_wp2_with fail
  clear g0 g1 g2 g3 g4 g5 g6 hY0
  go_loopw [11, 12] (fun sl si wx => ∃ (r : Nat) (Z : List RtZ) (A : Option Addr) (c : Nat), r ≤ R ∧ si = .int .i64 r ∧ sl = .slice A Z.length c ∧ Z.map (·.1) = stL p (runF p f d r) ∧ LW w wx Z A c ∧ Below w1.heap.size w1 wx) (fun _ si _ => R - (intOf si).toNat)
  case atStart => exact ⟨0, Y, A1, c1, Nat.zero_le _, rfl, rfl, HY.out, LY.out.since ((Below.refl _ _).alloc (Nat.le_refl _) _), Below.refl _ _⟩
  case round =>
    obtain ⟨r, Z, A, c, hr, rfl, rfl, hZ, hL, hB⟩ := hrel
    have HZ := Lib.hid hZ
    have LX := Lib.hid hL
    have BX := Lib.hid hB
    have HA2 := Lib.hid (HA1.out.call hB)
    have hZ12 : Z.length ≤ 12 := by have := congrArg List.length hZ; rw [List.length_map, stL_len] at this; omega
    obtain ⟨g0, g1, g2, g3, g4, g5, g6⟩ := HA2.out.all
    clear hZ hL hB
    go_wp2_with fail
    refine (stepR_any p h f d (runF p f d r) Z A c _ HA2.out.net HG.out HD.out LX.out.rts HZ.out (run_fits NG.out r)).mono ?_
    rintro e w3 ⟨X, A3, c3, rfl, hX, hLX⟩
    have HX := Lib.hid (show X.map (·.1) = stL p (runF p f d (r + 1)) from hX)
    have LX3 := Lib.hid hLX
    have LX2 := Lib.hid (LX.out.call hLX.below)
    have B3 := Lib.hid (since_trans BX.out hLX.below)
    have hX12 : X.length ≤ 12 := by have := congrArg List.length hX; rw [List.length_map, stL_len] at this; omega
    clear hX hLX g0 g1 g2 g3 g4 g5 g6
    by_cases hbud : b < (r : Int) + 1
    · have HF : Hid (SolvePost p f d b R w (.returned (.tuple #[.slice none 0 0, .int .i64 0, .int .i64 70])) w3) := Lib.hid (.inr ⟨by omega, rfl, LX2.out.below⟩)
      go_wp2
      rw [Exit.noGoto_ret]
      go_ret3
      exact HF.out
    · have hbud' : (r : Int) + 1 ≤ b := by omega
      clear hbud
      go_wp2_with fail
      refine (sameR_any Z X A A3 c c3 _ LX2.out.rts LX3.out.rts (by omega) (by omega)).mono ?_
      rintro e w4 ⟨rfl, hb4⟩
      rw [HZ.out, HX.out]
      have B4 := Lib.hid (since_trans B3.out hb4)
      have LZ4 := Lib.hid (LX2.out.call hb4)
      have LX4 := Lib.hid ((LX3.out.call hb4).since LX.out.below)
      clear hb4
      by_cases hs : stL p (runF p f d r) = stL p (runF p f d (r + 1))
      · have hrR : r = R := by
          rcases Nat.lt_or_eq_of_le hr with h1 | h1
          · exact absurd hs (HS.out.least r h1)
          · exact h1
        have HF : Hid (SolvePost p f d b R w (.returned (.tuple #[.slice A Z.length c, .int .i64 r, .int .i64 0])) w4) := Lib.hid (.inl ⟨by omega, Z, A, c, by rw [hrR], by rw [HZ.out, hrR], LZ4.out⟩)
        rw [show decide (stL p (runF p f d r) = stL p (runF p f d (r + 1))) = true from decide_eq_true hs]
        clear hs hrR
        go_wp2
        rw [Exit.noGoto_ret]
        go_ret3
        exact HF.out
      · have hrR : r + 1 ≤ R := by
          rcases Nat.lt_or_eq_of_le hr with h1 | h1
          · exact h1
          · exact absurd (by rw [h1]; exact HS.out.stop) hs
        rw [show decide (stL p (runF p f d r) = stL p (runF p f d (r + 1))) = false from decide_eq_false hs]
        clear hs
        go_wp2
        go_roundw
        case rel => exact ⟨r + 1, X, A3, c3, hrR, by go_num, rfl, HX.out, LX4.out, B4.out⟩
        case measure => simp [intOf]; omega
/-! ### A destination that is not there -/
theorem there_no (p : Net) (h : Hd) (d : Int) (w : World) (hp : NetR w w.heap.size p h) (hg : Good p) (h0 : 0 ≤ d) (h1 : (p.dests.length : Int) ≤ d) :
    Calls Tryz.prog 44 #[netV p h, .int .i64 d] w fun e w' => e = .returned (.bool false) ∧ Below w.heap.size w w' := by
  have HA := Lib.hid (AtRight.begin hp)
  have HG := Lib.hid hg
  clear hp hg
  unfold netV netVal
  go_enter Tryz.func44, Tryz.ntmps44
  go_wp2_with fail
  refine (right_any p h _ HA.out.net HG.out.small HG.out.names).mono ?_
  rintro e w1 ⟨rfl, hb1⟩
  rw [HG.out.right]
  have HA1 := Lib.hid (HA.out.call hb1)
  obtain ⟨c0, c1, c2, c3, c4, c5, c6⟩ := HA1.out.all
  clear hb1
  go_wp2
  go_ret
  exact ⟨ret_bool (decide_eq_false (by omega)), HA1.out.below⟩
theorem start_no (p : Net) (h : Hd) (d : Int) (w : World) (hp : NetR w w.heap.size p h) (hg : Good p) (h0 : 0 ≤ d) (h1 : (p.dests.length : Int) ≤ d) :
    Calls Tryz.prog 20 #[netV p h, .int .i64 d] w fun e w' => e = .returned (.slice none 0 0) ∧ Below w.heap.size w w' := by
  have HA := Lib.hid (AtRight.begin hp)
  have HG := Lib.hid hg
  clear hp hg
  unfold netV netVal
  go_enter Tryz.func20, Tryz.ntmps20
  go_wp2_with fail
  refine (there_no p h d _ HA.out.net HG.out h0 h1).mono ?_
  rintro e w1 ⟨rfl, hb1⟩
  have HA1 := Lib.hid (HA.out.call hb1)
  clear hb1
  go_wp2
  go_ret
  exact ⟨rfl, HA1.out.below⟩
theorem solve_no (p : Net) (h : Hd) (f d b : Int) (w : World) (hp : NetR w w.heap.size p h) (hg : Good p) (h0 : 0 ≤ d) (h1 : (p.dests.length : Int) ≤ d) :
    Calls Tryz.prog 10 #[netV p h, .int .i64 f, .int .i64 d, .int .i64 b] w fun e w' => e = .returned (.tuple #[.slice none 0 0, .int .i64 0, .int .i64 1]) ∧ Below w.heap.size w w' := by
  have HA := Lib.hid (AtRight.begin hp)
  have HG := Lib.hid hg
  clear hp hg
  unfold netV netVal
  go_enter Tryz.func10, Tryz.ntmps10
  go_wp2_with fail
  go_step3
  go_wp2_with fail
  refine (start_no p h d _ HA.out.net HG.out h0 h1).mono ?_
  rintro e w1 ⟨rfl, hb1⟩
  have HA1 := Lib.hid (HA.out.call hb1)
  clear hb1
  go_wp2
  rw [Exit.noGoto_ret]
  go_ret3
  exact ⟨by rfl, HA1.out.below⟩
end Go.Proofs.YtakolnmoieiicaaGreat
